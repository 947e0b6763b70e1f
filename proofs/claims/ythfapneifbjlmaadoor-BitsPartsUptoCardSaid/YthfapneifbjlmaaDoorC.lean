/- The set of layer 3: Of. -/
import Derived.Test.YthfapneifbjlmaaDoorB
import Derived.Laws.CopyOwn
namespace Go.Proofs.YthfapneifbjlmaaDoor
open Go.RowKit
set_option linter.unusedVariables false

theorem size42 : (Tryd.prog.info? 42).map (·.size) = some 1 := by kernel_rfl
theorem IsSet.copied {W : World} {g h room : Nat} {vs ws : List Nat} (H : IsSet W g h room vs) (hl : ws.length = vs.length) (hw : ∀ x, x ∈ ws → x < 18446744073709551616) :
    ∃ cur : Array Value, W.heap[h]? = some (.cells cur 42 (0, 0)) ∧ 0 + (u64s ws).length ≤ cur.size ∧ IsSet (W.setRow h (cur.toList.take 0 ++ (u64s ws ++ cur.toList.drop (0 + (u64s ws).length))).toArray) g h room ws := by
  have hne := H.lt.2.2
  obtain ⟨cap, cur, a, b, hc, hcm, hs, ht, h1, h2, h3⟩ := H
  refine ⟨cur, b, by simp [u64s]; omega, cap, _, ?_, setRow_heap W h cur _ 42 _ b, by omega, hcm, ?_, ?_, by omega, h2, hw⟩
  · rw [setRow_other W h g _ hne, hl]; exact a
  · simp [u64s]; omega
  · simp [u64s]

set_option maxHeartbeats 400000 in
theorem Of_ok (W : World) (n : Nat) (ad : Addr) (ws : List Nat) (c : Nat) (hcs : ∀ j u, (u64s ws)[j]? = some u → W.cell? (ad.add j) = some u) (hw : ∀ x, x ∈ ws → x < 18446744073709551616)
    (hn : n ≤ 4096) (hl : ws.length = (n + 63) / 64) (hlast : n % 64 = 0 ∨ wd ws (n / 64) / 2 ^ (n % 64) = 0) :
    Calls Tryd.prog 12 #[.int .i64 n, .slice (some ad) ws.length c] W fun e w' => ∃ g h, e = .returned (.tuple #[.pointer (some ⟨g, 0, none⟩), .int .i64 0]) ∧ IsSet w' g h n ws ∧ W.heap.size ≤ g ∧ W.heap.size ≤ h ∧ Below W.heap.size W w' := by
  have hnew := Lib.hid (New_ok W n hn)
  have HL := Lib.hid hl
  have HC := Lib.hid hcs
  clear hcs
  have hlen : (u64s ws).length = ws.length := by simp [u64s]
  have HLN := Lib.hid hlen
  clear hlen
  by_cases h64 : (n : Int) % 64 = 0
  · clear hl
    go_enter Tryd.func12, Tryd.ntmps12
    go_wp2_with (first | (go_at_call 15; refine hnew.out.mono ?_; rintro e w1 ⟨g, h, rfl, HS, hg, hh, hb⟩; obtain ⟨cap, h0, h1, h2, hcap⟩ := HS.cells; rw [List.length_replicate, ← HL.out] at h1 hcap; obtain ⟨cur, hcur, hfit, HS'⟩ := HS.copied (ws := ws) (by rw [List.length_replicate]; exact HL.out) hw; have HQ := Lib.hid hcur; have HF := Lib.hid hfit; clear hcur hfit) | (with_reducible refine wpList_copy_own rfl (.tmp 43) (.tmp 44) 32 32 rfl 42 Tryd.underlying32 size42 h 0 ws.length cap ad ws.length c rfl rfl cur 42 HQ.out (u64s ws) ?c1 ?c2 HF.out (u64s_one ws) ?_))
    case c1 => rw [HLN.out]; simp
    case c2 => exact fun j v hv => (hb.cell (World.block_lt_of_cell? W _ (HC.out j v hv))).trans (HC.out j v hv)
    go_wp2
    go_ret2
    exact ⟨g, h, rfl, by simpa using HS', hg, hh, below_setRow hb hh _⟩
  · have h64' : 0 < (n : Int) % 64 := by omega
    have hsh : (((wd ws (n / 64) : Nat) : Int) / (2 : Int) ^ (n % 64) != 0) = false := by
      have h := hlast.resolve_left (by omega)
      rw [bne_eq_false_iff_eq]
      have e : ((wd ws (n / 64) / 2 ^ (n % 64) : Nat) : Int) = ((wd ws (n / 64) : Nat) : Int) / (2 : Int) ^ (n % 64) := by push_cast; rfl
      rw [← e, h]; rfl
    have hx : 0 < (ws.length : Int) := by omega
    have hx2 : (ws.length : Int) ≤ 64 := by omega
    have ha : ad.add (ws.length - 1) = ad.add (n / 64) := by congr 1; omega
    have hword : W.cell? (ad.add (n / 64)) = some (.int .u64 (wd ws (n / 64))) := HC.out (n / 64) _ (by
      have hj : n / 64 < ws.length := by omega
      simp [u64s, wd, List.getElem?_eq_getElem hj])
    have HA := Lib.hid ha
    have HW := Lib.hid hword
    clear hl ha hword
    go_enter Tryd.func12, Tryd.ntmps12
    go_wp2_with (first | (go_at_call 15; refine hnew.out.mono ?_; rintro e w1 ⟨g, h, rfl, HS, hg, hh, hb⟩; obtain ⟨cap, h0, h1, h2, hcap⟩ := HS.cells; rw [List.length_replicate, ← HL.out] at h1 hcap; obtain ⟨cur, hcur, hfit, HS'⟩ := HS.copied (ws := ws) (by rw [List.length_replicate]; exact HL.out) hw; have HQ := Lib.hid hcur; have HF := Lib.hid hfit; clear hcur hfit; have hcw : w1.cell? (ad.add (ws.length - 1)) = some (.int .u64 (wd ws (n / 64))) := by rw [HA.out]; exact (hb.cell (World.block_lt_of_cell? W _ HW.out)).trans HW.out) | (with_reducible refine wpList_copy_own rfl (.tmp 43) (.tmp 44) 32 32 rfl 42 Tryd.underlying32 size42 h 0 ws.length cap ad ws.length c rfl rfl cur 42 HQ.out (u64s ws) ?c1 ?c2 HF.out (u64s_one ws) ?_))
    case c1 => rw [HLN.out]; simp
    case c2 => exact fun j v hv => (hb.cell (World.block_lt_of_cell? W _ (HC.out j v hv))).trans (HC.out j v hv)
    go_wp2
    go_ret2
    exact ⟨g, h, rfl, by simpa using HS', hg, hh, below_setRow hb hh _⟩

set_option maxHeartbeats 400000 in
theorem Of_room (W : World) (n : Int) (A : Option Addr) (m c : Nat) (hn : n < 0 ∨ 4096 < n) :
    Calls Tryd.prog 12 #[.int .i64 n, .slice A m c] W fun e w' => e = .returned (.tuple #[.pointer none, .int .i64 30]) ∧ Below W.heap.size W w' := by
  have hnew := Lib.hid (New_bad W n hn)
  clear hn
  go_enter Tryd.func12, Tryd.ntmps12
  go_wp2_with (first | (go_at_call 15; refine hnew.out.mono ?_; rintro e w1 ⟨rfl, rfl⟩))
  go_ret2
  exact ⟨rfl, Below.refl _ _⟩
set_option maxHeartbeats 400000 in
theorem Of_length (W : World) (n : Nat) (A : Option Addr) (m c : Nat) (hn : n ≤ 4096) (hm : m ≠ (n + 63) / 64) :
    Calls Tryd.prog 12 #[.int .i64 n, .slice A m c] W fun e w' => e = .returned (.tuple #[.pointer none, .int .i64 30]) ∧ Below W.heap.size W w' := by
  have hnew := Lib.hid (New_ok W n hn)
  have hne : ((m : Int) != (((n + 63) / 64 : Nat) : Int)) = true := by rw [bne_iff_ne]; omega
  have hnz : ∃ L : Nat, L = (n + 63) / 64 := ⟨_, rfl⟩
  obtain ⟨L, hL⟩ := hnz
  rw [← hL] at hne
  have HL := Lib.hid hL
  clear hL hm
  go_enter Tryd.func12, Tryd.ntmps12
  go_wp2_with (first | (go_at_call 15; refine hnew.out.mono ?_; rintro e w1 ⟨g, h, rfl, HS, hg, hh, hb⟩; obtain ⟨cap, h0, h1, h2, hcap⟩ := HS.cells; rw [List.length_replicate, ← HL.out] at h1 hcap))
  go_ret2
  exact ⟨rfl, hb⟩
set_option maxHeartbeats 400000 in
theorem Of_high (W : World) (n : Nat) (ad : Addr) (ws : List Nat) (c : Nat) (hcs : ∀ j u, (u64s ws)[j]? = some u → W.cell? (ad.add j) = some u)
    (hn : n ≤ 4096) (hl : ws.length = (n + 63) / 64) (h64 : n % 64 ≠ 0) (hlast : wd ws (n / 64) / 2 ^ (n % 64) ≠ 0) :
    Calls Tryd.prog 12 #[.int .i64 n, .slice (some ad) ws.length c] W fun e w' => e = .returned (.tuple #[.pointer none, .int .i64 30]) ∧ Below W.heap.size W w' := by
  have hnew := Lib.hid (New_ok W n hn)
  have HL := Lib.hid hl
  have h64' : 0 < (n : Int) % 64 := by omega
  have hsh : (((wd ws (n / 64) : Nat) : Int) / (2 : Int) ^ (n % 64) != 0) = true := by
    rw [bne_iff_ne]
    have e : ((wd ws (n / 64) / 2 ^ (n % 64) : Nat) : Int) = ((wd ws (n / 64) : Nat) : Int) / (2 : Int) ^ (n % 64) := by push_cast; rfl
    rw [← e]; omega
  have hb64 : ((n : Int) % 64 != 0) = true := by rw [bne_iff_ne]; omega
  have hx : 0 < (ws.length : Int) := by omega
  have hx2 : (ws.length : Int) ≤ 64 := by omega
  have ha : ad.add (ws.length - 1) = ad.add (n / 64) := by congr 1; omega
  have hword : W.cell? (ad.add (n / 64)) = some (.int .u64 (wd ws (n / 64))) := hcs (n / 64) _ (by
    have hj : n / 64 < ws.length := by omega
    simp [u64s, wd, List.getElem?_eq_getElem hj])
  have HA := Lib.hid ha
  have HW := Lib.hid hword
  clear hl ha hword hcs hlast h64
  go_enter Tryd.func12, Tryd.ntmps12
  go_wp2_with (first | (go_at_call 15; refine hnew.out.mono ?_; rintro e w1 ⟨g, h, rfl, HS, hg, hh, hb⟩; obtain ⟨cap, h0, h1, h2, hcap⟩ := HS.cells; rw [List.length_replicate, ← HL.out] at h1 hcap; have hcw : w1.cell? (ad.add (ws.length - 1)) = some (.int .u64 (wd ws (n / 64))) := by rw [HA.out]; exact (hb.cell (World.block_lt_of_cell? W _ HW.out)).trans HW.out))
  go_ret2
  exact ⟨rfl, hb⟩
end Go.Proofs.YthfapneifbjlmaaDoor
