/- Layer 4: counts, small: the walks. -/
import Derived.Test.YtofinglgnkdflaaLX0
import Derived.Lib.Hide
import Derived.WalkSpells
import Derived.WalkLawsBesides
section
namespace Go.Proofs.Ytofinglgnkdflaa
open Go.RowKit Go.Lib
open Go.Proofs.Ytofinglgnkdflaa.PHistoryChecks Go.Proofs.YtofinglgnkdflaaW.PrintWords
set_option linter.unusedVariables false
set_option linter.unusedSimpArgs false
mutual
def nd : S43 → Nat
  | ⟨_, _, _, _, l⟩ => 1 + ndL l
def ndL : List S43 → Nat
  | [] => 0
  | x :: l => nd x + ndL l
end
mutual
def dp : S43 → Nat
  | ⟨_, _, _, _, l⟩ => 1 + dpL l
def dpL : List S43 → Nat
  | [] => 0
  | x :: l => max (dp x) (dpL l)
end
theorem nd_eq (v : S43) : nd v = 1 + ndL v.f4 := by cases v; rfl
theorem dp_eq (v : S43) : dp v = 1 + dpL v.f4 := by cases v; rfl
theorem ndL_app (l m : List S43) : ndL (l ++ m) = ndL l + ndL m := by
  induction l with
  | nil => simp [ndL]
  | cons x l ih => simp only [List.cons_append, ndL, ih]; omega
theorem dpL_app (l m : List S43) : dpL (l ++ m) = max (dpL l) (dpL m) := by
  induction l with
  | nil => simp [dpL]
  | cons x l ih => simp only [List.cons_append, dpL, ih]; omega
theorem ndL_mem (x : S43) (l : List S43) (h : x ∈ l) : nd x ≤ ndL l := by
  induction l with
  | nil => cases h
  | cons y l ih =>
    simp only [ndL]
    rcases List.mem_cons.1 h with rfl | h
    · omega
    · have := ih h; omega
theorem nd_pos (v : S43) : 1 ≤ nd v := by rw [nd_eq]; omega
theorem dp_pos (v : S43) : 1 ≤ dp v := by rw [dp_eq]; omega
theorem take_rd (l : List S43) (i : Int) (h0 : 0 ≤ i) (h1 : i < (l.length : Int)) : l.take (i + 1).toNat = l.take i.toNat ++ [rd_T43 l i] := by
  have hn : i.toNat < l.length := by omega
  have e : (i + 1).toNat = i.toNat + 1 := by omega
  rw [e, List.take_add_one, List.getElem?_eq_getElem hn]
  unfold rd_T43
  rw [List.getD_eq_getElem?_getD, List.getElem?_eq_getElem hn]; rfl
theorem rd_mem (l : List S43) (i : Int) (h0 : 0 ≤ i) (h1 : i < (l.length : Int)) : rd_T43 l i ∈ l := by
  have hn : i.toNat < l.length := by omega
  unfold rd_T43
  rw [List.getD_eq_getElem?_getD, List.getElem?_eq_getElem hn]; exact List.getElem_mem hn
theorem ndL_le (l : List S43) (k : Nat) : ndL (l.take k) ≤ ndL l := by
  have := ndL_app (l.take k) (l.drop k); rw [List.take_append_drop] at this; omega
theorem dpL_le (l : List S43) (k : Nat) : dpL (l.take k) ≤ dpL l := by
  have := dpL_app (l.take k) (l.drop k); rw [List.take_append_drop] at this; omega
theorem atF43 {w : World} {ok : Nat → Prop} {A : Option Addr} {n : Nat} {xs : List S43} (h : Kd.F k43 w ok A n xs) (i : Int) (h0 : 0 ≤ i) (h1 : i < n) : ∃ ad A4 c4, A = some ad ∧ w.cell? (ad.add (i.toNat * 5)) = some (.int .i64 (rd_T43 xs i).f0) ∧ w.cell? ⟨(ad.add (i.toNat * 5)).block, (ad.add (i.toNat * 5)).off + 1, none⟩ = some (.int .i64 (rd_T43 xs i).f1) ∧ w.cell? ⟨(ad.add (i.toNat * 5)).block, (ad.add (i.toNat * 5)).off + 2, none⟩ = some (.int .i64 (rd_T43 xs i).f2) ∧ w.cell? ⟨(ad.add (i.toNat * 5)).block, (ad.add (i.toNat * 5)).off + 3, none⟩ = some (.string (rd_T43 xs i).f3) ∧ w.cell? ⟨(ad.add (i.toNat * 5)).block, (ad.add (i.toNat * 5)).off + 4, none⟩ = some (.slice A4 (rd_T43 xs i).f4.length c4) ∧ (rd_T43 xs i).f4.length ≤ c4 ∧ Kd.F k43 w ok A4 (rd_T43 xs i).f4.length (rd_T43 xs i).f4 ∧ ok ad.block := by
  obtain ⟨ad, c, e, _, hK, hc0, hok⟩ := Kd.F_get h z43 i h0 h1
  have hc : ∀ j u, c[j]? = some u → w.cell? (ad.add (i.toNat * 5 + j)) = some u := hc0
  obtain ⟨A4, c4, rfl, l4, g4⟩ := k43_openF hK
  exact ⟨ad, A4, c4, e, hc 0 _ rfl, by rw [← add_field _ _ 1 (by omega)]; exact hc 1 _ rfl, by rw [← add_field _ _ 2 (by omega)]; exact hc 2 _ rfl, by rw [← add_field _ _ 3 (by omega)]; exact hc 3 _ rfl, by rw [← add_field _ _ 4 (by omega)]; exact hc 4 _ rfl, l4, g4, hok (by decide)⟩
def CountsP (v : S43) (d n m n' : Int) : Prop :=
  d ≤ m ∧ m ≤ 17 ∧ n < n' ∧ n' ≤ 4097 ∧ ((n + nd v ≤ 4096 ∧ d + dp v ≤ 17) → m = d + dp v - 1 ∧ n' = n + nd v) ∧ (¬ (n + nd v ≤ 4096 ∧ d + dp v ≤ 17) → 4096 < n' ∨ 16 < m)
theorem countsP_over (v : S43) (d n : Int) (h0 : 0 ≤ n) (h1 : n ≤ 4096) (hd1 : 1 ≤ d) (hd : d ≤ 17) (h : 4096 < n + 1 ∨ 16 < d) : CountsP v d n d (n + 1) := by
  have h2 := nd_pos v; have h3 := dp_pos v
  refine ⟨by omega, by omega, by omega, by omega, fun h4 => ?_, fun _ => by omega⟩
  omega
def CountsI (v : S43) (d n : Int) (i m n' : Int) : Prop :=
  n' = n + 1 + ndL (v.f4.take i.toNat) ∧ m = d + dpL (v.f4.take i.toNat) ∧ n' ≤ 4096 ∧ m ≤ 16
theorem countsI_step (v : S43) (d n i m n' m1 n1 : Int) (h0 : 0 ≤ n) (hd1 : 1 ≤ d) (hi0 : 0 ≤ i) (hi : i < (v.f4.length : Int)) (h : CountsI v d n i m n') (hc : CountsP (rd_T43 v.f4 i) (d + 1) n' m1 n1) :
    (¬ (4096 < n1 ∨ 16 < max m m1) → CountsI v d n (i + 1) (max m m1) n1) ∧ ((4096 < n1 ∨ 16 < max m m1) → CountsP v d n (max m m1) n1) := by
  obtain ⟨e1, e2, h3, h4⟩ := h
  obtain ⟨c1, c2, c3, c4, c5, c6⟩ := hc
  have t1 := take_rd v.f4 i hi0 hi
  have t2 : ndL (v.f4.take (i + 1).toNat) = ndL (v.f4.take i.toNat) + nd (rd_T43 v.f4 i) := by rw [t1, ndL_app]; simp [ndL]
  have t3 : dpL (v.f4.take (i + 1).toNat) = max (dpL (v.f4.take i.toNat)) (dp (rd_T43 v.f4 i)) := by rw [t1, dpL_app]; simp [dpL]
  have t4 := ndL_le v.f4 (i + 1).toNat
  have t5 := dpL_le v.f4 (i + 1).toNat
  have n0 := nd_eq v; have d0 := dp_eq v
  have p1 := dp_pos (rd_T43 v.f4 i)
  refine ⟨fun hn => ?_, fun hn => ⟨by omega, by omega, by omega, by omega, fun h6 => ?_, fun _ => by omega⟩⟩
  · by_cases h7 : n' + nd (rd_T43 v.f4 i) ≤ 4096 ∧ d + 1 + dp (rd_T43 v.f4 i) ≤ 17
    · obtain ⟨c7, c8⟩ := c5 h7
      exact ⟨by omega, by omega, by omega, by omega⟩
    · have := c6 h7; omega
  · have h7 : n' + nd (rd_T43 v.f4 i) ≤ 4096 ∧ d + 1 + dp (rd_T43 v.f4 i) ≤ 17 := by omega
    obtain ⟨c7, c8⟩ := c5 h7
    omega
theorem countsI_end (v : S43) (d n m n' : Int) (h0 : 0 ≤ n) (hd1 : 1 ≤ d) (h : CountsI v d n v.f4.length m n') : CountsP v d n m n' := by
  obtain ⟨e1, e2, h3, h4⟩ := h
  rw [Int.toNat_natCast, List.take_of_length_le (Nat.le_refl _)] at e1 e2
  have n0 := nd_eq v; have d0 := dp_eq v
  exact ⟨by omega, by omega, by omega, by omega, fun h6 => by omega, fun h6 => by omega⟩
theorem countsI_start (v : S43) (d n : Int) (h1 : n + 1 ≤ 4096) (hd : d ≤ 16) : CountsI v d n 0 d (n + 1) := by
  refine ⟨?_, ?_, h1, hd⟩ <;> simp [ndL, dpL]
end Go.Proofs.Ytofinglgnkdflaa
end
section
namespace Go.Proofs.Ytofinglgnkdflaa
open Go.RowKit Go.Lib
open Go.Proofs.Ytofinglgnkdflaa.PHistoryChecks Go.Proofs.YtofinglgnkdflaaW.PrintWords Go.Proofs.YtofinglgnkdflaaW.PrintLast Go.Proofs.YtofinglgnkdflaaW.PrintMore
attribute [local go_sem] max2_int min2_int max_two min_two max_three min_three max_four min_four
set_option linter.unusedVariables false
set_option linter.unusedSimpArgs false
def v43 (v : S43) (A : Option Addr) (c : Nat) : Value := .agg #[.int .i64 v.f0, .int .i64 v.f1, .int .i64 v.f2, .string v.f3, .slice A v.f4.length c]
def CountsQ (v : S43) (d n : Int) (g : Nat) (W : World) (e : Ending) (w' : World) : Prop :=
  ∃ m n' : Int, e = .returned (.int .i64 m) ∧ CountsP v d n m n' ∧ w'.heap[g]? = some (.cells #[.int .i64 n'] 3 (0, 0)) ∧ W.grownBy w' (some g)
theorem grown_set {w w1 : World} {g : Nat} (h : w.grownBy w1 (some g)) (g' j : Nat) (u : Value) (hg : g' = g ∨ w.heap.size ≤ g' := by first | (left; rfl) | (right; omega)) : w.grownBy (w1.setCell ⟨g', j, none⟩ u) (some g) :=
  ⟨h.os, h.tape, h.output, Nat.le_trans h.size (by simp [World.setCell]), fun i hi hne => (Below.heap_setCell w1 ⟨g', j, none⟩ u i (by
    show i ≠ g'
    rcases hg with rfl | hg
    · intro e; subst e; exact hne rfl
    · omega)).trans (h.block i hi hne)⟩
theorem blk_alloc {w : World} {g : Nat} {o : Obj} (h : w.heap[g]? = some o) (o' : Obj) : (w.alloc o').heap[g]? = some o := (Below.heap_alloc w o' g (blk_lt h)).trans h
set_option maxHeartbeats 4000000 in
set_option maxRecDepth 100000 in
theorem counts_any (k : Nat) : ∀ (v : S43) (A : Option Addr) (c : Nat) (d n : Int) (g : Nat) (ok : Nat → Prop) (W : World), nd v ≤ k → Kd.F k43 W ok A v.f4.length v.f4 → v.f4.length ≤ c → (∀ k, ok k → k ≠ g) → W.heap[g]? = some (.cells #[.int .i64 n] 3 (0, 0)) → 0 ≤ n → n ≤ 4096 → 1 ≤ d → d ≤ 17 →
    Calls Try.prog 112 #[v43 v A c, .int .i64 d, .pointer (some ⟨g, 0, none⟩)] W (CountsQ v d n g W) := by
  induction k with
  | zero => intro v; intros; have := nd_pos v; omega
  | succ k ih =>
    intro v A c d n g ok W hk hF hc hok hg hn0 hn1 hd1 hd
    have hgl : g < W.heap.size := blk_lt hg
    have hlen := Kd.F_max hF
    unfold v43
    go_enter Try.func112, Try.ntmps112
    have hcell : W.cell? ⟨g, 0, none⟩ = some (.int .i64 n) := (blk_cell hg 0).trans rfl
    have hfro := blk_frozen hg 0
    have hgrow : ∀ (o : Obj) (u : Value), W.grownBy ((W.setCell ⟨g, 0, none⟩ u).alloc o) (some g) := fun o u => (grown_set (World.grownBy.refl W (some g)) g 0 u).trans (World.grownBy_alloc _ o (some g))
    have hgat : ∀ (o : Obj) (u : Value), ((W.setCell ⟨g, 0, none⟩ u).alloc o).heap[g]? = some (.cells #[u] 3 (0, 0)) := fun o u => blk_alloc (blk_set hg 0 u) o
    have HGR := Lib.hid hgrow
    have HGA := Lib.hid hgat
    clear hgrow hgat
    by_cases hov : 4096 < n + 1 ∨ 16 < d
    · have HP := Lib.hid (countsP_over v d n hn0 hn1 hd1 hd hov)
      rcases hov with hov | hov
      · go_wp2
        go_ret
        exact ⟨d, n + 1, rfl, HP.out, HGA.out _ _, HGR.out _ _⟩
      · by_cases hov2 : 4096 < n + 1
        · go_wp2
          go_ret
          exact ⟨d, n + 1, rfl, HP.out, HGA.out _ _, HGR.out _ _⟩
        · have hov3 : n + 1 ≤ 4096 := by omega
          clear hov2
          go_wp2
          go_ret
          exact ⟨d, n + 1, rfl, HP.out, HGA.out _ _, HGR.out _ _⟩
    · have h1 : n + 1 ≤ 4096 := by omega
      have h2 : d ≤ 16 := by omega
      clear hov
      have HST := Lib.hid (countsI_start v d n h1 h2)
      go_wp2
      go_loopw [7, 28] (fun mv iv wr => ∃ m i n' : Int, mv = .int .i64 m ∧ iv = .int .i64 i ∧ 0 ≤ i ∧ i ≤ (v.f4.length : Int) ∧ d ≤ m ∧ 0 ≤ n' ∧ n' ≤ 4096 ∧ m ≤ 16 ∧ Hid (CountsI v d n i m n') ∧ Hid (wr.heap[g]? = some (.cells #[.int .i64 n'] 3 (0, 0))) ∧ Hid (W.grownBy wr (some g))) (fun _ i _ => v.f4.length - (intOf i).toNat)
      case atStart => exact ⟨d, 0, n + 1, rfl, rfl, by omega, by omega, by omega, by omega, by omega, by omega, HST.out, HGA.out _ _, HGR.out _ _⟩
      case round =>
        obtain ⟨m, i, n', rfl, rfl, hi0, hi1, hdm, hn0', hn1', hm1, HI, HG, HW⟩ := hrel
        clear HST HGR HGA hcell hfro
        by_cases hlt : i < (v.f4.length : Int)
        · have HFr := Lib.hid (Kd.F_grown hF HW.out (fun k hk e => hok k hk (by injection e)))
          have hx := atF43 HFr.out i hi0 hlt
          obtain ⟨ad, A4, c4, rfl, x0, x1, x2, x3, x4, hl4, hF4, hka⟩ := hx
          have hgb := hok _ hka
          have HF4 := Lib.hid hF4
          have HL4 := Lib.hid hl4
          have hgw : g < wr.heap.size := blk_lt HG.out
          have hgc := blk_cell HG.out 0
          clear hF4 hl4 hka
          have hnd : nd (rd_T43 v.f4 i) ≤ k := by have := ndL_mem _ _ (rd_mem v.f4 i hi0 hlt); have := nd_eq v; omega
          have HST := Lib.hid (fun m1 n1 => countsI_step v d n i m n' m1 n1 hn0 hd1 hi0 hlt HI.out)
          go_wp2_with fail
          refine (ih (rd_T43 v.f4 i) A4 c4 (d + 1) n' g ok _ hnd (Kd.F_alloc HF4.out _) HL4.out hok (blk_alloc HG.out _) hn0' hn1' (by omega) (by omega)).mono ?_
          rintro e w1 ⟨m1, n1, rfl, hP, hG1, hW1⟩
          obtain ⟨hS1, hS2⟩ := HST.out m1 n1 hP
          have HS1 := Lib.hid hS1
          have HS2 := Lib.hid hS2
          have HG1 := Lib.hid hG1
          have hgc1 : w1.cell? ⟨g, 0, none⟩ = some (.int .i64 n1) := (blk_cell hG1 0).trans rfl
          have HW1 := Lib.hid (HW.out.trans ((World.grownBy_alloc wr _ (some g)).trans hW1))
          obtain ⟨p1, p2, p3, p4, _, _⟩ := hP
          clear hS1 hS2 hG1 hW1 HST hgc x0 x1 x2 x3 x4
          by_cases hmm : m < m1
          · rw [show max m m1 = m1 by omega] at HS1 HS2
            by_cases hov1 : 4096 < n1
            · have HQ := Lib.hid (HS2.out (.inl hov1))
              go_wp2
              go_ret
              exact ⟨_, _, rfl, HQ.out, HG1.out, HW1.out⟩
            · have hov1' : n1 ≤ 4096 := by omega
              clear hov1
              by_cases hov2 : 16 < m1
              · have HQ := Lib.hid (HS2.out (.inr hov2))
                go_wp2
                go_ret
                exact ⟨_, _, rfl, HQ.out, HG1.out, HW1.out⟩
              · have hov2' : m1 ≤ 16 := by omega
                have HQ := Lib.hid (HS1.out (by omega))
                clear hov2
                go_wp2
                go_roundw
                case rel => exact ⟨m1, i + 1, n1, rfl, rfl, by omega, by omega, by omega, by omega, by omega, by omega, HQ.out, HG1.out, HW1.out⟩
                case measure => simp [intOf]; omega
          · rw [show max m m1 = m by omega] at HS1 HS2
            have hmm' : m1 ≤ m := by omega
            clear hmm
            by_cases hov1 : 4096 < n1
            · have HQ := Lib.hid (HS2.out (.inl hov1))
              go_wp2
              go_ret
              exact ⟨_, _, rfl, HQ.out, HG1.out, HW1.out⟩
            · have hov1' : n1 ≤ 4096 := by omega
              clear hov1
              have HQ := Lib.hid (HS1.out (by omega))
              go_wp2
              go_roundw
              case rel => exact ⟨m, i + 1, n1, rfl, rfl, by omega, by omega, by omega, by omega, by omega, by omega, HQ.out, HG1.out, HW1.out⟩
              case measure => simp [intOf]; omega
        · have HE := Lib.hid (countsI_end v d n m n' hn0 hd1 (by
            have : i = (v.f4.length : Int) := by omega
            exact this ▸ HI.out))
          go_wp2
          go_ret
          exact ⟨_, _, rfl, HE.out, HG.out, HW.out⟩
theorem alloc_size (W : World) (o : Obj) : (W.alloc o).heap.size = W.heap.size + 1 := by simp
theorem k43_heap : Kd.Heap k43 := Kd.heap_fix (fun _ h_ => Kd.heap_iso _ (Kd.heap_pair (Kd.heap_int .i64) (Kd.heap_pair (Kd.heap_int .i64) (Kd.heap_pair (Kd.heap_int .i64) (Kd.heap_pair Kd.heap_string (Kd.heap_slice 43 h_))))))
theorem k43_F {w : World} {A : Option Addr} {n : Nat} {l : List S43} (h : Kd.C k43 w A n l) : Kd.F k43 w (fun k => k < w.heap.size) A n l := fun W' hW => Kd.Heap.C k43_heap (fun k hk => hW k hk hk) h
def smallB (v : S43) : Bool := decide (nd v ≤ 4096) && decide (dp v ≤ 16)
set_option maxHeartbeats 4000000 in
theorem small_any (v : S43) (A : Option Addr) (c : Nat) (W : World) (hC : Kd.C k43 W A v.f4.length v.f4) (hc : v.f4.length ≤ c) :
    Calls Try.prog 100 #[v43 v A c] W (fun e w' => e = .returned (.bool (smallB v)) ∧ Below W.heap.size W w') := by
  have hF := k43_F hC
  have hcall := fun (W1 : World) (hb : Below W.heap.size W W1) (hg : W1.heap[W.heap.size + 1]? = some (.cells #[.int .i64 0] 3 (0, 0))) => counts_any (nd v) v A c 1 0 (W.heap.size + 1) (fun k => k < W.heap.size) W1 (Nat.le_refl _) (Kd.F_step hF (fun k hk _ => hb.block k hk)) hc (fun k hk => by omega) hg (by omega) (by omega) (by omega) (by omega)
  have HC := Lib.hid hcall
  have h1 := nd_pos v; have h2 := dp_pos v
  clear hcall hF hC
  unfold v43 at HC ⊢
  go_enter Try.func100, Try.ntmps100
  go_wp2_with fail
  refine (HC.out _ (below_alloc (below_alloc (Below.refl _ _) _) _) (by have h := heap_alloc_new (W.alloc (.cells #[.int .i64 v.f0, .int .i64 v.f1, .int .i64 v.f2, .string v.f3, .slice A v.f4.length c] 43)) (.cells #[.int .i64 0] 3); rw [alloc_size] at h; exact h)).mono ?_
  rintro e w1 ⟨m, n', rfl, hP, hG, hW⟩
  have hgc : w1.cell? ⟨W.heap.size + 1, 0, none⟩ = some (.int .i64 n') := (blk_cell hG 0).trans rfl
  have HB := Lib.hid (show Below W.heap.size W w1 from (below_alloc (below_alloc (Below.refl W.heap.size W) (.cells #[.int .i64 v.f0, .int .i64 v.f1, .int .i64 v.f2, .string v.f3, .slice A v.f4.length c] 43)) (.cells #[.int .i64 0] 3)).grown hW (by rw [alloc_size, alloc_size]; omega) (fun k hk => by injection hk; omega))
  obtain ⟨p1, p2, p3, p4, p5, p6⟩ := hP
  have hs : smallB v = (decide (m ≤ 16) && decide (n' ≤ 4096)) := by
    unfold smallB
    by_cases h3 : nd v ≤ 4096
    · by_cases h4 : dp v ≤ 16
      · obtain ⟨q1, q2⟩ := p5 (by omega)
        rw [decide_eq_true h3, decide_eq_true h4, decide_eq_true (by omega), decide_eq_true (by omega)]
      · have q := p6 (by omega)
        rw [decide_eq_false h4, Bool.and_false]
        rcases q with q | q
        · rw [decide_eq_false (p := n' ≤ 4096) (by omega), Bool.and_false]
        · rw [decide_eq_false (p := m ≤ 16) (by omega), Bool.false_and]
    · have q := p6 (by omega)
      rw [decide_eq_false h3, Bool.false_and]
      rcases q with q | q
      · rw [decide_eq_false (p := n' ≤ 4096) (by omega), Bool.and_false]
      · rw [decide_eq_false (p := m ≤ 16) (by omega), Bool.false_and]
  have HS := Lib.hid hs
  clear hs p5 p6 hG hW HC
  by_cases h3 : m ≤ 16
  · go_wp2
    go_ret
    exact ⟨by rw [HS.out, decide_eq_true h3]; simp, HB.out⟩
  · have h3' : 16 < m := by omega
    go_wp2
    go_ret
    exact ⟨by rw [HS.out, decide_eq_false (show ¬ m ≤ 16 by omega)]; rfl, HB.out⟩
end Go.Proofs.Ytofinglgnkdflaa
end
