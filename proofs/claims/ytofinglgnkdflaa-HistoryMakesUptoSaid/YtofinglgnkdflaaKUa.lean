/- Layer 7: smear: a value's items are written over. -/
import Derived.Test.YtofinglgnkdflaaKXD
namespace Go.Proofs.Ytofinglgnkdflaa
open Go.RowKit
open Go.Proofs.Ytofinglgnkdflaa.PHistoryChecks Go.Proofs.YtofinglgnkdflaaW.PrintWords Go.Proofs.YtofinglgnkdflaaW.PrintLast Go.Proofs.YtofinglgnkdflaaW.PrintMore
set_option linter.unusedVariables false
set_option linter.unusedSimpArgs false
def TreeT (w : World) (base top : Nat) : Nat → Value → Prop
  | 0, u => ∃ A c, u = .slice A 0 c
  | n + 1, u => (∃ A c, u = .slice A 0 c) ∨ ∃ g len c cur, u = .slice (some ⟨g, 0, none⟩) len c ∧ base ≤ g ∧ g < top ∧ w.heap[g]? = some (.cells cur 43 (0, 0)) ∧ len ≤ maxLen ∧ len * 5 ≤ cur.size ∧
      ∀ j, j < len → ∃ (a b i : Int) (s : ByteArray) (v : Value), Chunk 5 cur j [.int .i64 a, .int .i64 b, .int .i64 i, .string s, v] ∧ TreeT w base top n v
theorem TreeT.move {w w1 : World} {base top : Nat} (hm : ∀ k, base ≤ k → k < top → w1.heap[k]? = w.heap[k]?) : ∀ n u, TreeT w base top n u → TreeT w1 base top n u
  | 0, u, h => h
  | n + 1, u, h => by
    rcases h with h | ⟨g, len, c, cur, rfl, h1, h2, h3, h4, h5, h6⟩
    · exact .inl h
    · refine .inr ⟨g, len, c, cur, rfl, h1, h2, (hm g h1 h2).trans h3, h4, h5, fun j hj => ?_⟩
      obtain ⟨a, b, i, s, v, hc, hv⟩ := h6 j hj
      exact ⟨a, b, i, s, v, hc, TreeT.move hm n v hv⟩
theorem TreeT.nil (w : World) (base top n : Nat) : TreeT w base top n (.slice none 0 0) := by
  cases n with
  | zero => exact ⟨_, _, rfl⟩
  | succ n => exact .inl ⟨_, _, rfl⟩
theorem TreeT.set {w : World} {base top g i : Nat} {cur : Array Value} (hg : w.heap[g]? = some (.cells cur 43 (0, 0))) (hi : i * 5 + 5 ≤ cur.size) :
    ∀ n u, TreeT w base top n u → TreeT (set5w g (i * 5) (.int .i64 9) (.int .i64 0) (.int .i64 0) (.string ⟨#[]⟩) (.slice none 0 0) w) base top n u
  | 0, u, h => h
  | n + 1, u, h => by
    rcases h with h | ⟨g', len, c, cur', rfl, h1, h2, h3, h4, h5, h6⟩
    · exact .inl h
    · right
      by_cases e : g' = g
      · subst e
        rw [hg] at h3
        injection h3 with h3
        injection h3 with h3
        subst h3
        refine ⟨g', len, c, _, rfl, h1, h2, set5w_at _ _ _ _ _ _ _ _ _ _ hg, h4, by rw [set5_size]; exact h5, fun j hj => ?_⟩
        by_cases ej : j = i
        · subst ej
          exact ⟨9, 0, 0, ⟨#[]⟩, .slice none 0 0, set5_chunk _ _ _ _ _ _ _ hi, TreeT.nil _ _ _ _⟩
        · obtain ⟨a, b, i', s, v, hc, hv⟩ := h6 j hj
          refine ⟨a, b, i', s, v, ⟨hc.1, fun o u hu => ?_⟩, TreeT.set hg hi n v hv⟩
          have ho : o < 5 := (List.getElem?_eq_some_iff.1 hu).1
          rw [set5_far _ _ _ _ _ _ _ _ (by omega)]
          exact hc.2 o u hu
      · refine ⟨g', len, c, cur', rfl, h1, h2, (set5w_far _ _ _ _ _ _ _ _ _ e).trans h3, h4, h5, fun j hj => ?_⟩
        obtain ⟨a, b, i', s, v, hc, hv⟩ := h6 j hj
        exact ⟨a, b, i', s, v, hc, TreeT.set hg hi n v hv⟩
structure SmP (base top : Nat) (w w' : World) : Prop where
  below : Below base w w'
  block : ∀ k, k < w.heap.size → (top ≤ k ∨ ∃ cells t, w.heap[k]? = some (.cells cells t (0, 0)) ∧ t ≠ 43) → w'.heap[k]? = w.heap[k]?
  tree : ∀ n u, TreeT w base top n u → TreeT w' base top n u
theorem SmP.refl (base top : Nat) (w : World) : SmP base top w w := ⟨Below.refl _ _, fun _ _ _ => rfl, fun _ _ h => h⟩
theorem SmP.trans {base top : Nat} {a b c : World} (h : SmP base top a b) (k : SmP base top b c) : SmP base top a c :=
  ⟨h.below.trans k.below, fun i hi hc => by
    have e := h.block i hi hc
    refine (k.block i (Nat.lt_of_lt_of_le hi h.below.size) ?_).trans e
    rcases hc with hc | ⟨cells, t, h1, h2⟩
    · exact .inl hc
    · exact .inr ⟨cells, t, e.trans h1, h2⟩, fun n u ht => k.tree n u (h.tree n u ht)⟩
theorem SmP.of_below {base top : Nat} {w w' : World} (hb : Below w.heap.size w w') (ht : top ≤ w.heap.size) (hbt : base ≤ top) : SmP base top w w' :=
  ⟨hb.mono (by omega), fun k hk _ => hb.block k hk, TreeT.move (fun k _ h2 => hb.block k (by omega))⟩
theorem SmP.set {base top g i : Nat} {w : World} {cur : Array Value} (hb : base ≤ g) (ht : g < top) (hg : w.heap[g]? = some (.cells cur 43 (0, 0))) (hi : i * 5 + 5 ≤ cur.size) :
    SmP base top w (set5w g (i * 5) (.int .i64 9) (.int .i64 0) (.int .i64 0) (.string ⟨#[]⟩) (.slice none 0 0) w) :=
  ⟨set5w_below (Below.refl _ _) _ _ hb _ _ _ _ _, fun k hk hc => by
    refine set5w_far _ _ _ _ _ _ _ _ _ (fun e => ?_)
    subst e
    rcases hc with hc | ⟨cells, t, h1, h2⟩
    · omega
    · rw [hg] at h1
      injection h1 with h1
      injection h1 with _ h1
      exact h2 h1.symm, TreeT.set hg hi⟩
set_option maxHeartbeats 4000000 in
theorem smear_nil (base top : Nat) (hbt : base ≤ top) (w : World) (a b i : Int) (s : ByteArray) (A : Option Addr) (c : Nat) (ht : top ≤ w.heap.size) :
    Calls Try.prog 21 #[.agg #[.int .i64 a, .int .i64 b, .int .i64 i, .string s, .slice A 0 c]] w (fun e w' => e = .returned (.tuple #[]) ∧ SmP base top w w') := by
  have HP := Lib.hid (SmP.of_below (below_alloc (Below.refl w.heap.size w) (.cells #[.int .i64 a, .int .i64 b, .int .i64 i, .string s, .slice A 0 c] 43)) ht hbt)
  go_enter Try.func21, Try.ntmps21
  go_wp2
  go_loopw [2] (fun iv wr => iv = .int .i64 0 ∧ wr = w.alloc (.cells #[.int .i64 a, .int .i64 b, .int .i64 i, .string s, .slice A 0 c] 43)) (fun _ _ => 0)
  case atStart => exact ⟨rfl, rfl⟩
  case round =>
    obtain ⟨rfl, rfl⟩ := hrel
    go_wp2
    go_end0
    exact ⟨rfl, HP.out⟩
theorem TreeT.row {w : World} {base top n g len c : Nat} (h : TreeT w base top (n + 1) (.slice (some ⟨g, 0, none⟩) len c)) (hl : 0 < len) :
    ∃ cur, w.heap[g]? = some (.cells cur 43 (0, 0)) ∧ len * 5 ≤ cur.size ∧ ∀ j, j < len → ∃ (a b i : Int) (s : ByteArray) (v : Value), Chunk 5 cur j [.int .i64 a, .int .i64 b, .int .i64 i, .string s, v] ∧ TreeT w base top n v := by
  rcases h with ⟨A, c', e⟩ | ⟨g', len', c', cur, e, h1, h2, h3, h4, h5, h6⟩
  · injection e with _ e
    omega
  · injection e with e1 e2 e3
    injection e1 with e1
    injection e1 with e1
    subst e1 e2
    exact ⟨cur, h3, h5, h6⟩
set_option maxHeartbeats 4000000 in
set_option maxRecDepth 100000 in
theorem smear_any (base top : Nat) (hbt : base ≤ top) (n : Nat) : ∀ (w : World) (a b i : Int) (s : ByteArray) (u : Value), top ≤ w.heap.size → TreeT w base top n u →
    Calls Try.prog 21 #[.agg #[.int .i64 a, .int .i64 b, .int .i64 i, .string s, u]] w (fun e w' => e = .returned (.tuple #[]) ∧ SmP base top w w') := by
  induction n with
  | zero =>
    rintro w a b i s u ht ⟨A, c, rfl⟩
    exact smear_nil base top hbt w a b i s A c ht
  | succ n ih =>
    intro w a b i s u ht hT
    have hT' := hT
    rcases hT' with ⟨A, c, rfl⟩ | ⟨g, len, c, cur, rfl, hg1, hg2, hg3, hlm, hl5, hel⟩
    · exact smear_nil base top hbt w a b i s A c ht
    have HB0 := Lib.hid (SmP.of_below (below_alloc (Below.refl w.heap.size w) (.cells #[.int .i64 a, .int .i64 b, .int .i64 i, .string s, .slice (some ⟨g, 0, none⟩) len c] 43)) ht hbt)
    have hbx := Lib.hid (heap_alloc_new w (.cells #[.int .i64 a, .int .i64 b, .int .i64 i, .string s, .slice (some ⟨g, 0, none⟩) len c] 43))
    have HT0 := Lib.hid (HB0.out.tree _ _ hT)
    have hsz : w.heap.size + 1 = (w.alloc (.cells #[.int .i64 a, .int .i64 b, .int .i64 i, .string s, .slice (some ⟨g, 0, none⟩) len c] 43)).heap.size := by rw [alloc_size]
    have HIH := Lib.hid ih
    have hln : (len : Int) ≤ 9223372036854775807 := by simp only [maxLen] at hlm; omega
    clear hT hg3 hl5 hel ih
    go_enter Try.func21, Try.ntmps21
    go_wp2
    obtain ⟨w0, hw0⟩ : ∃ w0, w0 = w.alloc (.cells #[.int .i64 a, .int .i64 b, .int .i64 i, .string s, .slice (some ⟨g, 0, none⟩) len c] 43) := ⟨_, rfl⟩
    rw [← hw0] at HB0 hbx HT0 hsz ⊢
    clear hw0
    go_loopw [2] (fun iv wr => ∃ k : Int, iv = .int .i64 k ∧ 0 ≤ k ∧ k ≤ (len : Int) ∧ Hid (SmP base top w0 wr)) (fun iv _ => len - (intOf iv).toNat)
    case atStart => exact ⟨0, rfl, by omega, by omega, SmP.refl _ _ _⟩
    case round =>
      obtain ⟨k, rfl, hk0, hk1, HP⟩ := hrel
      have hsr := HP.out.below.size
      have HX := Lib.hid ((HP.out.block w.heap.size (by omega) (.inl ht)).trans hbx.out)
      have q4 : wr.cell? ⟨w.heap.size, 4, none⟩ = some (.slice (some ⟨g, 0, none⟩) len c) := (blk_cell HX.out 4).trans rfl
      have HTr := Lib.hid (HP.out.tree _ _ HT0.out)
      by_cases hlt : k < (len : Int)
      · obtain ⟨cu, hcu, hcs, hel⟩ := HTr.out.row (by omega)
        obtain ⟨a1, b1, i1, s1, v1, hch, hv1⟩ := hel k.toNat (by omega)
        have x0 : wr.cell? ⟨g, k.toNat * 5, none⟩ = some (.int .i64 a1) := (blk_cell hcu _).trans (hch.2 0 _ rfl)
        have x1 : wr.cell? ⟨g, k.toNat * 5 + 1, none⟩ = some (.int .i64 b1) := (blk_cell hcu _).trans (hch.2 1 _ rfl)
        have x2 : wr.cell? ⟨g, k.toNat * 5 + 2, none⟩ = some (.int .i64 i1) := (blk_cell hcu _).trans (hch.2 2 _ rfl)
        have x3 : wr.cell? ⟨g, k.toNat * 5 + 3, none⟩ = some (.string s1) := (blk_cell hcu _).trans (hch.2 3 _ rfl)
        have x4 : wr.cell? ⟨g, k.toNat * 5 + 4, none⟩ = some v1 := (blk_cell hcu _).trans (hch.2 4 _ rfl)
        have HCL := Lib.hid (HIH.out wr a1 b1 i1 s1 v1 (by omega) hv1)
        clear hcu hcs hel hch hv1
        go_wp2_with fail
        refine HCL.out.mono ?_
        rintro e w2 ⟨rfl, hs2⟩
        have HS2 := Lib.hid hs2
        have HT2 := Lib.hid (hs2.tree _ _ HTr.out)
        obtain ⟨cu, hcu, hcs, hel⟩ := HT2.out.row (by omega)
        have HX2 := Lib.hid ((hs2.block w.heap.size (by omega) (.inl ht)).trans HX.out)
        have q4 : w2.cell? ⟨w.heap.size, 4, none⟩ = some (.slice (some ⟨g, 0, none⟩) len c) := (blk_cell HX2.out 4).trans rfl
        have hfr : ∀ o, w2.frozen? ⟨g, o, none⟩ = false := fun o => blk_frozen hcu o
        obtain ⟨a2, b2, i2, s2, v2, hch, _⟩ := hel k.toNat (by omega)
        have y0 : w2.cell? ⟨g, k.toNat * 5, none⟩ = some (.int .i64 a2) := (blk_cell hcu _).trans (hch.2 0 _ rfl)
        have y1 : w2.cell? ⟨g, k.toNat * 5 + 1, none⟩ = some (.int .i64 b2) := (blk_cell hcu _).trans (hch.2 1 _ rfl)
        have y2 : w2.cell? ⟨g, k.toNat * 5 + 2, none⟩ = some (.int .i64 i2) := (blk_cell hcu _).trans (hch.2 2 _ rfl)
        have y3 : w2.cell? ⟨g, k.toNat * 5 + 3, none⟩ = some (.string s2) := (blk_cell hcu _).trans (hch.2 3 _ rfl)
        have y4 : w2.cell? ⟨g, k.toNat * 5 + 4, none⟩ = some v2 := (blk_cell hcu _).trans (hch.2 4 _ rfl)
        have HSS := Lib.hid (SmP.set (i := k.toNat) hg1 hg2 hcu (by omega))
        clear hs2 x0 x1 x2 x3 x4 HCL HX hel hcu hcs HTr hch
        go_wp2
        go_roundw
        case rel => exact ⟨k + 1, rfl, by omega, by omega, (HP.out.trans HS2.out).trans HSS.out⟩
        case measure => simp [intOf]; omega
      · have hge : (len : Int) ≤ k := by omega
        clear hlt
        go_wp2
        go_end0
        exact ⟨rfl, HB0.out.trans HP.out⟩
theorem tree_upto (base top : Nat) (n : Nat) : ∀ {w : World} {ok : Nat → Prop} {v : Value} {xs : List S43}, w.heap.size ≤ top → (Kd.upto F43 5 [43] n).R 43 w base ok v xs → TreeT w base top n v := by
  induction n with
  | zero =>
    intro w ok v xs ht h
    obtain ⟨A, c, rfl⟩ := Kd.R_slice h
    rcases xs with _ | ⟨x, xs⟩
    · exact ⟨A, c, rfl⟩
    · obtain ⟨_, inner, _, hr⟩ := h
      exact (hr.2 0 x rfl).elim
  | succ n ih =>
    intro w ok v xs ht h
    have h0 := h
    obtain ⟨_, hrow⟩ := h0
    rcases Kd.R_own h with ⟨inner, ho⟩
    rcases ho.2 with ⟨rfl, _⟩ | ⟨g, cap, cur, rfl, _⟩
    · exact .inl ⟨_, _, rfl⟩
    · obtain ⟨hn, hb, hok, cur, h1, h2, h3, h4, h5⟩ := blk_of_R h
      have hs : (Kd.upto F43 5 [43] (n + 1)).sz = 5 := rfl
      rw [hs] at h4 h5
      refine .inr ⟨g, xs.length, cap, cur, rfl, hb, Nat.lt_of_lt_of_le (blk_lt h1) ht, h1, Nat.le_trans h2 h3, by omega, fun j hj => ?_⟩
      obtain ⟨c, hc, x, hx, hM⟩ := h5 j hj
      obtain ⟨_, _, rfl, rfl, ⟨_, _, rfl, rfl, ⟨_, _, rfl, rfl, ⟨_, _, rfl, rfl, ⟨v4, rfl, g4⟩⟩⟩⟩⟩ := hM
      exact ⟨x.f0, x.f1, x.f2, x.f3, v4, hc, ih ht g4⟩
theorem tree_own {w : World} {base : Nat} {ok : Nat → Prop} {v : Value} {xs : List S43} (h : k43.R 43 w base ok v xs) : ∃ n, TreeT w base w.heap.size n v := by
  obtain ⟨n, hn⟩ := Kd.fix_R_back mono43 h
  exact ⟨n, tree_upto base _ n (Nat.le_refl _) hn⟩
end Go.Proofs.Ytofinglgnkdflaa
