/- Layer 7: number: names get numbers, in the order in which they come first. -/
import Derived.Test.YtofinglgnkdflaaLX0
import Derived.Lib.Hide
import Derived.Test.YtofinglgnkdflaaLXB
import Derived.Test.YtofinglgnkdflaaLXC
import Derived.Test.YtofinglgnkdflaaRows
import Derived.Maps.OwnSet
import Derived.Maps.OwnOps
import Derived.WalkKit
section
namespace Go.Proofs.Ytofinglgnkdflaa
open Go.RowKit
open Go.Proofs.YtofinglgnkdflaaW.PrintWords
set_option linter.unusedVariables false
set_option linter.unusedSimpArgs false
def Chunk (sz : Nat) (cur : Array Value) (j : Nat) (c : List Value) : Prop := c.length = sz ∧ ∀ o u, c[o]? = some u → cur[j * sz + o]? = some u
def Blk (sz e : Nat) (w : World) (g n cap : Nat) (P : Nat → List Value → Prop) : Prop :=
  ∃ cur : Array Value, w.heap[g]? = some (.cells cur e (0, 0)) ∧ n ≤ cap ∧ cap ≤ maxLen ∧ cur.size = cap * sz ∧ ∀ j, j < n → ∃ c, Chunk sz cur j c ∧ P j c
theorem Blk.imp {sz e : Nat} {w : World} {g n cap : Nat} {P P' : Nat → List Value → Prop} (h : Blk sz e w g n cap P) (hP : ∀ j c, j < n → P j c → P' j c) : Blk sz e w g n cap P' := by
  obtain ⟨cur, h1, h2, h3, h4, h5⟩ := h
  exact ⟨cur, h1, h2, h3, h4, fun j hj => by obtain ⟨c, hc, hp⟩ := h5 j hj; exact ⟨c, hc, hP j c hj hp⟩⟩
theorem Blk.move {sz e : Nat} {w w1 : World} {g n cap : Nat} {P : Nat → List Value → Prop} (h : Blk sz e w g n cap P) (hm : w1.heap[g]? = w.heap[g]?) : Blk sz e w1 g n cap P := by
  obtain ⟨cur, h1, h⟩ := h
  exact ⟨cur, hm.trans h1, h⟩
theorem Blk.lt {sz e : Nat} {w : World} {g n cap : Nat} {P : Nat → List Value → Prop} (h : Blk sz e w g n cap P) : g < w.heap.size := by
  obtain ⟨cur, h1, _⟩ := h; exact blk_lt h1
theorem Blk.frozen {sz e : Nat} {w : World} {g n cap : Nat} {P : Nat → List Value → Prop} (h : Blk sz e w g n cap P) (i : Nat) : w.frozen? ⟨g, i, none⟩ = false := by
  obtain ⟨cur, h1, _⟩ := h; exact blk_frozen h1 i
theorem Blk.at {sz e : Nat} {w : World} {g n cap : Nat} {P : Nat → List Value → Prop} (h : Blk sz e w g n cap P) (j : Nat) (hj : j < n) : ∃ c, c.length = sz ∧ (∀ o u, c[o]? = some u → w.cell? ⟨g, j * sz + o, none⟩ = some u) ∧ P j c := by
  obtain ⟨cur, h1, h2, h3, h4, h5⟩ := h
  obtain ⟨c, ⟨hl, hc⟩, hp⟩ := h5 j hj
  exact ⟨c, hl, fun o u hu => (blk_cell h1 _).trans (hc o u hu), hp⟩
theorem Blk.store {sz e : Nat} {w w1 : World} {g n cap i : Nat} {P : Nat → List Value → Prop} (h : Blk sz e w g n cap P) (cur1 : Array Value → Array Value) (hw : ∀ cur, w.heap[g]? = some (.cells cur e (0, 0)) → w1.heap[g]? = some (.cells (cur1 cur) e (0, 0)))
    (hs : ∀ cur : Array Value, (cur1 cur).size = cur.size) (ho : ∀ (cur : Array Value) k, (k < i * sz ∨ i * sz + sz ≤ k) → (cur1 cur)[k]? = cur[k]?) {P' : Nat → List Value → Prop}
    (hi : ∀ cur c, i < n → i * sz + sz ≤ cur.size → Chunk sz cur i c → P i c → ∃ c', Chunk sz (cur1 cur) i c' ∧ P' i c') (hP : ∀ j c, j < n → j ≠ i → P j c → P' j c) : Blk sz e w1 g n cap P' := by
  obtain ⟨cur, h1, h2, h3, h4, h5⟩ := h
  refine ⟨cur1 cur, hw cur h1, h2, h3, (hs cur).trans h4, fun j hj => ?_⟩
  obtain ⟨c, hc, hp⟩ := h5 j hj
  by_cases e1 : j = i
  · subst e1
    refine hi cur c hj ?_ hc hp
    rw [h4]
    have : (j + 1) * sz ≤ cap * sz := Nat.mul_le_mul_right sz (by omega)
    rw [Nat.add_mul, Nat.one_mul] at this
    exact this
  · refine ⟨c, ⟨hc.1, fun o u hu => ?_⟩, hP j c hj e1 hp⟩
    have hol : o < sz := by have := (List.getElem?_eq_some_iff.1 hu).1; rw [hc.1] at this; exact this
    rw [ho cur (j * sz + o) ?_]
    · exact hc.2 o u hu
    · rcases Nat.lt_or_gt_of_ne e1 with h6 | h6
      · left
        have : (j + 1) * sz ≤ i * sz := Nat.mul_le_mul_right sz (by omega)
        rw [Nat.add_mul, Nat.one_mul] at this
        omega
      · right
        have : (i + 1) * sz ≤ j * sz := Nat.mul_le_mul_right sz (by omega)
        rw [Nat.add_mul, Nat.one_mul] at this
        omega
section
variable {α : Type} {d : Kd α} {e base n cap g : Nat} {ok : Nat → Prop} {w : World} {xs : List α}
theorem chunk_take {sz n : Nat} {cur : Array Value} {j : Nat} {c : List Value} (h : Chunk sz cur j c) (hj : j < n) : ((cur.toList.take (n * sz)).drop (j * sz)).take sz = c := by
  apply List.ext_getElem?
  intro o
  rw [List.getElem?_take]
  have hj1 : (j + 1) * sz ≤ n * sz := Nat.mul_le_mul_right sz (by omega)
  rw [Nat.add_mul, Nat.one_mul] at hj1
  by_cases ho : o < sz
  · rw [if_pos ho, List.getElem?_drop, List.getElem?_take, if_pos (by omega), Array.getElem?_toList]
    have hol : o < c.length := by rw [h.1]; exact ho
    rw [List.getElem?_eq_getElem hol]
    exact h.2 o _ (List.getElem?_eq_getElem hol)
  · rw [if_neg ho, List.getElem?_eq_none (by rw [h.1]; omega)]
theorem take_chunk {sz n : Nat} {cur : Array Value} {j : Nat} (hj : j < n) (hs : n * sz ≤ cur.size) : Chunk sz cur j (((cur.toList.take (n * sz)).drop (j * sz)).take sz) := by
  have hj1 : (j + 1) * sz ≤ n * sz := Nat.mul_le_mul_right sz (by omega)
  rw [Nat.add_mul, Nat.one_mul] at hj1
  refine ⟨by simp; omega, fun o u hu => ?_⟩
  rw [List.getElem?_take] at hu
  split at hu
  · rw [List.getElem?_drop, List.getElem?_take, if_pos (by omega), Array.getElem?_toList] at hu
    exact hu
  · cases hu
theorem own_blk {sz : Nat} {inner : List Value} (h : w.ownsRow base e sz (.slice (some ⟨g, 0, none⟩) n cap) n inner) : base ≤ g ∧ Blk sz e w g n cap (fun j c => (inner.drop (j * sz)).take sz = c) := by
  obtain ⟨_, h⟩ := h
  rcases h with ⟨h, _⟩ | ⟨g', cap', cur, he, hb, hh, h1, h2, h3, h4⟩
  · cases h
  · injection he with ha _ hc
    injection ha with ha
    injection ha with ha
    subst ha hc
    refine ⟨hb, cur, hh, h1, h2, h3, fun j hj => ⟨_, take_chunk hj ?_, by rw [h4]⟩⟩
    rw [h3]; exact Nat.mul_le_mul_right _ h1
theorem blk_of_R (h : d.R e w base ok (.slice (some ⟨g, 0, none⟩) n cap) xs) : n = xs.length ∧ base ≤ g ∧ ok g ∧ Blk d.sz e w g n cap (fun j c => ∃ x, xs[j]? = some x ∧ d.M w base (fun k => ok k ∧ k ≠ g) x c) := by
  have hn := (Kd.R_reads' h).1
  obtain ⟨h0, inner, ho, hr⟩ := h
  rw [← hn] at ho
  obtain ⟨hb, hB⟩ := own_blk ho
  refine ⟨hn, hb, h0 g rfl, hB.imp fun j c hj hc => ?_⟩
  have hx := hr.2 j _ (List.getElem?_eq_getElem (show j < xs.length by omega))
  rw [hc] at hx
  exact ⟨_, List.getElem?_eq_getElem (by omega), d.M_mono (fun k hk => ⟨hk.1, fun e => hk.2 (by rw [e]; rfl)⟩) hx⟩
theorem R_of_blk (h : Blk d.sz e w g n cap (fun j c => ∃ x, xs[j]? = some x ∧ d.M w base (fun k => ok k ∧ k ≠ g) x c)) (hn : n = xs.length) (hb : base ≤ g) (hok : ok g) : d.R e w base ok (.slice (some ⟨g, 0, none⟩) n cap) xs := by
  obtain ⟨cur, h1, h2, h3, h4, h5⟩ := h
  have hle : n * d.sz ≤ cur.size := by rw [h4]; exact Nat.mul_le_mul_right _ h2
  refine ⟨fun k hk => ?_, cur.toList.take (n * d.sz), ?_, ?_, fun j p hj => ?_⟩
  · simp [Value.ownBlock] at hk; subst hk; exact hok
  · rw [← hn]; exact ⟨by simp; omega, .inr ⟨g, cap, cur, rfl, hb, h1, h2, h3, h4, rfl⟩⟩
  · rw [← hn]; simp; omega
  · have hjl : j < n := by have := (List.getElem?_eq_some_iff.1 hj).1; omega
    obtain ⟨c, hc, x, hx, hM⟩ := h5 j hjl
    rw [hj] at hx
    injection hx with hx
    subst hx
    rw [chunk_take hc hjl]
    exact d.M_mono (fun k hk => ⟨hk.1, fun e => hk.2 (by simpa [Value.ownBlock] using e)⟩) hM
end
theorem reps_one_cell {α : Type} {R : α → List Value → Prop} {sz : Nat} {ps : List α} {cs : List Value} (h : Reps R sz ps cs) (hs : 0 < sz) (hR : ∀ x c, R x c → ∀ u ∈ c, u.oneCell' = true) : ∀ u ∈ cs, u.oneCell' = true := by
  intro u hu
  obtain ⟨m, hm, hm2⟩ := List.getElem_of_mem hu
  have hl : m < ps.length * sz := by rw [← h.1]; exact hm
  have hj : m / sz < ps.length := (Nat.div_lt_iff_lt_mul hs).2 hl
  have hd := Nat.div_add_mod m sz
  have hmod := Nat.mod_lt m hs
  have he : m / sz * sz = sz * (m / sz) := Nat.mul_comm _ _
  refine hR _ _ (h.2 (m / sz) _ (List.getElem?_eq_getElem hj)) u ?_
  refine List.mem_of_getElem? (i := m % sz) ?_
  rw [List.getElem?_take, if_pos hmod, List.getElem?_drop, show m / sz * sz + m % sz = m by omega, List.getElem?_eq_getElem hm, hm2]
def set5 (p : Nat) (v0 v1 v2 v3 v4 : Value) (cur : Array Value) : Array Value := ((((cur.setIfInBounds p v0).setIfInBounds (p + 1) v1).setIfInBounds (p + 2) v2).setIfInBounds (p + 3) v3).setIfInBounds (p + 4) v4
theorem set5_size (p : Nat) (v0 v1 v2 v3 v4 : Value) (cur : Array Value) : (set5 p v0 v1 v2 v3 v4 cur).size = cur.size := by simp [set5]
theorem set5_far (p : Nat) (v0 v1 v2 v3 v4 : Value) (cur : Array Value) (k : Nat) (h : k < p ∨ p + 5 ≤ k) : (set5 p v0 v1 v2 v3 v4 cur)[k]? = cur[k]? := by
  simp only [set5, Array.getElem?_setIfInBounds]
  rw [if_neg (by omega), if_neg (by omega), if_neg (by omega), if_neg (by omega), if_neg (by omega)]
theorem set5_chunk (i : Nat) (v0 v1 v2 v3 v4 : Value) (cur : Array Value) (h : i * 5 + 5 ≤ cur.size) : Chunk 5 (set5 (i * 5) v0 v1 v2 v3 v4 cur) i [v0, v1, v2, v3, v4] := by
  refine ⟨rfl, fun o u hu => ?_⟩
  have ho : o < 5 := (List.getElem?_eq_some_iff.1 hu).1
  simp only [set5, Array.getElem?_setIfInBounds, Array.size_setIfInBounds]
  have hc : o = 0 ∨ o = 1 ∨ o = 2 ∨ o = 3 ∨ o = 4 := by omega
  rcases hc with rfl | rfl | rfl | rfl | rfl
  · simp at hu; subst hu; repeat (first | rw [if_neg (by omega)] | rw [if_pos (by omega)]); try (rw [if_pos (by omega)])
  · simp at hu; subst hu; repeat (first | rw [if_neg (by omega)] | rw [if_pos (by omega)])
  · simp at hu; subst hu; repeat (first | rw [if_neg (by omega)] | rw [if_pos (by omega)])
  · simp at hu; subst hu; repeat (first | rw [if_neg (by omega)] | rw [if_pos (by omega)])
  · simp at hu; subst hu; repeat (first | rw [if_neg (by omega)] | rw [if_pos (by omega)])
def set5w (g p : Nat) (v0 v1 v2 v3 v4 : Value) (w : World) : World := ((((w.setCell ⟨g, p, none⟩ v0).setCell ⟨g, p + 1, none⟩ v1).setCell ⟨g, p + 2, none⟩ v2).setCell ⟨g, p + 3, none⟩ v3).setCell ⟨g, p + 4, none⟩ v4
theorem set5w_far (g p : Nat) (v0 v1 v2 v3 v4 : Value) (w : World) (k : Nat) (h : k ≠ g) : (set5w g p v0 v1 v2 v3 v4 w).heap[k]? = w.heap[k]? := by
  unfold set5w
  rw [Below.heap_setCell _ _ _ _ h, Below.heap_setCell _ _ _ _ h, Below.heap_setCell _ _ _ _ h, Below.heap_setCell _ _ _ _ h, Below.heap_setCell _ _ _ _ h]
theorem set5w_at (g p : Nat) (v0 v1 v2 v3 v4 : Value) (w : World) (cur : Array Value) (e : Nat) (h : w.heap[g]? = some (.cells cur e (0, 0))) : (set5w g p v0 v1 v2 v3 v4 w).heap[g]? = some (.cells (set5 p v0 v1 v2 v3 v4 cur) e (0, 0)) :=
  blk_set (blk_set (blk_set (blk_set (blk_set h _ _) _ _) _ _) _ _) _ _
theorem set5w_below {B : Nat} {a w : World} (h : Below B a w) (g p : Nat) (hg : B ≤ g) (v0 v1 v2 v3 v4 : Value) : Below B a (set5w g p v0 v1 v2 v3 v4 w) :=
  ((((h.setCell (p := ⟨g, p, none⟩) hg v0).setCell (p := ⟨g, p + 1, none⟩) hg v1).setCell (p := ⟨g, p + 2, none⟩) hg v2).setCell (p := ⟨g, p + 3, none⟩) hg v3).setCell (p := ⟨g, p + 4, none⟩) hg v4
theorem set5w_cell (g p : Nat) (v0 v1 v2 v3 v4 : Value) (w : World) (a : Addr) (h : a.block ≠ g) : (set5w g p v0 v1 v2 v3 v4 w).cell? a = w.cell? a := World.cell?_of_block (w := w) (set5w_far g p v0 v1 v2 v3 v4 w a.block h)
end Go.Proofs.Ytofinglgnkdflaa
end
section
namespace Go.Proofs.Ytofinglgnkdflaa
open Go.RowKit
open Go.Proofs.Ytofinglgnkdflaa.PHistoryChecks Go.Proofs.YtofinglgnkdflaaW.PrintWords Go.Proofs.YtofinglgnkdflaaW.PrintLast Go.Proofs.YtofinglgnkdflaaW.PrintMore
set_option linter.unusedVariables false
set_option linter.unusedSimpArgs false
theorem own_form5 {w : World} {base e n sz : Nat} {v : Value} {xs : List Value} (h : w.ownsRow base e sz v n xs) (hn : v ≠ .slice none 0 0) : ∃ g cap, v = .slice (some ⟨g, 0, none⟩) n cap ∧ base ≤ g := by
  rcases h.2 with ⟨h1, _⟩ | ⟨g, cap, cur, rfl, hb, _⟩
  · exact absurd h1 hn
  · exact ⟨g, cap, rfl, hb⟩
theorem cellAl {w : World} {a : Addr} {v : Value} (h : w.cell? a = some v) (o : Obj) : (w.alloc o).cell? a = some v := pw_cell_below (below_alloc (Below.refl _ _) o) h
def CloneP (ok : Nat → Prop) (l : List S43) (W : World) (e : Ending) (w' : World) : Prop :=
  ∃ g cap, e = .returned (.slice (some ⟨g, 0, none⟩) l.length cap) ∧ W.heap.size ≤ g ∧ Below W.heap.size W w' ∧ Blk 5 43 w' g l.length cap (fun j c => ∃ x, l[j]? = some x ∧ Kd.FK k43 W ok x c)
set_option maxHeartbeats 1000000 in
theorem clone43 (ok : Nat → Prop) (l : List S43) (ad : Addr) (c : Nat) (W : World) (hF : Kd.F k43 W ok (some ad) l.length l) (hl : 0 < l.length) (hb : l.length ≤ 1000000) :
    Calls Try.prog 86 #[.slice (some ad) l.length c] W (CloneP ok l W) := by
  obtain ⟨i0, hi, hz0, hz1, hz2⟩ := info_parts info43
  have hq := fun wx => Lib.run_eql_slice_nil (P := Try.prog) wx 41 43 (some ad) l.length c 0 0 Try.underlying41
  obtain ⟨inner, hr, hc⟩ := ReadsRow.inner_ (Kd.F_rows hF)
  have hone : ∀ u ∈ inner, u.oneCell' = true := reps_one_cell hr (by decide) (fun x c h => Kd.K_one k43 (Kd.FK_now h))
  have HR := Lib.hid hr
  have HC := Lib.hid hc
  have HO := Lib.hid hone
  have HLN := Lib.hid (show inner.length = l.length * 5 from hr.1)
  clear hF hr hc hone
  go_enter Try.func86, Try.ntmps86
  go_wp2_with (at_builtin; refine wpList_append_own _ rfl _ _ 41 rfl W.heap.size 43 i0 _ 5 64 Try.underlying41 hi hz0 hz1 hz2 rfl (by decide) _ 0 [] rfl (World.ownsRow_made W #[] 0 (Nat.le_refl _) (by decide) rfl) ad l.length c inner rfl ?c1 ?c2 ?c3 ?c4 ?c5 ?c6 ?_)
  case c1 => exact HLN.out
  case c2 => exact fun j u hu => (cellAl (HC.out j u hu) _)
  case c3 => exact HO.out
  case c4 => simp [maxLen]; omega
  case c5 => omega
  case c6 => simp
  intro v' w1 hown hgr hnil
  have HP := Lib.hid (show CloneP ok l W (.returned v') w1 from by
    obtain ⟨g, cap, rfl, hg⟩ := own_form5 hown hnil
    obtain ⟨h1, h2⟩ := own_blk hown
    refine ⟨g, cap, rfl, hg, ((Below.refl W.heap.size W).alloc (Nat.le_refl _) _).grown hgr (by simp) (fun k hk => by simp [Value.ownBlock] at hk; omega), h2.imp fun j c hj he => ⟨_, List.getElem?_eq_getElem hj, ?_⟩⟩
    rw [← he]
    exact HR.out.2 j _ (List.getElem?_eq_getElem hj))
  clear hown hgr hnil
  go_wp2
  go_ret
  exact HP.out
theorem own_empty (v : S43) (A : Option Addr) (c : Nat) (W : World) (h0 : v.f4 = []) : Calls Try.prog 57 #[v43 v A c] W (fun e w' => e = .returned (v43 v none 0) ∧ Below W.heap.size W w') := by
  have hl : ((v.f4.length : Int) == 0) = true := by rw [h0]; rfl
  have hl2 := Lib.hid (show v.f4.length = 0 from by rw [h0]; rfl)
  clear h0
  unfold v43
  go_enter Try.func57, Try.ntmps57
  go_wp2
  refine bodyPost_ret (v := .agg #[.int .i64 v.f0, .int .i64 v.f1, .int .i64 v.f2, .string v.f3, .slice none 0 0]) (by simp [results, Try.results57, go_sem]) rfl ⟨by rw [hl2.out], below_alloc (below_alloc (Below.refl _ _) _) _⟩
def OwnP (v : S43) (W : World) (e : Ending) (w' : World) : Prop :=
  ∃ A c, e = .returned (v43 v A c) ∧ k43.R 43 w' W.heap.size (fun _ => True) (.slice A v.f4.length c) v.f4 ∧ v.f4.length ≤ c ∧ Below W.heap.size W w'
def MixP (ok : Nat → Prop) (l : List S43) (W : World) (B g : Nat) (wr : World) (i : Int) (j : Nat) (c : List Value) : Prop :=
  ((j : Int) < i → ∃ x, l[j]? = some x ∧ k43.M wr B (fun k => W.heap.size + 2 ≤ k ∧ k ≠ g) x c) ∧ (i ≤ (j : Int) → ∃ x, l[j]? = some x ∧ Kd.FK k43 wr ok x c)
theorem mix_start {ok : Nat → Prop} {l : List S43} {W W2 w1 : World} {g cap : Nat} (hb2 : Below W.heap.size W W2) (hb1 : Below W2.heap.size W2 w1) (hg2 : W.heap.size + 2 ≤ g)
    (hB : Blk 5 43 w1 g l.length cap (fun j c => ∃ x, l[j]? = some x ∧ Kd.FK k43 W2 ok x c)) : Blk 5 43 w1 g l.length cap (MixP ok l W W.heap.size g w1 0) :=
  hB.imp fun j c hj ⟨x, hx, hf⟩ => ⟨fun h => by omega, fun _ => ⟨x, hx, Kd.FK_below hf hb1⟩⟩
theorem mix_set {l : List S43} {W wr : World} {g n cap B : Nat} {i : Int} (h : Blk 5 43 wr g n cap (MixP (fun k => k < W.heap.size) l W B g wr i)) {p : Nat} (hp1 : W.heap.size ≤ p) (hg : W.heap.size + 2 ≤ g) (hp : p < W.heap.size + 2) (o : Nat) (u : Value) :
    Blk 5 43 (wr.setCell ⟨p, o, none⟩ u) g n cap (MixP (fun k => k < W.heap.size) l W B g (wr.setCell ⟨p, o, none⟩ u) i) :=
  (h.move (Below.heap_setCell wr ⟨p, o, none⟩ u g (by show g ≠ p; omega))).imp fun j c hj hP => ⟨fun h1 => by
    obtain ⟨x, hx, hM⟩ := hP.1 h1
    exact ⟨x, hx, Kd.M_step hM (fun k hk _ => Below.heap_setCell wr ⟨p, o, none⟩ u k (by show k ≠ p; omega))⟩, fun h1 => by
    obtain ⟨x, hx, hf⟩ := hP.2 h1
    exact ⟨x, hx, Kd.FK_step hf (fun k hk _ => Below.heap_setCell wr ⟨p, o, none⟩ u k (by show k ≠ p; omega))⟩⟩
theorem mix_store {l : List S43} {W wr w6 : World} {g n cap : Nat} {i : Int} {x : S43} {A6 : Option Addr} {c6 : Nat} (hi0 : 0 ≤ i) (hi : i < (l.length : Int)) (hx : l[i.toNat]? = some x) (hsz : W.heap.size + 2 ≤ wr.heap.size) (hgW : W.heap.size ≤ g) (hg : g < wr.heap.size)
    (h : Blk 5 43 wr g n cap (MixP (fun k => k < W.heap.size) l W W.heap.size g wr i)) (hb : Below wr.heap.size wr w6) (hR : k43.R 43 w6 wr.heap.size (fun _ => True) (.slice A6 x.f4.length c6) x.f4) (s : Value) (hs : s = .string x.f3) :
    Blk 5 43 (set5w g (i.toNat * 5) (.int .i64 x.f0) (.int .i64 x.f1) (.int .i64 x.f2) s (.slice A6 x.f4.length c6) w6) g n cap (MixP (fun k => k < W.heap.size) l W W.heap.size g (set5w g (i.toNat * 5) (.int .i64 x.f0) (.int .i64 x.f1) (.int .i64 x.f2) s (.slice A6 x.f4.length c6) w6) (i + 1)) := by
  subst hs
  refine (h.move (hb.block g hg)).store (i := i.toNat) (set5 (i.toNat * 5) (.int .i64 x.f0) (.int .i64 x.f1) (.int .i64 x.f2) (.string x.f3) (.slice A6 x.f4.length c6)) (fun cur hc => set5w_at _ _ _ _ _ _ _ _ _ _ hc) (fun cur => set5_size _ _ _ _ _ _ _) (fun cur k hk => set5_far _ _ _ _ _ _ _ _ hk) ?_ ?_
  · intro cur c hi2 hsz2 hcc hP
    refine ⟨_, set5_chunk _ _ _ _ _ _ _ hsz2, fun _ => ⟨x, hx, ?_⟩, fun h6 => by omega⟩
    have hM := k43_mkM w6 W.heap.size (fun k => W.heap.size + 2 ≤ k ∧ k ≠ g) x (Kd.R_mono (Kd.R_bound (Kd.R_lower hR (by omega : W.heap.size ≤ wr.heap.size))) (fun k hk => hk) |> fun h => Kd.R_mono (Kd.R_bound hR) (fun k hk => ⟨by omega, by omega⟩) |> fun h => Kd.R_lower h (by omega))
    exact Kd.M_step hM (fun k hk _ => set5w_far _ _ _ _ _ _ _ _ _ hk.2)
  · intro j c hj hne hP
    refine ⟨fun h6 => ?_, fun h6 => ?_⟩
    · obtain ⟨y, hy, hM⟩ := hP.1 (by omega)
      exact ⟨y, hy, Kd.M_step (Kd.M_below hM hb) (fun k hk _ => set5w_far _ _ _ _ _ _ _ _ _ hk.2)⟩
    · obtain ⟨y, hy, hf⟩ := hP.2 (by omega)
      exact ⟨y, hy, Kd.FK_step (Kd.FK_below hf hb) (fun k hk _ => set5w_far _ _ _ _ _ _ _ _ _ (by have := hg; omega))⟩
theorem Blk.le {sz e : Nat} {w : World} {g n cap : Nat} {P : Nat → List Value → Prop} (h : Blk sz e w g n cap P) : n ≤ cap := by obtain ⟨_, _, h, _⟩ := h; exact h
theorem mix_end {l : List S43} {W wr : World} {g cap : Nat} (h : Blk 5 43 wr g l.length cap (MixP (fun k => k < W.heap.size) l W W.heap.size g wr (l.length : Int))) (hg : W.heap.size + 2 ≤ g) : k43.R 43 wr W.heap.size (fun k => W.heap.size + 2 ≤ k) (.slice (some ⟨g, 0, none⟩) l.length cap) l :=
  R_of_blk (d := k43) (h.imp fun j c hj hP => hP.1 (by omega)) rfl (by omega) hg
set_option maxHeartbeats 8000000 in
set_option maxRecDepth 100000 in
theorem own_any (k : Nat) : ∀ (v : S43) (A : Option Addr) (c : Nat) (W : World), nd v ≤ k → nd v ≤ 1000000 → Kd.C k43 W A v.f4.length v.f4 → v.f4.length ≤ c →
    Calls Try.prog 57 #[v43 v A c] W (OwnP v W) := by
  induction k with
  | zero => intro a; intros; have := nd_pos a; omega
  | succ k ih =>
    intro v A c W hk hm hC hc
    by_cases h0 : v.f4 = []
    · refine (own_empty v A c W h0).mono ?_
      rintro e w' ⟨rfl, hb⟩
      exact ⟨none, 0, rfl, by rw [h0]; exact Kd.R_nil _ _ _ _ _, by rw [h0]; exact Nat.le_refl _, hb⟩
    · have hl : 0 < v.f4.length := List.length_pos_iff.2 h0
      have hlm : v.f4.length ≤ 1000000 := by
        have h1 := nd_eq v
        have h2 : v.f4.length ≤ ndL v.f4 := by
          clear hk hm hC hc h0 hl h1
          induction v.f4 with
          | nil => simp
          | cons x l ih2 => simp only [List.length_cons, ndL]; have := nd_pos x; omega
        omega
      have hF := k43_F hC
      have hl0 : ((v.f4.length : Int) == 0) = false := by rw [beq_eq_false_iff_ne]; omega
      obtain ⟨ad, rfl, _⟩ := hC.2.2 hl
      have HFW := Lib.hid hF
      have hcl := Lib.hid (fun W1 (h : Below W.heap.size W W1) => clone43 (fun k => k < W.heap.size) v.f4 ad c W1 (Kd.F_below hF h) hl hlm)
      clear h0 hF hC
      unfold v43
      go_enter Try.func57, Try.ntmps57
      go_wp2_with fail
      obtain ⟨W2, hW2⟩ : ∃ W2, W2 = (W.alloc (.cells #[.int .i64 v.f0, .int .i64 v.f1, .int .i64 v.f2, .string v.f3, .slice (some ad) v.f4.length c] 43)).alloc (.cells #[.int .i64 0, .int .i64 0, .int .i64 0, .string ⟨#[]⟩, .slice none 0 0] 43) := ⟨_, rfl⟩
      have hA2 : W2.heap[W.heap.size]? = some (.cells #[.int .i64 v.f0, .int .i64 v.f1, .int .i64 v.f2, .string v.f3, .slice (some ad) v.f4.length c] 43 (0, 0)) := by rw [hW2]; exact blk_alloc (heap_alloc_new W _) _
      have hR2 : W2.heap[W.heap.size + 1]? = some (.cells #[.int .i64 0, .int .i64 0, .int .i64 0, .string ⟨#[]⟩, .slice none 0 0] 43 (0, 0)) := by
        rw [hW2]
        have h := heap_alloc_new (W.alloc (.cells #[.int .i64 v.f0, .int .i64 v.f1, .int .i64 v.f2, .string v.f3, .slice (some ad) v.f4.length c] 43)) (.cells #[.int .i64 0, .int .i64 0, .int .i64 0, .string ⟨#[]⟩, .slice none 0 0] 43)
        rw [alloc_size] at h; exact h
      have hb2 : Below W.heap.size W W2 := by rw [hW2]; exact below_alloc (below_alloc (Below.refl _ _) _) _
      have hs2 : W2.heap.size = W.heap.size + 2 := by rw [hW2, alloc_size, alloc_size]
      rw [← hW2]
      clear hW2
      refine (hcl.out _ hb2).mono ?_
      rintro e w1 ⟨g, cap, rfl, hg, hb1, hB⟩
      have hA1 := (hb1.block W.heap.size (by omega)).trans hA2
      have hR1 := (hb1.block (W.heap.size + 1) (by omega)).trans hR2
      have hg2 : W.heap.size + 2 ≤ g := by omega
      have hgl : g < w1.heap.size := hB.lt
      have HST := Lib.hid (mix_start (W := W) hb2 hb1 hg2 hB)
      have HB1 := Lib.hid (show Below W.heap.size W w1 from hb2.trans (hb1.mono (by omega)))
      have ca4 : w1.cell? ⟨W.heap.size, 4, none⟩ = some (.slice (some ad) v.f4.length c) := (blk_cell hA1 4).trans rfl
      have fa4 := blk_frozen hA1 4
      have HA := Lib.hid (blk_set hA1 4 (.slice (some ⟨g, 0, none⟩) v.f4.length cap))
      have HR := Lib.hid hR1
      have hx4 : (w1.setCell ⟨W.heap.size, 4, none⟩ (.slice (some ⟨g, 0, none⟩) v.f4.length cap)).cell? ⟨W.heap.size, 4, none⟩ = some (.slice (some ⟨g, 0, none⟩) v.f4.length cap) := (blk_cell HA.out 4).trans rfl
      have hsz1 : W.heap.size + 2 ≤ w1.heap.size := by omega
      clear hA2 hR2 hb2 hg hb1 hB hA1 hR1 hcl
      go_wp2
      go_loopw [17, 3] (fun iv xv wr => ∃ i : Int, iv = .int .i64 i ∧ 0 ≤ i ∧ i ≤ (v.f4.length : Int) ∧ Hid (wr.heap[W.heap.size]? = some (.cells #[.int .i64 v.f0, .int .i64 v.f1, .int .i64 v.f2, .string v.f3, .slice (some ⟨g, 0, none⟩) v.f4.length cap] 43 (0, 0))) ∧ Hid (wr.heap[W.heap.size + 1]? = some (.cells #[.int .i64 0, .int .i64 0, .int .i64 0, .string ⟨#[]⟩, .slice none 0 0] 43 (0, 0))) ∧ Hid (Blk 5 43 wr g v.f4.length cap (MixP (fun k => k < W.heap.size) v.f4 W W.heap.size g wr i)) ∧ Hid (Below W.heap.size W wr)) (fun i _ _ => v.f4.length - (intOf i).toNat)
      case atStart => exact ⟨0, rfl, by omega, by omega, HA.out, blk_far HR.out (by simp) _, (mix_set HST.out (by omega) hg2 (by omega) _ _), HB1.out.setCell (Nat.le_refl _) _⟩
      case round =>
        obtain ⟨i, rfl, hi0, hi1, HA3, HR3, HM, HW⟩ := hrel
        clear HA HR HST HB1 hx4 ca4 fa4
        have cb4 : wr.cell? ⟨W.heap.size, 4, none⟩ = some (.slice (some ⟨g, 0, none⟩) v.f4.length cap) := (blk_cell HA3.out 4).trans rfl
        by_cases hlt : i < (v.f4.length : Int)
        · obtain ⟨cc, hcl, hcc, hP⟩ := HM.out.at i.toNat (by omega)
          obtain ⟨x, hx, hf⟩ := hP.2 (by omega)
          obtain ⟨A4, c4, rfl, l4, hF4⟩ := k43_openF hf
          have x0 : wr.cell? ⟨g, i.toNat * 5, none⟩ = some (.int .i64 x.f0) := hcc 0 _ rfl
          have x1 : wr.cell? ⟨g, i.toNat * 5 + 1, none⟩ = some (.int .i64 x.f1) := hcc 1 _ rfl
          have x2 : wr.cell? ⟨g, i.toNat * 5 + 2, none⟩ = some (.int .i64 x.f2) := hcc 2 _ rfl
          have x3 : wr.cell? ⟨g, i.toNat * 5 + 3, none⟩ = some (.string x.f3) := hcc 3 _ rfl
          have x4 : wr.cell? ⟨g, i.toNat * 5 + 4, none⟩ = some (.slice A4 x.f4.length c4) := hcc 4 _ rfl
          have hmem : x ∈ v.f4 := List.mem_of_getElem? hx
          have hnd : nd x ≤ k ∧ nd x ≤ 1000000 := by have := ndL_mem _ _ hmem; have := nd_eq v; omega
          have HCL := Lib.hid (fun W4 (h : Below wr.heap.size wr W4) => ih x A4 c4 W4 hnd.1 hnd.2 (Kd.F_now (Kd.F_below hF4 h)) l4)
          have hfr : ∀ (w5 : World), Below wr.heap.size wr w5 → ∀ o, w5.frozen? ⟨g, o, none⟩ = false := fun w5 h o => (h.frozen (p := ⟨g, o, none⟩) HM.out.lt).trans (HM.out.frozen o)
          have HFR := Lib.hid hfr
          have hgr : g < wr.heap.size := HM.out.lt
          have hsz1r : W.heap.size + 2 ≤ wr.heap.size := by have := blk_lt HR3.out; omega
          have hgW : W.heap.size ≤ g := by omega
          have HX := Lib.hid hx
          unfold v43 at HCL
          clear hP hcc hf hF4 l4 hmem hnd hx hfr hcl
          go_wp2
          refine wp_region_held_drew (S := (fun w => w.cell? ⟨W.heap.size, 4, none⟩ = some (.slice (some ⟨g, 0, none⟩) v.f4.length cap))) (by kernel_rfl) ?_ (fun hHeld => ?_)
          · exact cb4
          refine runH 0 (v := ?va0) rfl (by kernel_rfl) (fun _ _ _ h => h) (by assumption) (by rfl) ?ya0 ?ra0
          case ya0 => (intro w hSw; (try dsimp only at hSw); go_simp; try with_reducible rfl)
          try simp only [Act.put, List.setIfInBounds_toArray, List.set_cons_zero, List.set_cons_succ]
          refine runH 1 (v := ?va1) rfl (by kernel_rfl) (fun _ _ _ h => h) (by assumption) (by rfl) ?ya1 ?ra1
          case ya1 => (intro w hSw; (try dsimp only at hSw); go_simp; try with_reducible rfl)
          try simp only [Act.put, List.setIfInBounds_toArray, List.set_cons_zero, List.set_cons_succ]
          refine runH 2 (v := ?va2) rfl (by kernel_rfl) (fun _ _ _ h => h) (by assumption) (by rfl) ?ya2 ?ra2
          case ya2 => (intro w hSw; (try dsimp only at hSw); go_simp; try with_reducible rfl)
          try simp only [Act.put, List.setIfInBounds_toArray, List.set_cons_zero, List.set_cons_succ]
          refine runH 3 (v := ?va3) rfl (by kernel_rfl) (fun _ _ _ h => h) (by assumption) (by rfl) ?ya3 ?ra3
          case ya3 => (intro w hSw; (try dsimp only at hSw); go_simp; try with_reducible rfl)
          try simp only [Act.put, List.setIfInBounds_toArray, List.set_cons_zero, List.set_cons_succ]
          refine runH 4 (v := ?va4) rfl (by kernel_rfl) (fun _ _ _ h => h) (by assumption) (by rfl) ?ya4 ?ra4
          case ya4 => (intro w hSw; (try dsimp only at hSw); go_simp; try with_reducible rfl)
          try simp only [Act.put, List.setIfInBounds_toArray, List.set_cons_zero, List.set_cons_succ]
          refine runH 5 (v := ?va5) rfl (by kernel_rfl) (fun _ _ _ h => h) (by assumption) (by rfl) ?ya5 ?ra5
          case ya5 => (intro w hSw; (try dsimp only at hSw); go_simp; try with_reducible rfl)
          try simp only [Act.put, List.setIfInBounds_toArray, List.set_cons_zero, List.set_cons_succ]
          refine runH 6 (v := ?va6) rfl (by kernel_rfl) (fun _ _ _ h => h) (by assumption) (by rfl) ?ya6 ?ra6
          case ya6 => (intro w hSw; (try dsimp only at hSw); go_simp; try with_reducible rfl)
          try simp only [Act.put, List.setIfInBounds_toArray, List.set_cons_zero, List.set_cons_succ]
          refine wpAnyH_ready (rs := [7]) (by kernel_rfl) (by simp) ?_
          refine AllReadyH.cons rfl (fun K hK => ?_) AllReadyH.nil
          go_simp
          skip
          go_wp2_with fail
          refine hK.out _ _ ?_ (fun hHeld2 => ?_)
          · exact cb4
          clear hK K hHeld
          rename _ => hHeld
          try simp only [Act.put, List.setIfInBounds_toArray, List.set_cons_zero, List.set_cons_succ]
          refine wpAnyH_ready (rs := [8]) (by kernel_rfl) (by simp) ?_
          refine AllReadyH.cons rfl (fun K hK => ?_) AllReadyH.nil
          go_simp
          go_at_call 57; refine (HCL.out wr.drew (below_drew (Below.refl _ _))).mono ?_; rintro e w6 ⟨A6, c6, rfl, hR6, l6, hb6'⟩; have hb6 : Below wr.heap.size wr w6 := (below_drew (Below.refl wr.heap.size wr)).trans hb6'; have hy0 := HFR.out w6 hb6; have x0' := pw_cell_below hb6 x0; have x1' := pw_cell_below hb6 x1; have x2' := pw_cell_below hb6 x2; have x3' := pw_cell_below hb6 x3; have x4' := pw_cell_below hb6 x4; unfold v43
          go_wp2_with fail
          refine hK.out _ _ ?_ (fun hHeld2 => ?_)
          · exact pw_cell_below hb6 cb4
          clear hK K hHeld
          rename _ => hHeld
          try simp only [Act.put, List.setIfInBounds_toArray, List.set_cons_zero, List.set_cons_succ]
          refine runH 9 (v := ?va9) rfl (by kernel_rfl) (fun _ _ _ h => h) (by assumption) (by rfl) ?ya9 ?ra9
          case ya9 => (intro w hSw; (try dsimp only at hSw); go_simp; try with_reducible rfl)
          try simp only [Act.put, List.setIfInBounds_toArray, List.set_cons_zero, List.set_cons_succ]
          refine wpAnyH_ready (rs := [10]) (by kernel_rfl) (by simp) ?_
          refine AllReadyH.cons rfl (fun K hK => ?_) AllReadyH.nil
          go_simp
          skip
          go_wp2_with fail
          refine hK.out _ _ ?_ (fun hHeld2 => ?_)
          · exact (set5w_cell g (i.toNat * 5) _ _ _ _ _ w6 _ (by show W.heap.size ≠ g; omega)).trans (pw_cell_below hb6 cb4)
          clear hK K hHeld
          rename _ => hHeld
          try simp only [Act.put, List.setIfInBounds_toArray, List.set_cons_zero, List.set_cons_succ]
          refine wpAnyH_done (by kernel_rfl) ?_ _
          have HM6 := Lib.hid (mix_store hi0 hlt HX.out hsz1r hgW hgr HM.out hb6 hR6 (.string x.f3) rfl)
          have HW6 := Lib.hid (set5w_below (HW.out.trans (hb6.mono HW.out.size)) g (i.toNat * 5) hgW (.int .i64 x.f0) (.int .i64 x.f1) (.int .i64 x.f2) (.string x.f3) (.slice A6 x.f4.length c6))
          have HA6 := Lib.hid ((set5w_far g (i.toNat * 5) (.int .i64 x.f0) (.int .i64 x.f1) (.int .i64 x.f2) (.string x.f3) (.slice A6 x.f4.length c6) w6 W.heap.size (by omega)).trans ((hb6.block _ (by omega)).trans HA3.out))
          have HR6 := Lib.hid ((set5w_far g (i.toNat * 5) (.int .i64 x.f0) (.int .i64 x.f1) (.int .i64 x.f2) (.string x.f3) (.slice A6 x.f4.length c6) w6 (W.heap.size + 1) (by omega)).trans ((hb6.block _ (by omega)).trans HR3.out))
          go_wp2
          go_roundw
          case rel => exact ⟨i + 1, rfl, by omega, by omega, HA6.out, HR6.out, HM6.out, HW6.out⟩
          case measure => simp [intOf]; omega
        · have hge : i = (v.f4.length : Int) := by omega
          subst hge
          have hRR := Lib.hid (mix_end HM.out hg2)
          have hlc := Lib.hid HM.out.le
          have a0 : wr.cell? ⟨W.heap.size, 0, none⟩ = some (.int .i64 v.f0) := (blk_cell HA3.out 0).trans rfl
          have a1 : wr.cell? ⟨W.heap.size, 1, none⟩ = some (.int .i64 v.f1) := (blk_cell HA3.out 1).trans rfl
          have a2 : wr.cell? ⟨W.heap.size, 2, none⟩ = some (.int .i64 v.f2) := (blk_cell HA3.out 2).trans rfl
          have a3 : wr.cell? ⟨W.heap.size, 3, none⟩ = some (.string v.f3) := (blk_cell HA3.out 3).trans rfl
          have r0 : wr.cell? ⟨W.heap.size + 1, 0, none⟩ = some (.int .i64 0) := (blk_cell HR3.out 0).trans rfl
          have r1 : wr.cell? ⟨W.heap.size + 1, 1, none⟩ = some (.int .i64 0) := (blk_cell HR3.out 1).trans rfl
          have r2 : wr.cell? ⟨W.heap.size + 1, 2, none⟩ = some (.int .i64 0) := (blk_cell HR3.out 2).trans rfl
          have r3 : wr.cell? ⟨W.heap.size + 1, 3, none⟩ = some (.string ⟨#[]⟩) := (blk_cell HR3.out 3).trans rfl
          have r4 : wr.cell? ⟨W.heap.size + 1, 4, none⟩ = some (.slice none 0 0) := (blk_cell HR3.out 4).trans rfl
          have fz0 := blk_frozen HR3.out 0
          have fz1 := blk_frozen HR3.out 1
          have fz2 := blk_frozen HR3.out 2
          have fz3 := blk_frozen HR3.out 3
          have fz4 := blk_frozen HR3.out 4
          have hszr : W.heap.size + 1 < wr.heap.size := blk_lt HR3.out
          go_wp2
          obtain ⟨Wf, hWf⟩ : ∃ Wf, Wf = set5w (W.heap.size + 1) 0 (.int .i64 v.f0) (.int .i64 v.f1) (.int .i64 v.f2) (.string v.f3) (.slice (some ⟨g, 0, none⟩) v.f4.length cap) wr := ⟨_, rfl⟩
          change bodyPost _ _ _ _ _ (set5w (W.heap.size + 1) 0 (.int .i64 v.f0) (.int .i64 v.f1) (.int .i64 v.f2) (.string v.f3) (.slice (some ⟨g, 0, none⟩) v.f4.length cap) wr)
          rw [← hWf]
          have hRf : Wf.heap[W.heap.size + 1]? = some (.cells #[.int .i64 v.f0, .int .i64 v.f1, .int .i64 v.f2, .string v.f3, .slice (some ⟨g, 0, none⟩) v.f4.length cap] 43 (0, 0)) := by rw [hWf]; exact set5w_at _ _ _ _ _ _ _ _ _ _ HR3.out
          have t0 : Wf.cell? ⟨W.heap.size + 1, 0, none⟩ = some (.int .i64 v.f0) := (blk_cell hRf 0).trans rfl
          have t1 : Wf.cell? ⟨W.heap.size + 1, 1, none⟩ = some (.int .i64 v.f1) := (blk_cell hRf 1).trans rfl
          have t2 : Wf.cell? ⟨W.heap.size + 1, 2, none⟩ = some (.int .i64 v.f2) := (blk_cell hRf 2).trans rfl
          have t3 : Wf.cell? ⟨W.heap.size + 1, 3, none⟩ = some (.string v.f3) := (blk_cell hRf 3).trans rfl
          have t4 : Wf.cell? ⟨W.heap.size + 1, 4, none⟩ = some (.slice (some ⟨g, 0, none⟩) v.f4.length cap) := (blk_cell hRf 4).trans rfl
          have hRRf : k43.R 43 Wf W.heap.size (fun _ => True) (.slice (some ⟨g, 0, none⟩) v.f4.length cap) v.f4 := by
            rw [hWf]; exact Kd.R_mono (Kd.R_step hRR.out (fun k hk _ => set5w_far _ _ _ _ _ _ _ _ _ (by omega))) (fun _ _ => trivial)
          have hBf : Below W.heap.size W Wf := by rw [hWf]; exact set5w_below HW.out _ _ (by omega) _ _ _ _ _
          exact bodyPost_ret (v := .agg #[.int .i64 v.f0, .int .i64 v.f1, .int .i64 v.f2, .string v.f3, .slice (some ⟨g, 0, none⟩) v.f4.length cap]) (by simp [results, Try.results57, go_sem, t0, t1, t2, t3, t4]) rfl ⟨_, _, rfl, hRRf, hlc.out, hBf⟩
end Go.Proofs.Ytofinglgnkdflaa
end
section
namespace Go.Proofs.Ytofinglgnkdflaa
open Go.RowKit Go.Maps Go.WideMaps Go.MapKept Go.ChangeMaps
set_option linter.unusedVariables false
set_option linter.unusedSimpArgs false
theorem law9 : Keyed Try.prog 9 := string_keyed Try.underlying9
theorem zero3 (w : World) : (zeroValue 3).run Try.prog w = .ok (.int .i64 0) w := by kernel_rfl
def kS (s : ByteArray) : Lit := .string s.data.toList
theorem kS_ne {s t : ByteArray} (h : s ≠ t) : kS s ≠ kS t := fun e => by
  unfold kS at e
  injection e with e
  apply h
  have h2 : s.data = t.data := by rw [← Array.toArray_toList (xs := s.data), e, Array.toArray_toList]
  cases s; cases t; simp at h2; rw [h2]
theorem key9 {s : ByteArray} (h : s.size ≤ 140737488351232) : keyOf Try.prog 9 (.string s) = some (kS s) := keyOf_string_mk Try.underlying9 (by unfold maxLen; omega)
def MapS (w : World) (m n : Nat) (f : ByteArray → Option Int) (sz : Nat) : Prop :=
  ∃ D : DataW Unit, w.ownsMap Try.prog 9 (plainElem Try.prog 3) m n D ∧ Maps.size D = sz ∧ ∀ s : ByteArray, s.size ≤ 140737488351232 → Maps.has D (kS s) = (f s).isSome ∧ ∀ i, f s = some i → D.atKey (kS s) (.lit (.int .i64 0)) = .lit (.int .i64 i)
theorem MapS.made (w : World) : MapS (w.alloc (.map #[] 0)) w.heap.size 0 (fun _ => none) 0 :=
  ⟨.map [], World.ownsMap_made _ _ _ _, rfl, fun s _ => ⟨rfl, fun i h => by cases h⟩⟩
theorem MapS.lt {w : World} {m n : Nat} {f : ByteArray → Option Int} {sz : Nat} (h : MapS w m n f sz) : m < w.heap.size := by
  obtain ⟨D, h1, _⟩ := h; exact h1.lt
theorem MapS.move {w w1 : World} {m n : Nat} {f : ByteArray → Option Int} {sz : Nat} (h : MapS w m n f sz) (hm : w1.heap[m]? = w.heap[m]?) : MapS w1 m n f sz := by
  obtain ⟨D, ⟨es, clock, hb, r⟩, h2⟩ := h
  exact ⟨D, ⟨es, clock, hm.trans hb, r⟩, h2⟩
section
variable {w : World} {ops : Array Oper} {rest : List Oper} {o : Oper} {a : Act} {Q : Exit → Act → World → Prop}
theorem wp_lookS (hg : o.guard = none) (m x : Operand) (hop : o.op = Op.lookup 99 m x true) {b n : Nat} {f : ByteArray → Option Int} {sz : Nat} (hM : MapS w b n f sz)
    (hm : a.eval m = .map (some b)) (s : ByteArray) (hx : a.eval x = .string s) (hs : s.size ≤ 140737488351232)
    (hK : ∀ c : Int, c = (f s).getD 0 → wpList Try.prog ops Q rest (a.put o.dst (.tuple #[.int .i64 c, .bool (f s).isSome])) w) :
    wpList Try.prog ops Q (o :: rest) a w := by
  obtain ⟨D, hown, hsz, hf⟩ := hM
  obtain ⟨h1, h2⟩ := hf s hs
  refine wpList_lookup_own_ok_int w hg m x 99 hop 9 3 .i64 law9 Try.underlying99 Try.underlying3 (zero3 _) b n D hm hown _ _ hx (key9 hs) ?_
  intro c hat _
  rw [h1]
  refine hK c ?_
  cases hfs : f s with
  | none =>
    have h3 : Maps.has D (kS s) = false := by rw [h1, hfs]; rfl
    rw [atKey_of_not_has h3] at hat
    injection hat with hat
    injection hat with _ hat
    exact hat.symm
  | some i =>
    rw [h2 i hfs] at hat
    injection hat with hat
    injection hat with _ hat
    exact hat.symm
theorem wp_putS (hg : o.guard = none) (m x v : Operand) (hop : o.op = Op.mapUpdate 99 m x v) {b n : Nat} {f : ByteArray → Option Int} {sz : Nat} (hM : MapS w b n f sz) (hn : n < 140737488351232)
    (hm : a.eval m = .map (some b)) (s : ByteArray) (hx : a.eval x = .string s) (hs : s.size ≤ 140737488351232) (i : Int) (hv : a.eval v = .int .i64 i) (hi : (Lit.int .i64 i).wf = true)
    (hK : ∀ w', MapS w' b (n + 1) (fun t => if t = s then some i else f t) (if (f s).isSome then sz else sz + 1) → w.grownBy w' (some b) → wpList Try.prog ops Q rest (a.put o.dst undef) w') :
    wpList Try.prog ops Q (o :: rest) a w := by
  obtain ⟨D, hown, hsz, hf⟩ := hM
  refine wpList_mapUpdate_own w hg m x v 99 hop 9 3 law9 Try.underlying99 _ b n D hm hown (by unfold maxLen; omega) _ _ _ hx hv (key9 hs) _ [] (plainElem_int Try.underlying3 hi) ?_
  intro w' hown' hgr
  have hk : WideAt.IsKeyLit (kS s) := law9.key (key9 hs)
  have hD := hown.isMap
  refine hK w' ⟨_, hown', ?_, fun t ht => ?_⟩ hgr
  · rw [size_put (hown.tidy law9), hsz, (hf s hs).1]
  · by_cases e : t = s
    · subst e
      dsimp only
      rw [if_pos rfl]
      exact ⟨has_put_same hD hk _, fun j hj => by injection hj with hj; subst hj; exact atKey_put_same hD hk _ _⟩
    · dsimp only
      rw [if_neg e, has_put_other (kS_ne e), atKey_put_other (kS_ne e)]
      exact hf t ht
theorem wp_delS (hg : o.guard = none) (m x : Operand) (hop : o.op = Op.call { callee := Callee.builtin Builtin.delete, args := #[m, x], argTypes := #[99, 9] }) {b n : Nat} {f : ByteArray → Option Int} {sz : Nat} (hM : MapS w b n f sz)
    (hm : a.eval m = .map (some b)) (s : ByteArray) (hx : a.eval x = .string s) (hs : s.size ≤ 140737488351232)
    (hK : ∀ w', MapS w' b n (fun t => if t = s then none else f t) (if (f s).isSome then sz - 1 else sz) → w.grownBy w' (some b) → wpList Try.prog ops Q rest (a.put o.dst (.tuple #[])) w') :
    wpList Try.prog ops Q (o :: rest) a w := by
  obtain ⟨D, hown, hsz, hf⟩ := hM
  refine wpList_delete_own w hg m x 99 9 hop 3 law9 Try.underlying99 _ b n D hm hown _ _ hx (key9 hs) ?_
  intro w' hown' hturn
  have hD := hown.isMap
  refine hK w' ⟨_, hown', ?_, fun t ht => ?_⟩ ?_
  · have h1 := size_del (k := kS s) (hown.tidy law9)
    rw [(hf s hs).1, hsz] at h1
    by_cases e : (f s).isSome = true
    · rw [if_pos e] at h1 ⊢; omega
    · rw [if_neg e] at h1 ⊢; omega
  · by_cases e : t = s
    · subst e
      dsimp only
      rw [if_pos rfl]
      exact ⟨by rw [has_del_same]; rfl, fun j hj => by cases hj⟩
    · dsimp only
      rw [if_neg e, has_del_other (kS_ne e), atKey_del_other (kS_ne e)]
      exact hf t ht
  · obtain ⟨es, clock, es', clock', hb, rfl⟩ := hturn
    exact ⟨rfl, rfl, rfl, by simp [setBlock], fun i _ hi => heap_setBlock_other hb _ (fun e => hi (by rw [e]))⟩
end
end Go.Proofs.Ytofinglgnkdflaa
end
section
namespace Go.Proofs.Ytofinglgnkdflaa
open Go.RowKit
open Go.Proofs.Ytofinglgnkdflaa.PHistoryChecks Go.Proofs.YtofinglgnkdflaaW.PrintWords Go.Proofs.YtofinglgnkdflaaW.PrintLast Go.Proofs.YtofinglgnkdflaaW.PrintMore
set_option linter.unusedVariables false
set_option linter.unusedSimpArgs false
theorem info9 : (Try.prog.info? 9).map (fun i => (i.zero, i.size, i.bytes)) = some (some (.string ⟨#[]⟩), 1, 16) := by kernel_rfl
def idxF (s : ByteArray) : Int → List ByteArray → Option Int
  | _, [] => none
  | n, x :: l => if x = s then some n else idxF s (n + 1) l
def idxS (L : List ByteArray) (s : ByteArray) : Option Int := idxF s 0 L
theorem idxF_app (s k : ByteArray) : ∀ (L : List ByteArray) (n : Int), idxF s n (L ++ [k]) = match idxF s n L with | some i => some i | none => if k = s then some (n + L.length) else none
  | [], n => by simp [idxF]
  | x :: L, n => by
    simp only [List.cons_append, idxF]
    by_cases h : x = s
    · rw [if_pos h, if_pos h]
    · rw [if_neg h, if_neg h, idxF_app s k L (n + 1)]
      cases idxF s (n + 1) L with
      | some i => rfl
      | none =>
        have e : n + 1 + (L.length : Int) = n + ((L.length : Int) + 1) := by omega
        simp [e]
theorem idxS_snoc {L : List ByteArray} {k : ByteArray} (h : idxS L k = none) : idxS (L ++ [k]) = fun t => if t = k then some (L.length : Int) else idxS L t := by
  funext t
  unfold idxS at h ⊢
  rw [idxF_app]
  by_cases e : t = k
  · subst e; rw [h, if_pos rfl]; simp
  · rw [if_neg e]
    cases idxF t 0 L with
    | some i => rfl
    | none => rw [if_neg (fun h => e h.symm)]
def numI (L : List ByteArray) (k : ByteArray) : Int := (idxS L k).getD L.length
def numL (L : List ByteArray) (k : ByteArray) : List ByteArray := if (idxS L k).isSome then L else L ++ [k]
structure Turn (ok : Nat → Prop) (w w' : World) : Prop where
  os : w'.os = w.os
  tape : w'.tape = w.tape
  output : w'.output = w.output
  size : w.heap.size ≤ w'.heap.size
  block : ∀ k, k < w.heap.size → ¬ ok k → w'.heap[k]? = w.heap[k]?
theorem Turn.refl (ok : Nat → Prop) (w : World) : Turn ok w w := ⟨rfl, rfl, rfl, Nat.le_refl _, fun _ _ _ => rfl⟩
theorem Turn.grown {ok : Nat → Prop} {w w1 w2 : World} {row : Option Nat} (h : Turn ok w w1) (hg : w1.grownBy w2 row) (hr : ∀ k, row = some k → k < w.heap.size → ok k) : Turn ok w w2 :=
  ⟨hg.os.trans h.os, hg.tape.trans h.tape, hg.output.trans h.output, Nat.le_trans h.size hg.size, fun k hk ho => (hg.block k (Nat.lt_of_lt_of_le hk h.size) (fun e => ho (hr k e.symm hk))).trans (h.block k hk ho)⟩
theorem Turn.alloc {ok : Nat → Prop} {w w1 : World} (h : Turn ok w w1) (o : Obj) : Turn ok w (w1.alloc o) := h.grown (World.grownBy_alloc w1 o none) (fun k e => by cases e)
theorem Turn.drew {ok : Nat → Prop} {w w1 : World} (h : Turn ok w w1) : Turn ok w w1.drew := ⟨h.os, h.tape, h.output, h.size, h.block⟩
theorem Turn.below {ok : Nat → Prop} {w w1 w2 : World} (h : Turn ok w w1) (hb : Below w1.heap.size w1 w2) : Turn ok w w2 := h.grown (grown_of_below hb none) (fun k e => by cases e)
theorem Turn.set {ok : Nat → Prop} {w w1 : World} (h : Turn ok w w1) (g j : Nat) (u : Value) (hg : g < w.heap.size → ok g) : Turn ok w (w1.setCell ⟨g, j, none⟩ u) :=
  ⟨h.os, h.tape, h.output, Nat.le_trans h.size (by simp [World.setCell]), fun k hk ho => (Below.heap_setCell w1 ⟨g, j, none⟩ u k (fun e => ho (by have e' : k = g := e; rw [e']; exact hg (by omega)))).trans (h.block k hk ho)⟩
def NumS (w : World) (base : Nat) (ok : Nat → Prop) (g : Nat) (L : List ByteArray) : Prop :=
  ∃ mv sv, w.heap[g]? = some (.cells #[mv, sv] 101 (0, 0)) ∧ ok g ∧ base ≤ g ∧ Kd.string.R 9 w base ok sv L ∧ ((mv = .map none ∧ L = []) ∨ ∃ m sz, mv = .map (some m) ∧ ok m ∧ base ≤ m ∧ MapS w m L.length (idxS L) sz)
theorem NumS.step {w w1 : World} {base : Nat} {ok : Nat → Prop} {g : Nat} {L : List ByteArray} (h : NumS w base ok g L) (hm : ∀ k, ok k → k < w.heap.size → w1.heap[k]? = w.heap[k]?) : NumS w1 base ok g L := by
  obtain ⟨mv, sv, h1, h2, h3, h4, h5⟩ := h
  refine ⟨mv, sv, (hm g h2 (blk_lt h1)).trans h1, h2, h3, Kd.R_step h4 hm, ?_⟩
  rcases h5 with h5 | ⟨m, sz, h5, h6, h7, h8⟩
  · exact .inl h5
  · exact .inr ⟨m, sz, h5, h6, h7, h8.move (hm m h6 h8.lt)⟩
theorem NumS.mono {w : World} {base : Nat} {ok ok' : Nat → Prop} {g : Nat} {L : List ByteArray} (h : NumS w base ok g L) (hm : ∀ k, k < w.heap.size → ok k → ok' k) : NumS w base ok' g L := by
  obtain ⟨mv, sv, h1, h2, h3, h4, h5⟩ := h
  refine ⟨mv, sv, h1, hm g (blk_lt h1) h2, h3, Kd.R_mono (Kd.R_bound h4) (fun k hk => hm k hk.2.2.1 hk.1), ?_⟩
  rcases h5 with h5 | ⟨m, sz, h5, h6, h7, h8⟩
  · exact .inl h5
  · exact .inr ⟨m, sz, h5, hm m h8.lt h6, h7, h8⟩
def NumP (W : World) (base : Nat) (ok : Nat → Prop) (g : Nat) (L : List ByteArray) (k : ByteArray) (e : Ending) (w' : World) : Prop :=
  e = .returned (.int .i64 (numI L k)) ∧ NumS w' base (fun b => ok b ∨ W.heap.size ≤ b) g (numL L k) ∧ Turn ok W w'
set_option maxHeartbeats 2000000 in
theorem number_found (W : World) (base : Nat) (ok : Nat → Prop) (g : Nat) (L : List ByteArray) (k : ByteArray) (hk : k.size ≤ 140737488351232) (h : NumS W base ok g L) (i : Int) (hi : idxS L k = some i) :
    Calls Try.prog 56 #[.pointer (some ⟨g, 0, none⟩), .string k] W (NumP W base ok g L k) := by
  have HN := Lib.hid h
  obtain ⟨mv, sv, h1, h2, h3, h4, h5⟩ := h
  rcases h5 with ⟨rfl, rfl⟩ | ⟨m, sz, rfl, h6, h7, hM⟩
  · cases hi
  · have c0 : W.cell? ⟨g, 0, none⟩ = some (.map (some m)) := (blk_cell h1 0).trans rfl
    have HP := Lib.hid (show NumP W base ok g L k (.returned (.int .i64 i)) W from ⟨by unfold numI; rw [hi]; rfl, by unfold numL; rw [hi]; exact HN.out.mono (fun k hk h => .inl h), Turn.refl _ _⟩)
    have hi1 : (idxS L k).isSome = true := by rw [hi]; rfl
    have hi2 : (idxS L k).getD 0 = i := by rw [hi]; rfl
    have HI := Lib.hid hi
    clear h1 h4 hi
    go_enter Try.func56, Try.ntmps56
    go_wp2_with (first | (at_lookup; refine wp_lookS rfl _ _ rfl hM rfl k rfl hk ?_; intro c hc; rw [hi1]; rw [hi2] at hc; subst hc))
    go_ret
    exact HP.out
theorem num_keep {w1 w2 : World} {base g : Nat} {ok : Nat → Prop} {L : List ByteArray} {mv sv : Value} (cg : w1.heap[g]? = some (.cells #[mv, sv] 101 (0, 0))) (hR1 : Kd.string.R 9 w1 base ok sv L) (hgr : w1.grownBy w2 sv.ownBlock) : w2.heap[g]? = some (.cells #[mv, sv] 101 (0, 0)) :=
  (hgr.block g (blk_lt cg) (fun e => by
    obtain ⟨_, _, _, q, hq, cells, h6⟩ := (Kd.R_bound hR1).1 g e.symm
    have hq2 : q = 9 := by simpa [Kd.string, Kd.scalar] using hq
    subst hq2
    rw [cg] at h6; injection h6 with h6; injection h6 with _ h6; exact absurd h6 (by decide))).trans cg
theorem num_end {W w1 w2 : World} {base : Nat} {ok : Nat → Prop} {g m : Nat} {L : List ByteArray} {k : ByteArray} {mv sv v1 : Value} {sz : Nat} (hi : idxS L k = none) (hg : ok g) (hgb : base ≤ g) (hgl : g < W.heap.size)
    (hmv : mv = .map (some m)) (hm : ok m ∨ W.heap.size ≤ m) (hmb : base ≤ m) (hM : MapS w1 m (L.length + 1) (fun t => if t = k then some (L.length : Int) else idxS L t) sz) (hT1 : Turn ok W w1) (hgm : g ≠ m) (cg : w1.heap[g]? = some (.cells #[mv, sv] 101 (0, 0)))
    (hR1 : Kd.string.R 9 w1 base (fun b => ok b ∨ W.heap.size ≤ b) sv L)
    (hR : Kd.string.R 9 w2 base (fun b => ok b ∨ W.heap.size ≤ b) v1 (L ++ [k])) (hgr : w1.grownBy w2 sv.ownBlock) :
    NumP W base ok g L k (.returned (.int .i64 L.length)) (w2.setCell ⟨g, 1, none⟩ v1) := by
  have hrow : ∀ b, sv.ownBlock = some b → b < w1.heap.size ∧ (ok b ∨ W.heap.size ≤ b) ∧ ∃ cells, w1.heap[b]? = some (.cells cells 9 (0, 0)) := fun b hb => by
    have h2 := (Kd.R_bound hR1).1 b hb
    obtain ⟨h3, h4, h5, q, hq, h6⟩ := h2
    have hq2 : q = 9 := by simpa [Kd.string, Kd.scalar] using hq
    subst hq2
    exact ⟨h5, h3, h6⟩
  have hg2 := num_keep cg hR1 hgr
  have hM2 : MapS w2 m (L.length + 1) (fun t => if t = k then some (L.length : Int) else idxS L t) sz := hM.move (hgr.block m hM.lt (fun e => by
    obtain ⟨_, _, cells, h6⟩ := hrow m e.symm
    obtain ⟨D, ⟨es, clock, hb, _⟩, _⟩ := hM
    rw [hb] at h6; injection h6 with h6; cases h6))
  refine ⟨by unfold numI; rw [hi]; rfl, ?_, ?_⟩
  · unfold numL
    rw [hi]
    refine ⟨mv, v1, blk_set hg2 1 v1, .inl hg, hgb, ?_, .inr ⟨m, sz, hmv, hm, hmb, ?_⟩⟩
    · exact Kd.R_set hR hg2 (fun q hq => by
        have hq2 : q = 9 := by simpa [Kd.string, Kd.scalar] using hq
        subst hq2; decide) 1 v1
    · rw [if_neg (by simp), List.length_append, List.length_singleton, idxS_snoc hi]
      exact hM2.move (Below.heap_setCell w2 ⟨g, 1, none⟩ v1 m (fun e => hgm e.symm))
  · refine Turn.set (hT1.grown hgr (fun b hb hlt => ?_)) g 1 v1 (fun _ => hg)
    rcases (hrow b hb).2.1 with h7 | h7
    · exact h7
    · omega
theorem rowW {w : World} {base : Nat} {ok : Nat → Prop} {sv : Value} {L : List ByteArray} (h : Kd.string.R 9 w base ok sv L) {w1 : World} {m : Nat} {f : ByteArray → Option Int} {n sz : Nat} (hM : MapS w m n f sz) (hg : w.grownBy w1 (some m)) : Kd.string.R 9 w1 base ok sv L :=
  Kd.R_mono (Kd.R_step (Kd.R_bound h) (fun k hk hlt => hg.block k hlt (fun e => by
    injection e with e
    subst e
    obtain ⟨_, _, _, q, hq, cells, h6⟩ := hk
    obtain ⟨D, ⟨es, clock, hb, _⟩, _⟩ := hM
    rw [hb] at h6; injection h6 with h6; cases h6))) (fun k hk => hk.1)
set_option maxHeartbeats 4000000 in
theorem number_more (W : World) (base : Nat) (ok : Nat → Prop) (g : Nat) (L : List ByteArray) (k : ByteArray) (hk : k.size ≤ 140737488351232) (hb : base ≤ W.heap.size) (hL : L.length ≤ 1000000) (m sz : Nat) (sv : Value)
    (hg : W.heap[g]? = some (.cells #[.map (some m), sv] 101 (0, 0))) (hog : ok g) (hbg : base ≤ g) (hR : Kd.string.R 9 W base ok sv L) (hom : ok m) (hbm : base ≤ m) (hM : MapS W m L.length (idxS L) sz) (hi : idxS L k = none) :
    Calls Try.prog 56 #[.pointer (some ⟨g, 0, none⟩), .string k] W (NumP W base ok g L k) := by
  obtain ⟨A, c, rfl⟩ := Kd.R_slice hR
  have c0 : W.cell? ⟨g, 0, none⟩ = some (.map (some m)) := (blk_cell hg 0).trans rfl
  have c1 : W.cell? ⟨g, 1, none⟩ = some (.slice A L.length c) := (blk_cell hg 1).trans rfl
  have hi1 : (idxS L k).isSome = false := by rw [hi]; rfl
  have hi2 : (idxS L k).getD 0 = 0 := by rw [hi]; rfl
  have hq := fun wx => run_eql_map_nil (P := Try.prog) wx 99 9 3 (some m) Try.underlying99
  have hgm : g ≠ m := fun e => by
    subst e
    obtain ⟨D, ⟨es, clock, hb, _⟩, _⟩ := hM
    rw [hb] at hg; injection hg with hg; cases hg
  have hgl := blk_lt hg
  have HG := Lib.hid hg
  have HI := Lib.hid hi
  have HR0 := Lib.hid (Kd.R_mono hR (fun b (h : ok b) => (Or.inl h : ok b ∨ W.heap.size ≤ b)))
  have HOG := Lib.hid hog
  have HOM := Lib.hid hom
  have HM := Lib.hid hM
  clear hg hi hR hog hom
  go_enter Try.func56, Try.ntmps56
  go_wp2_with (first
    | (at_lookup; refine wp_lookS rfl _ _ rfl hM rfl k rfl hk ?_; intro cc hc; rw [hi1]; rw [hi2] at hc; subst hc)
    | (at_mapUpdate; refine wp_putS rfl _ _ _ rfl hM (by omega) rfl k rfl hk _ rfl (WalkArith.wf_i64 (by omega)) ?_; intro w1 hM1 hg1;
       have HM1 := Lib.hid hM1; have HG1 := Lib.hid hg1; have hcg := Lib.hid ((hg1.block g hgl (fun e => hgm (by injection e))).trans HG.out);
       have d1 : w1.cell? ⟨g, 1, none⟩ = some (.slice A L.length c) := (blk_cell hcg.out 1).trans rfl;
       have HR1 := Lib.hid (rowW HR0.out HM.out hg1); have hsz1 := hg1.size; clear hM1 hg1)
    | (at_builtin; refine Kd.R_append (w0 := w1) Kd.string base rfl _ _ 27 9 _ 16 rfl Try.underlying27 info9 rfl (by decide) (by decide) (.slice A L.length c) L k [.string k] (fun b => ok b ∨ W.heap.size ≤ b) (fun _ => False) rfl rfl rfl (fun _ h => h.elim) (fun b hb => .inr (by omega)) HR1.out (Below.refl _ _) (by omega) (by omega) ?_; intro v1 w2 hR2 hb2 hg2 hat2;
       obtain ⟨A1, c2, rfl⟩ := Kd.R_slice hR2;
       have HG2 := Lib.hid (num_keep hcg.out HR1.out hg2);
       have f1 : w2.cell? ⟨g, 1, none⟩ = some (.slice A L.length c) := (blk_cell HG2.out 1).trans rfl; have f2 := blk_frozen HG2.out 1;
       have HE := Lib.hid (num_end HI.out HOG.out hbg hgl rfl (.inl HOM.out) hbm HM1.out ((Turn.refl ok W).grown HG1.out (fun b e hlt => by injection e with e; subst e; exact HOM.out)) hgm hcg.out HR1.out hR2 hg2); rw [List.length_append, List.length_singleton] at HE; clear hR2 hb2 hg2 hat2))
  all_goals go_ret
  all_goals exact HE.out
set_option maxHeartbeats 4000000 in
theorem number_nil (W : World) (base : Nat) (ok : Nat → Prop) (g : Nat) (k : ByteArray) (hk : k.size ≤ 140737488351232) (hb : base ≤ W.heap.size) (sv : Value)
    (hg : W.heap[g]? = some (.cells #[.map none, sv] 101 (0, 0))) (hog : ok g) (hbg : base ≤ g) (hR : Kd.string.R 9 W base ok sv []) :
    Calls Try.prog 56 #[.pointer (some ⟨g, 0, none⟩), .string k] W (NumP W base ok g [] k) := by
  obtain ⟨A, c, rfl⟩ := Kd.R_slice hR
  have c0 : W.cell? ⟨g, 0, none⟩ = some (.map none) := (blk_cell hg 0).trans rfl
  have c1 : W.cell? ⟨g, 1, none⟩ = some (.slice A ([] : List ByteArray).length c) := (blk_cell hg 1).trans rfl
  have hq := fun wx => run_eql_map_nil (P := Try.prog) wx 99 9 3 none Try.underlying99
  have hrun := Maps.look_nil (w := W) true law9 Try.underlying99 (zero3 _) (key9 hk)
  have hgl := blk_lt hg
  have f0 := blk_frozen hg 0
  have hmm := run_makeMap (P := Try.prog) 99 W
  have hgs := blk_alloc (blk_set hg 0 (.map (some W.heap.size))) (.map #[] 0)
  have hes : (W.setCell ⟨g, 0, none⟩ (.map (some W.heap.size))).heap.size = W.heap.size := by simp [World.setCell]
  obtain ⟨Wm, hWm⟩ : ∃ Wm, Wm = (W.setCell ⟨g, 0, none⟩ (.map (some W.heap.size))).alloc (.map #[] 0) := ⟨_, rfl⟩
  have hM : MapS Wm W.heap.size 0 (fun _ => none) 0 := by
    rw [hWm]
    have h := MapS.made (W.setCell ⟨g, 0, none⟩ (.map (some W.heap.size)))
    rw [hes] at h
    exact h
  have hTm : Turn ok W Wm := by rw [hWm]; exact ((Turn.refl ok W).set g 0 _ (fun _ => hog)).alloc _
  rw [← hWm] at hgs
  have hRm : Kd.string.R 9 Wm base (fun b => ok b ∨ W.heap.size ≤ b) (.slice A ([] : List ByteArray).length c) [] := by
    rw [hWm]
    exact Kd.R_mono (Kd.R_alloc (Kd.R_set hR hg (fun q hq => by
      have hq2 : q = 9 := by simpa [Kd.string, Kd.scalar] using hq
      subst hq2; decide) 0 (.map (some W.heap.size))) (.map #[] 0)) (fun b h => .inl h)
  have hgm : g ≠ W.heap.size := by omega
  have HG := Lib.hid (show Wm.heap[g]? = some (.cells #[.map (some W.heap.size), .slice A ([] : List ByteArray).length c] 101 (0, 0)) from hgs)
  have HRm := Lib.hid hRm
  have HOG := Lib.hid hog
  have HTm := Lib.hid hTm
  have HWm := Lib.hid hWm
  have HMm := Lib.hid hM
  have hsm : W.heap.size ≤ Wm.heap.size := hTm.size
  clear hg hR hog hgs hTm hRm hWm
  go_enter Try.func56, Try.ntmps56
  have hsl : W.heap.size < Wm.heap.size := HMm.out.lt
  have hgl2 : g < Wm.heap.size := by omega
  go_wp2_with (first
    | (at_mapUpdate; rw [← HWm.out]; refine wp_putS rfl _ _ _ rfl hM (by omega) rfl k rfl hk _ rfl (WalkArith.wf_i64 (by omega)) ?_; intro w1 hM1 hg1;
       have HM1 := Lib.hid hM1; have HG1 := Lib.hid hg1; have hcg := Lib.hid ((hg1.block g hgl2 (fun e => hgm (by injection e))).trans HG.out);
       have d1 : w1.cell? ⟨g, 1, none⟩ = some (.slice A 0 c) := (blk_cell hcg.out 1).trans rfl;
       have HR1 := Lib.hid (rowW HRm.out HMm.out hg1); have hsz1 := hg1.size; clear hM1 hg1)
    | (at_builtin; refine Kd.R_append (w0 := w1) Kd.string base rfl _ _ 27 9 _ 16 rfl Try.underlying27 info9 rfl (by decide) (by decide) (.slice A 0 c) [] k [.string k] (fun b => ok b ∨ W.heap.size ≤ b) (fun _ => False) rfl rfl rfl (fun _ h => h.elim) (fun b hb => .inr (by omega)) HR1.out (Below.refl _ _) (by omega) (by simp) ?_; intro v1 w2 hR2 hb2 hg2 hat2;
       obtain ⟨A1, c2, rfl⟩ := Kd.R_slice hR2;
       have HG2 := Lib.hid (num_keep hcg.out HR1.out hg2);
       have f1 : w2.cell? ⟨g, 1, none⟩ = some (.slice A 0 c) := (blk_cell HG2.out 1).trans rfl; have f2 := blk_frozen HG2.out 1;
       have HE := Lib.hid (num_end (L := []) (k := k) rfl HOG.out hbg hgl rfl (.inr (Nat.le_refl _)) hb HM1.out (HTm.out.grown HG1.out (fun b e hlt => by injection e with e; omega)) hgm hcg.out HR1.out hR2 hg2); rw [List.length_append, List.length_singleton] at HE; clear hR2 hb2 hg2 hat2))
  all_goals go_ret
  all_goals exact HE.out
theorem number_any (W : World) (base : Nat) (ok : Nat → Prop) (g : Nat) (L : List ByteArray) (k : ByteArray) (hk : k.size ≤ 140737488351232) (hb : base ≤ W.heap.size) (hL : L.length ≤ 1000000) (h : NumS W base ok g L) :
    Calls Try.prog 56 #[.pointer (some ⟨g, 0, none⟩), .string k] W (NumP W base ok g L k) := by
  cases hi : idxS L k with
  | some i => exact number_found W base ok g L k hk h i hi
  | none =>
    obtain ⟨mv, sv, h1, h2, h3, h4, h5⟩ := h
    rcases h5 with ⟨rfl, rfl⟩ | ⟨m, sz, rfl, h6, h7, hM⟩
    · exact number_nil W base ok g k hk hb sv h1 h2 h3 h4
    · exact number_more W base ok g L k hk hb hL m sz sv h1 h2 h3 h4 h6 h7 hM hi
end Go.Proofs.Ytofinglgnkdflaa
end
