/- Layer 7: Make: the walk. -/
import Derived.Test.YtofinglgnkdflaaLXD
import Derived.Test.YtofinglgnkdflaaLXC
section
namespace Go.Proofs.Ytofinglgnkdflaa
open Go.RowKit
open Go.Proofs.Ytofinglgnkdflaa.PHistoryChecks Go.Proofs.YtofinglgnkdflaaW.PrintWords Go.Proofs.YtofinglgnkdflaaW.PrintLast Go.Proofs.YtofinglgnkdflaaW.PrintMore
set_option linter.unusedVariables false
set_option linter.unusedSimpArgs false
structure St where
  pr : List ByteArray
  ob : List ByteArray
  cl : List S50
  op : ByteArray → Option Int
  on : Nat
  lg : Int
def st0 : St := ⟨[], [], [], fun _ => none, 0, -1⟩
def newCall (s : St) (at_ : Int) (e : S47) : S50 := ⟨numI s.pr e.f1, numI s.ob e.f2, e.f3, e.f4, at_, -1, z43⟩
def stInv (s : St) (at_ : Int) (e : S47) : St :=
  ⟨numL s.pr e.f1, numL s.ob e.f2, s.cl ++ [newCall s at_ e], fun t => if t = e.f1 then some (s.cl.length : Int) else s.op t, s.on + 1,
    if s.lg < 0 ∧ (64 < (numL s.pr e.f1).length ∨ 4096 < s.cl.length + 1 ∨ 10 < s.on + 1) then at_ else s.lg⟩
def setRes (l : List S50) (c at_ : Int) (v : S43) : List S50 := l.set c.toNat { rd_T50 l c with f5 := at_, f6 := v }
def stRes (s : St) (at_ : Int) (e : S47) (c : Int) : St :=
  ⟨s.pr, s.ob, setRes s.cl c at_ e.f4, fun t => if t = e.f1 then none else s.op t, s.on - 1, s.lg⟩
inductive MkR where
  | bad (at_ code : Int)
  | go (s : St)
def mkStep (s : St) (at_ : Int) (e : S47) : MkR :=
  if rightE e = false then .bad at_ 2
  else match s.op e.f1 with
    | some c => if e.f0 = 1 then .bad at_ 71 else .go (stRes s at_ e c)
    | none => if e.f0 = 2 then .bad at_ 70 else .go (stInv s at_ e)
def mkGo : List S47 → Int → St → MkR
  | [], _, s => .go s
  | e :: l, at_, s => match mkStep s at_ e with
    | .bad a c => .bad a c
    | .go s' => mkGo l (at_ + 1) s'
structure PastL where
  pr : List ByteArray
  ob : List ByteArray
  cl : List S50
def past0 : PastL := ⟨[], [], []⟩
def mkEnd : MkR → PastL × Int × Int
  | .bad a c => (past0, a, c)
  | .go s => if 0 ≤ s.lg then (past0, s.lg, 72) else (⟨s.pr, s.ob, s.cl⟩, 0, 0)
def makeF (E : List S47) : PastL × Int × Int := mkEnd (mkGo E 0 st0)
theorem mkGo_from (E : List S47) (i : Int) (s : St) (h0 : 0 ≤ i) (h1 : i < (E.length : Int)) :
    mkGo (E.drop i.toNat) i s = match mkStep s i (rd_T47 E i) with | .bad a c => .bad a c | .go s' => mkGo (E.drop (i + 1).toNat) (i + 1) s' := by
  have hn : i.toNat < E.length := by omega
  have e : (i + 1).toNat = i.toNat + 1 := by omega
  rw [e, List.drop_eq_getElem_cons hn]
  simp only [mkGo]
  unfold rd_T47
  rw [List.getD_eq_getElem?_getD, List.getElem?_eq_getElem hn]; rfl
theorem mkGo_end (E : List S47) (i : Int) (s : St) (h1 : ¬ i < (E.length : Int)) : mkGo (E.drop i.toNat) i s = .go s := by
  rw [List.drop_eq_nil_of_le (by omega)]; rfl
def clr (f : Nat → Nat) (j : Nat) : Nat → Prop := fun k => f k = j
def recol (f : Nat → Nat) (n j : Nat) : Nat → Nat := fun k => if k < n then f k else j
theorem recol_lt {f : Nat → Nat} {n j k : Nat} (h : k < n) : recol f n j k = f k := by unfold recol; rw [if_pos h]
theorem recol_ge {f : Nat → Nat} {n j k : Nat} (h : n ≤ k) : recol f n j k = j := by unfold recol; rw [if_neg (by omega)]
section
variable {w w1 : World} {b g i j c : Nat} {L : List ByteArray} {f : Nat → Nat}
theorem turn_same (hT : Turn (clr f j) w w1) (hij : i ≠ j) : ∀ k, clr f i k → k < w.heap.size → w1.heap[k]? = w.heap[k]? := fun k hk hlt => hT.block k hlt (fun h => hij (by unfold clr at hk h; omega))
theorem NumS.turn (h : NumS w b (clr f i) g L) (hT : Turn (clr f j) w w1) (hij : i ≠ j) (c : Nat) : NumS w1 b (clr (recol f w.heap.size c) i) g L := by
  have h2 := h.step (turn_same hT hij)
  have h3 : NumS w b (clr (recol f w.heap.size c) i) g L := h.mono fun k hk h4 => by unfold clr at h4 ⊢; rw [recol_lt hk]; exact h4
  exact h3.step fun k hk hlt => by
    unfold clr at hk; rw [recol_lt hlt] at hk
    exact turn_same hT hij k hk hlt
theorem R_turn {α : Type} {d : Kd α} {e : Nat} {v : Value} {xs : List α} (h : d.R e w b (clr f i) v xs) (hT : Turn (clr f j) w w1) (hij : i ≠ j) (c : Nat) : d.R e w1 b (clr (recol f w.heap.size c) i) v xs :=
  Kd.R_mono (Kd.R_step (Kd.R_bound h) (fun k hk hlt => turn_same hT hij k hk.1 hlt)) (fun k hk => by unfold clr; rw [recol_lt hk.2.2.1]; exact hk.1)
theorem MapS.turn {m n sz : Nat} {fn : ByteArray → Option Int} (h : MapS w m n fn sz) (hm : f m = i) (hT : Turn (clr f j) w w1) (hij : i ≠ j) : MapS w1 m n fn sz := h.move (turn_same hT hij m hm h.lt)
theorem blk_turn {k : Nat} {o : Obj} (h : w.heap[k]? = some o) (hm : f k = i) (hT : Turn (clr f j) w w1) (hij : i ≠ j) : w1.heap[k]? = some o := (turn_same hT hij k hm (Array.getElem?_eq_some_iff.1 h).1).trans h
theorem turn_of_below (hb : Below w.heap.size w w1) (f : Nat → Nat) (j : Nat) : Turn (clr f j) w w1 := (Turn.refl _ w).below hb
end
structure MkF (f : Nat → Nat) (W wr : World) (n : Nat) (cv : Value) (s : St) : Prop where
  pr : NumS wr W.heap.size (clr f 1) (W.heap.size + 1) s.pr
  ob : NumS wr W.heap.size (clr f 2) (W.heap.size + 2) s.ob
  mp : MapS wr (W.heap.size + 3) n s.op s.on
  mc : f (W.heap.size + 3) = 3
  cl : k50.R 50 wr W.heap.size (clr f 4) cv s.cl
  rs : wr.heap[W.heap.size]? = some (.cells #[.slice none 0 0, .slice none 0 0, .slice none 0 0] 30 (0, 0))
  rc : f W.heap.size = 0
  bl : Below W.heap.size W wr
  lo : ∀ k, k < W.heap.size → f k = 0
theorem MkF.size {f : Nat → Nat} {W wr : World} {n : Nat} {cv : Value} {s : St} (h : MkF f W wr n cv s) : W.heap.size + 3 < wr.heap.size := h.mp.lt
theorem MkF.below {f : Nat → Nat} {W wr w1 : World} {n : Nat} {cv : Value} {s : St} (h : MkF f W wr n cv s) (hb : Below wr.heap.size wr w1) (c : Nat) : MkF (recol f wr.heap.size c) W w1 n cv s := by
  have hT := turn_of_below hb f 9
  have hs := h.size
  exact ⟨h.pr.turn hT (by decide) c, h.ob.turn hT (by decide) c, h.mp.turn h.mc hT (by decide), (recol_lt hs).trans h.mc, R_turn h.cl hT (by decide) c, blk_turn h.rs h.rc hT (by decide), (recol_lt (by omega)).trans h.rc, h.bl.trans (hb.mono h.bl.size), fun k hk => (recol_lt (by omega)).trans (h.lo k hk)⟩
theorem below_turn {f : Nat → Nat} {W wr w1 : World} {j : Nat} (hb : Below W.heap.size W wr) (hT : Turn (clr f j) wr w1) (hB : ∀ k, k < W.heap.size → f k ≠ j) : Below W.heap.size W w1 :=
  hb.trans ⟨hT.os, hT.tape, hT.output, hT.size, fun k hk => hT.block k (Nat.lt_of_lt_of_le hk hb.size) (hB k hk)⟩
theorem recol_or {f : Nat → Nat} {n j k : Nat} (h : clr f j k ∨ n ≤ k) : clr (recol f n j) j k := by
  unfold clr
  rcases Nat.lt_or_ge k n with h1 | h1
  · rw [recol_lt h1]; rcases h with h | h
    · exact h
    · omega
  · exact recol_ge h1
section
variable {f : Nat → Nat} {W wr w1 : World} {n : Nat} {cv : Value} {s : St}
theorem MkF.num1 {k : ByteArray} {e : Ending} (h : MkF f W wr n cv s) (hp : NumP wr W.heap.size (clr f 1) (W.heap.size + 1) s.pr k e w1) : MkF (recol f wr.heap.size 1) W w1 n cv { s with pr := numL s.pr k } := by
  obtain ⟨_, h1, hT⟩ := hp
  have hs := h.size
  exact ⟨h1.mono (fun b hb ho => recol_or ho), h.ob.turn hT (by decide) 1, h.mp.turn h.mc hT (by decide), (recol_lt hs).trans h.mc, R_turn h.cl hT (by decide) 1, blk_turn h.rs h.rc hT (by decide), (recol_lt (by omega)).trans h.rc,
    below_turn h.bl hT (fun b hb => by rw [h.lo b hb]; decide), fun b hb => (recol_lt (by omega)).trans (h.lo b hb)⟩
theorem MkF.num2 {k : ByteArray} {e : Ending} (h : MkF f W wr n cv s) (hp : NumP wr W.heap.size (clr f 2) (W.heap.size + 2) s.ob k e w1) : MkF (recol f wr.heap.size 2) W w1 n cv { s with ob := numL s.ob k } := by
  obtain ⟨_, h1, hT⟩ := hp
  have hs := h.size
  exact ⟨h.pr.turn hT (by decide) 2, h1.mono (fun b hb ho => recol_or ho), h.mp.turn h.mc hT (by decide), (recol_lt hs).trans h.mc, R_turn h.cl hT (by decide) 2, blk_turn h.rs h.rc hT (by decide), (recol_lt (by omega)).trans h.rc,
    below_turn h.bl hT (fun b hb => by rw [h.lo b hb]; decide), fun b hb => (recol_lt (by omega)).trans (h.lo b hb)⟩
theorem turn_grown {w w1 : World} {j : Nat} {row : Option Nat} (hg : w.grownBy w1 row) (hr : ∀ k, row = some k → k < w.heap.size → f k = j) : Turn (clr f j) w w1 := (Turn.refl _ w).grown hg hr
theorem MkF.map {n' sz : Nat} {op' : ByteArray → Option Int} (h : MkF f W wr n cv s) (hM : MapS w1 (W.heap.size + 3) n' op' sz) (hg : wr.grownBy w1 (some (W.heap.size + 3))) : MkF (recol f wr.heap.size 0) W w1 n' cv { s with op := op', on := sz } := by
  have hs := h.size
  have hT : Turn (clr f 3) wr w1 := turn_grown hg (fun k e _ => by injection e with e; rw [← e]; exact h.mc)
  exact ⟨h.pr.turn hT (by decide) 0, h.ob.turn hT (by decide) 0, hM, (recol_lt hs).trans h.mc, R_turn h.cl hT (by decide) 0, blk_turn h.rs h.rc hT (by decide), (recol_lt (by omega)).trans h.rc,
    below_turn h.bl hT (fun b hb => by rw [h.lo b hb]; decide), fun b hb => (recol_lt (by omega)).trans (h.lo b hb)⟩
theorem MkF.calls {cv1 : Value} {cl1 : List S50} (h : MkF f W wr n cv s) (hR : k50.R 50 w1 W.heap.size (fun b => clr f 4 b ∨ wr.heap.size ≤ b) cv1 cl1) (hT : Turn (clr f 4) wr w1) : MkF (recol f wr.heap.size 4) W w1 n cv1 { s with cl := cl1 } := by
  have hs := h.size
  exact ⟨h.pr.turn hT (by decide) 4, h.ob.turn hT (by decide) 4, h.mp.turn h.mc hT (by decide), (recol_lt hs).trans h.mc, Kd.R_mono hR (fun b ho => recol_or ho), blk_turn h.rs h.rc hT (by decide), (recol_lt (by omega)).trans h.rc,
    below_turn h.bl hT (fun b hb => by rw [h.lo b hb]; decide), fun b hb => (recol_lt (by omega)).trans (h.lo b hb)⟩
theorem MkF.large (h : MkF f W wr n cv s) (l : Int) : MkF f W wr n cv { s with lg := l } := ⟨h.pr, h.ob, h.mp, h.mc, h.cl, h.rs, h.rc, h.bl, h.lo⟩
theorem MkF.more (h : MkF f W wr n cv s) {n' : Nat} (hn : n ≤ n') : MkF f W wr n' cv s := ⟨h.pr, h.ob, by obtain ⟨D, h1, h2⟩ := h.mp; exact ⟨D, h1.mono hn, h2⟩, h.mc, h.cl, h.rs, h.rc, h.bl, h.lo⟩
theorem MkF.drew (h : MkF f W wr n cv s) : MkF f W wr.drew n cv s := ⟨h.pr, h.ob, h.mp, h.mc, Kd.R_drew h.cl, h.rs, h.rc, below_drew h.bl, h.lo⟩
end
def set6 (p : Nat) (u v0 v1 v2 v3 v4 : Value) (cur : Array Value) : Array Value := set5 (p + 10) v0 v1 v2 v3 v4 (cur.setIfInBounds (p + 9) u)
def set6w (g p : Nat) (u v0 v1 v2 v3 v4 : Value) (w : World) : World := set5w g (p + 10) v0 v1 v2 v3 v4 (w.setCell ⟨g, p + 9, none⟩ u)
theorem set6w_at (g p : Nat) (u v0 v1 v2 v3 v4 : Value) (w : World) (cur : Array Value) (e : Nat) (h : w.heap[g]? = some (.cells cur e (0, 0))) : (set6w g p u v0 v1 v2 v3 v4 w).heap[g]? = some (.cells (set6 p u v0 v1 v2 v3 v4 cur) e (0, 0)) :=
  set5w_at _ _ _ _ _ _ _ _ _ _ (blk_set h _ _)
theorem set6w_far (g p : Nat) (u v0 v1 v2 v3 v4 : Value) (w : World) (k : Nat) (h : k ≠ g) : (set6w g p u v0 v1 v2 v3 v4 w).heap[k]? = w.heap[k]? := (set5w_far _ _ _ _ _ _ _ _ _ h).trans (Below.heap_setCell _ _ _ _ h)
theorem set6_size (p : Nat) (u v0 v1 v2 v3 v4 : Value) (cur : Array Value) : (set6 p u v0 v1 v2 v3 v4 cur).size = cur.size := by unfold set6; rw [set5_size, Array.size_setIfInBounds]
theorem set6_far (p : Nat) (u v0 v1 v2 v3 v4 : Value) (cur : Array Value) (k : Nat) (h : k < p + 9 ∨ p + 15 ≤ k) : (set6 p u v0 v1 v2 v3 v4 cur)[k]? = cur[k]? := by
  unfold set6
  rw [set5_far _ _ _ _ _ _ _ _ (by omega), Array.getElem?_setIfInBounds, if_neg (by omega)]
theorem set6_chunk {i : Nat} {a0 a1 a2 a3 a4 a5 a6 a7 a8 a9 b0 b1 b2 b3 b4 u v0 v1 v2 v3 v4 : Value} {cur : Array Value} (hc : Chunk 15 cur i [a0, a1, a2, a3, a4, a5, a6, a7, a8, a9, b0, b1, b2, b3, b4]) (h : i * 15 + 15 ≤ cur.size) :
    Chunk 15 (set6 (i * 15) u v0 v1 v2 v3 v4 cur) i [a0, a1, a2, a3, a4, a5, a6, a7, a8, u, v0, v1, v2, v3, v4] := by
  refine ⟨rfl, fun o x hx => ?_⟩
  have ho : o < 15 := (List.getElem?_eq_some_iff.1 hx).1
  by_cases h9 : o < 9
  · rw [set6_far _ _ _ _ _ _ _ _ _ (by omega)]
    refine hc.2 o x ?_
    have hcs : o = 0 ∨ o = 1 ∨ o = 2 ∨ o = 3 ∨ o = 4 ∨ o = 5 ∨ o = 6 ∨ o = 7 ∨ o = 8 := by omega
    rcases hcs with rfl | rfl | rfl | rfl | rfl | rfl | rfl | rfl | rfl <;> exact hx
  · unfold set6
    by_cases h10 : o = 9
    · subst h10
      rw [set5_far _ _ _ _ _ _ _ _ (by omega), Array.getElem?_setIfInBounds, if_pos rfl, if_pos (by omega)]
      exact hx
    · simp only [set5, Array.getElem?_setIfInBounds, Array.size_setIfInBounds]
      have hcs : o = 10 ∨ o = 11 ∨ o = 12 ∨ o = 13 ∨ o = 14 := by omega
      rcases hcs with rfl | rfl | rfl | rfl | rfl
      all_goals (simp at hx; subst hx; repeat (first | rw [if_neg (by omega)] | rw [if_pos (by omega)]))
theorem setRes_length (l : List S50) (c at_ : Int) (v : S43) : (setRes l c at_ v).length = l.length := by simp [setRes]
theorem setRes_at {l : List S50} {c at_ : Int} {v : S43} (h0 : 0 ≤ c) (h1 : c < (l.length : Int)) (j : Nat) : (setRes l c at_ v)[j]? = if j = c.toNat then some { rd_T50 l c with f5 := at_, f6 := v } else l[j]? := by
  unfold setRes
  rw [List.getElem?_set]
  by_cases e : c.toNat = j
  · rw [if_pos e, if_pos e.symm, if_pos (by omega)]
  · rw [if_neg e, if_neg (fun h => e h.symm)]
theorem call_set {w : World} {base g cap : Nat} {ok : Nat → Prop} {l : List S50} {c at_ : Int} {v : S43} {A6 : Option Addr} {c6 : Nat} (h0 : 0 ≤ c) (h1 : c < (l.length : Int)) (h : k50.R 50 w base ok (.slice (some ⟨g, 0, none⟩) l.length cap) l)
    (hv : k43.R 43 w base (fun k => ok k ∧ k ≠ g) (.slice A6 v.f4.length c6) v.f4) :
    k50.R 50 (set6w g (c.toNat * 15) (.int .i64 at_) (.int .i64 v.f0) (.int .i64 v.f1) (.int .i64 v.f2) (.string v.f3) (.slice A6 v.f4.length c6) w) base ok (.slice (some ⟨g, 0, none⟩) l.length cap) (setRes l c at_ v) := by
  obtain ⟨_, hb, hg, hB⟩ := blk_of_R h
  refine R_of_blk ?_ (setRes_length l c at_ v).symm hb hg
  refine hB.store (i := c.toNat) (set6 (c.toNat * 15) (.int .i64 at_) (.int .i64 v.f0) (.int .i64 v.f1) (.int .i64 v.f2) (.string v.f3) (.slice A6 v.f4.length c6)) (fun cur hc => set6w_at _ _ _ _ _ _ _ _ _ _ _ hc) (fun cur => set6_size _ _ _ _ _ _ _ _) (fun cur k hk => set6_far _ _ _ _ _ _ _ _ _ (by
    have e : k50.sz = 15 := rfl
    rw [e] at hk
    omega)) ?_ ?_
  · intro cur cs hi2 hsz2 hcc ⟨x, hx, hM⟩
    obtain ⟨v7, v14, rfl, g7, g14⟩ := k50_openM hM
    refine ⟨_, set6_chunk hcc hsz2, { x with f5 := at_, f6 := v }, ?_, ?_⟩
    · rw [setRes_at h0 h1, if_pos rfl]
      have : rd_T50 l c = x := by unfold rd_T50; rw [List.getD_eq_getElem?_getD, hx]; rfl
      rw [this]
    · have hfar : ∀ k, (ok k ∧ k ≠ g) → k < w.heap.size → (set6w g (c.toNat * 15) (.int .i64 at_) (.int .i64 v.f0) (.int .i64 v.f1) (.int .i64 v.f2) (.string v.f3) (.slice A6 v.f4.length c6) w).heap[k]? = w.heap[k]? := fun k hk _ => set6w_far _ _ _ _ _ _ _ _ _ _ hk.2
      exact k50_mkM _ _ _ { x with f5 := at_, f6 := v } (Kd.R_step g7 hfar) (Kd.R_step hv hfar)
  · intro j cs hj hne ⟨x, hx, hM⟩
    exact ⟨x, by rw [setRes_at h0 h1, if_neg hne]; exact hx, Kd.M_step hM (fun k hk _ => set6w_far _ _ _ _ _ _ _ _ _ _ hk.2)⟩
theorem MkF.res {f : Nat → Nat} {W w2 w3 : World} {n gc cap : Nat} {s : St} {c at_ : Int} {v : S43} {A6 : Option Addr} {c6 : Nat} (h : MkF f W w2 n (.slice (some ⟨gc, 0, none⟩) s.cl.length cap) s) (h0 : 0 ≤ c) (h1 : c < (s.cl.length : Int))
    (hb : Below w2.heap.size w2 w3) (hv : k43.R 43 w3 w2.heap.size (fun _ => True) (.slice A6 v.f4.length c6) v.f4) :
    ∃ f', MkF f' W (set6w gc (c.toNat * 15) (.int .i64 at_) (.int .i64 v.f0) (.int .i64 v.f1) (.int .i64 v.f2) (.string v.f3) (.slice A6 v.f4.length c6) w3) n (.slice (some ⟨gc, 0, none⟩) s.cl.length cap) { s with cl := setRes s.cl c at_ v } := by
  have h3 := h.below hb 4
  have hB := h.bl.size
  obtain ⟨_, hgb, hg4, _⟩ := blk_of_R h3.cl
  have hgl : gc < w2.heap.size := by
    have := (Kd.R_bound h.cl).1 gc rfl
    exact this.2.2.1
  have hR := call_set h0 h1 (at_ := at_) h3.cl (v := v) (A6 := A6) (c6 := c6) (Kd.R_mono (Kd.R_bound (Kd.R_lower hv hB)) (fun k hk => hk) |> fun _ => Kd.R_lower (Kd.R_mono (Kd.R_bound hv) (fun k hk => ⟨recol_ge hk.2.1, by omega⟩)) hB)
  have hT : Turn (clr (recol f w2.heap.size 4) 4) w3 (set6w gc (c.toNat * 15) (.int .i64 at_) (.int .i64 v.f0) (.int .i64 v.f1) (.int .i64 v.f2) (.string v.f3) (.slice A6 v.f4.length c6) w3) :=
    ((((((Turn.refl _ w3).set gc _ _ (fun _ => hg4)).set gc _ _ (fun _ => hg4)).set gc _ _ (fun _ => hg4)).set gc _ _ (fun _ => hg4)).set gc _ _ (fun _ => hg4)).set gc _ _ (fun _ => hg4)
  exact ⟨_, h3.calls (Kd.R_mono hR (fun k hk => .inl hk)) hT⟩
end Go.Proofs.Ytofinglgnkdflaa
end
section
namespace Go.Proofs.Ytofinglgnkdflaa
open Go.RowKit
open Go.Proofs.Ytofinglgnkdflaa.PHistoryChecks Go.Proofs.YtofinglgnkdflaaW.PrintWords Go.Proofs.YtofinglgnkdflaaW.PrintLast Go.Proofs.YtofinglgnkdflaaW.PrintMore
set_option linter.unusedVariables false
set_option linter.unusedSimpArgs false
def set3w (g : Nat) (v0 v1 v2 : Value) (w : World) : World := ((w.setCell ⟨g, 0, none⟩ v0).setCell ⟨g, 1, none⟩ v1).setCell ⟨g, 2, none⟩ v2
theorem set3w_at {g t : Nat} {a b c : Value} {w : World} (v0 v1 v2 : Value) (h : w.heap[g]? = some (.cells #[a, b, c] t (0, 0))) : (set3w g v0 v1 v2 w).heap[g]? = some (.cells #[v0, v1, v2] t (0, 0)) := blk_set (blk_set (blk_set h 0 v0) 1 v1) 2 v2
theorem set3w_far {g k : Nat} (v0 v1 v2 : Value) (w : World) (h : k ≠ g) : (set3w g v0 v1 v2 w).heap[k]? = w.heap[k]? := by
  unfold set3w
  rw [Below.heap_setCell _ _ _ _ h, Below.heap_setCell _ _ _ _ h, Below.heap_setCell _ _ _ _ h]
theorem set3w_below {B g : Nat} {a w : World} (h : Below B a w) (hg : B ≤ g) (v0 v1 v2 : Value) : Below B a (set3w g v0 v1 v2 w) := ((h.setCell (p := ⟨g, 0, none⟩) hg v0).setCell (p := ⟨g, 1, none⟩) hg v1).setCell (p := ⟨g, 2, none⟩) hg v2
def MakeP (r : PastL × Int × Int) (W : World) (e : Ending) (w' : World) : Prop :=
  ∃ s1 s2 cv, e = .returned (.tuple #[.agg #[s1, s2, cv], .int .i64 r.2.1, .int .i64 r.2.2]) ∧ Kd.string.R 9 w' W.heap.size (fun _ => True) s1 r.1.pr ∧ Kd.string.R 9 w' W.heap.size (fun _ => True) s2 r.1.ob ∧ k50.R 50 w' W.heap.size (fun _ => True) cv r.1.cl ∧ Below W.heap.size W w'
theorem makeP_bad {r : PastL × Int × Int} {W w' : World} {a c : Int} (hr : r = (past0, a, c)) (hb : Below W.heap.size W w') : MakeP r W (.returned (.tuple #[.agg #[.slice none 0 0, .slice none 0 0, .slice none 0 0], .int .i64 a, .int .i64 c])) w' := by
  subst hr
  exact ⟨_, _, _, rfl, Kd.R_nil _ _ _ _ _, Kd.R_nil _ _ _ _ _, Kd.R_nil _ _ _ _ _, hb⟩
theorem start_F (W : World) (W4 : World) (h4 : W4 = (((W.alloc (.cells #[.slice none 0 0, .slice none 0 0, .slice none 0 0] 30)).alloc (.cells #[.map none, .slice none 0 0] 101)).alloc (.cells #[.map none, .slice none 0 0] 101)).alloc (.map #[] 0)) :
    MkF (fun k => if k = W.heap.size + 1 then 1 else if k = W.heap.size + 2 then 2 else if k = W.heap.size + 3 then 3 else 0) W W4 0 (.slice none 0 0) st0 := by
  have e0 := heap_alloc_new W (.cells #[.slice none 0 0, .slice none 0 0, .slice none 0 0] 30)
  have e1 := heap_alloc_new (W.alloc (.cells #[.slice none 0 0, .slice none 0 0, .slice none 0 0] 30)) (.cells #[.map none, .slice none 0 0] 101)
  have e2 := heap_alloc_new ((W.alloc (.cells #[.slice none 0 0, .slice none 0 0, .slice none 0 0] 30)).alloc (.cells #[.map none, .slice none 0 0] 101)) (.cells #[.map none, .slice none 0 0] 101)
  have e3 := MapS.made (((W.alloc (.cells #[.slice none 0 0, .slice none 0 0, .slice none 0 0] 30)).alloc (.cells #[.map none, .slice none 0 0] 101)).alloc (.cells #[.map none, .slice none 0 0] 101))
  rw [alloc_size] at e1
  rw [alloc_size, alloc_size] at e2
  rw [alloc_size, alloc_size, alloc_size] at e3
  subst h4
  exact ⟨⟨_, _, blk_alloc (blk_alloc e1 _) _, by simp [clr], by omega, Kd.R_nil _ _ _ _ _, .inl ⟨rfl, rfl⟩⟩, ⟨_, _, blk_alloc e2 _, by simp [clr], by omega, Kd.R_nil _ _ _ _ _, .inl ⟨rfl, rfl⟩⟩, e3, by simp, Kd.R_nil _ _ _ _ _, blk_alloc (blk_alloc (blk_alloc e0 _) _) _, by simp,
    below_alloc (below_alloc (below_alloc (below_alloc (Below.refl _ _) _) _) _) _, fun k hk => by show (if k = W.heap.size + 1 then 1 else if k = W.heap.size + 2 then 2 else if k = W.heap.size + 3 then 3 else 0) = 0; rw [if_neg (by omega), if_neg (by omega), if_neg (by omega)]⟩
theorem rd_mem47 (l : List S47) (i : Int) (h0 : 0 ≤ i) (h1 : i < (l.length : Int)) : rd_T47 l i ∈ l := by
  have hn : i.toNat < l.length := by omega
  unfold rd_T47
  rw [List.getD_eq_getElem?_getD, List.getElem?_eq_getElem hn]; exact List.getElem_mem hn
structure MkOk (s : St) (i : Int) : Prop where
  pr : (s.pr.length : Int) ≤ i
  ob : (s.ob.length : Int) ≤ i
  cl : (s.cl.length : Int) ≤ i
  on : (s.on : Int) ≤ i
  op : ∀ p c, s.op p = some c → 0 ≤ c ∧ c < (s.cl.length : Int)
theorem mkOk0 : MkOk st0 0 := ⟨by decide, by decide, by decide, by decide, fun p c h => by cases h⟩
theorem rightE_kind {e : S47} (h : rightE e = true) : e.f0 = 1 ∨ e.f0 = 2 := by
  unfold rightE tailE at h
  by_cases h1 : e.f0 = 1
  · exact .inl h1
  · by_cases h2 : e.f0 = 2
    · exact .inr h2
    · rw [if_neg h1, if_neg h2] at h; simp at h
theorem mkStep_right {s : St} {i : Int} {e : S47} (h : rightE e = true) : mkStep s i e = match s.op e.f1 with | some c => if e.f0 = 1 then MkR.bad i 71 else .go (stRes s i e c) | none => if e.f0 = 2 then MkR.bad i 70 else .go (stInv s i e) := by
  unfold mkStep
  rw [if_neg (by rw [h]; decide)]
  all_goals (cases s.op e.f1 <;> rfl)
theorem rightE_nd {e : S47} (h : rightE e = true) : nd e.f4 ≤ 4096 := by
  unfold rightE at h
  rw [Bool.and_eq_true, Bool.and_eq_true] at h
  have h2 := h.2.1
  unfold rightV smallB at h2
  rw [Bool.and_eq_true, Bool.and_eq_true] at h2
  exact of_decide_eq_true h2.1.1
theorem mkOk_res {s : St} {i : Int} {e : S47} {c : Int} (h : MkOk s i) (ho : s.op e.f1 = some c) : MkOk (stRes s i e c) (i + 1) := by
  refine ⟨by have := h.pr; show (s.pr.length : Int) ≤ i + 1; omega, by have := h.ob; show (s.ob.length : Int) ≤ i + 1; omega, by have := h.cl; show ((setRes s.cl c i e.f4).length : Int) ≤ i + 1; rw [setRes_length]; omega, by have := h.on; show ((s.on - 1 : Nat) : Int) ≤ i + 1; omega, fun p d hp => ?_⟩
  show 0 ≤ d ∧ d < ((setRes s.cl c i e.f4).length : Int)
  rw [setRes_length]
  have hp2 : (if p = e.f1 then none else s.op p) = some d := hp
  by_cases hpe : p = e.f1
  · rw [if_pos hpe] at hp2; cases hp2
  · rw [if_neg hpe] at hp2; exact h.op p d hp2
theorem mkEnd_large {s : St} (h : 0 ≤ s.lg) : mkEnd (.go s) = (past0, s.lg, 72) := by
  show (if 0 ≤ s.lg then (past0, s.lg, (72 : Int)) else (⟨s.pr, s.ob, s.cl⟩, 0, 0)) = _
  rw [if_pos h]
theorem mkEnd_good {s : St} (h : ¬ 0 ≤ s.lg) : mkEnd (.go s) = (⟨s.pr, s.ob, s.cl⟩, 0, 0) := by
  show (if 0 ≤ s.lg then (past0, s.lg, (72 : Int)) else (⟨s.pr, s.ob, s.cl⟩, 0, 0)) = _
  rw [if_neg h]
theorem mapS_len {w : World} {m n : Nat} {f : ByteArray → Option Int} {sz : Nat} (h : MapS w m n f sz) (ty : TypeId) : (Builtin.len_ #[99] ty #[.map (some m)]).run Try.prog w = .ok (.int .i64 sz) w := by
  obtain ⟨D, hown, hsz, _⟩ := h
  rw [← hsz]
  exact hown.len Try.underlying99 ty
theorem numL_le (L : List ByteArray) (k : ByteArray) : (numL L k).length ≤ L.length + 1 := by
  unfold numL
  split <;> simp
theorem mkOk_pr {s : St} {i : Int} {e : S47} (h : MkOk s i) : ((numL s.pr e.f1).length : Int) ≤ i + 1 := by have := numL_le s.pr e.f1; have := h.pr; omega
theorem mkOk_inv {s : St} {i : Int} {e : S47} (h : MkOk s i) : MkOk (stInv s i e) (i + 1) := by
  refine ⟨mkOk_pr h, ?_, ?_, ?_, fun p d hp => ?_⟩
  · have := numL_le s.ob e.f2; have := h.ob; show ((numL s.ob e.f2).length : Int) ≤ i + 1; omega
  · have := h.cl; show ((s.cl ++ [newCall s i e]).length : Int) ≤ i + 1; simp; omega
  · have := h.on; show ((s.on + 1 : Nat) : Int) ≤ i + 1; omega
  · show 0 ≤ d ∧ d < ((s.cl ++ [newCall s i e]).length : Int)
    have hp2 : (if p = e.f1 then some (s.cl.length : Int) else s.op p) = some d := hp
    by_cases hpe : p = e.f1
    · rw [if_pos hpe] at hp2; injection hp2 with hp2; simp; omega
    · rw [if_neg hpe] at hp2; have := h.op p d hp2; simp; omega
theorem info50 : (Try.prog.info? 50).map (fun i => (i.zero, i.size, i.bytes)) = some (some (.agg #[.int .i64 0, .int .i64 0, .string ⟨#[]⟩, .int .i64 0, .int .i64 0, .int .i64 0, .string ⟨#[]⟩, .slice none 0 0, .int .i64 0, .int .i64 0, .int .i64 0, .int .i64 0, .int .i64 0, .string ⟨#[]⟩, .slice none 0 0]), 15, 176) := by kernel_rfl
theorem evS {w : World} {g : Nat} {e : S47} {A4 : Option Addr} {c4 : Nat} (h : w.heap[g]? = some (.cells #[.int .i64 e.f0, .string e.f1, .string e.f2, .string e.f3, .int .i64 e.f4.f0, .int .i64 e.f4.f1, .int .i64 e.f4.f2, .string e.f4.f3, .slice A4 e.f4.f4.length c4, .int .i64 e.f5.f0, .int .i64 e.f5.f1, .int .i64 e.f5.f2] 47 (0, 0))) :
    w.cell? ⟨g, 1, none⟩ = some (.string e.f1) ∧ w.cell? ⟨g, 2, none⟩ = some (.string e.f2) ∧ w.cell? ⟨g, 3, none⟩ = some (.string e.f3) ∧ w.cell? ⟨g, 4, none⟩ = some (.int .i64 e.f4.f0) ∧ w.cell? ⟨g, 5, none⟩ = some (.int .i64 e.f4.f1) ∧ w.cell? ⟨g, 6, none⟩ = some (.int .i64 e.f4.f2) ∧ w.cell? ⟨g, 7, none⟩ = some (.string e.f4.f3) ∧ w.cell? ⟨g, 8, none⟩ = some (.slice A4 e.f4.f4.length c4) :=
  ⟨(blk_cell h 1).trans rfl, (blk_cell h 2).trans rfl, (blk_cell h 3).trans rfl, (blk_cell h 4).trans rfl, (blk_cell h 5).trans rfl, (blk_cell h 6).trans rfl, (blk_cell h 7).trans rfl, (blk_cell h 8).trans rfl⟩
theorem newCall_M {f : Nat → Nat} {W w4 w5 : World} {n : Nat} {cv : Value} {s s' : St} {e : S47} (i : Int) {A6 : Option Addr} {c6 : Nat} (h : MkF f W w4 n cv s') (hR : k43.R 43 w5 w4.heap.size (fun _ => True) (.slice A6 e.f4.f4.length c6) e.f4.f4) :
    k50.M w5 W.heap.size (fun b => clr (recol f w4.heap.size 4) 4 b ∧ some b ≠ cv.ownBlock) (newCall s i e) [.int .i64 (numI s.pr e.f1), .int .i64 (numI s.ob e.f2), .string e.f3, .int .i64 e.f4.f0, .int .i64 e.f4.f1, .int .i64 e.f4.f2, .string e.f4.f3, .slice A6 e.f4.f4.length c6, .int .i64 i, .int .i64 (-1), .int .i64 0, .int .i64 0, .int .i64 0, .string ⟨#[]⟩, .slice none 0 0] :=
  k50_mkM w5 W.heap.size _ (newCall s i e) (Kd.R_lower (Kd.R_mono (Kd.R_bound hR) (fun b hb => ⟨recol_ge hb.2.1, fun e2 => by have := (Kd.R_bound h.cl).1 b e2.symm; omega⟩)) h.bl.size) (Kd.R_nil _ _ _ _ _)
set_option maxHeartbeats 20000000 in
set_option maxRecDepth 100000 in
theorem Make_any (W : World) (E : List S47) (A : Option Addr) (c : Nat) (hC : Kd.C k47 W A E.length E) (hc : E.length ≤ c) (hE : ∀ e ∈ E, okE e) (hl : E.length ≤ 1000000) :
    Calls Try.prog 15 #[.slice A E.length c] W (MakeP (makeF E) W) := by
  have HD := Lib.hid (show makeF E = mkEnd (mkGo (E.drop (0 : Int).toNat) 0 st0) from rfl)
  have hmm := run_makeMap (P := Try.prog) 99
  go_enter Try.func15, Try.ntmps15
  go_wp2
  obtain ⟨W4, hW4⟩ : ∃ W4, W4 = (((W.alloc (.cells #[.slice none 0 0, .slice none 0 0, .slice none 0 0] 30)).alloc (.cells #[.map none, .slice none 0 0] 101)).alloc (.cells #[.map none, .slice none 0 0] 101)).alloc (.map #[] 0) := ⟨_, rfl⟩
  have HST := Lib.hid (start_F W W4 hW4)
  rw [← hW4, show W.heap.size + 1 + 1 + 1 = W.heap.size + 3 from rfl, show W.heap.size + 1 + 1 = W.heap.size + 2 from rfl]
  clear hW4 hmm
  go_loopw [17, 7, 9] (fun iv cv lv wr => ∃ (i : Int) (s : St) (f : Nat → Nat), iv = .int .i64 i ∧ lv = .int .i64 s.lg ∧ 0 ≤ i ∧ i ≤ (E.length : Int) ∧ -1 ≤ s.lg ∧ s.lg ≤ i ∧ Hid (makeF E = mkEnd (mkGo (E.drop i.toNat) i s)) ∧ Hid (MkF f W wr i.toNat cv s) ∧ Hid (MkOk s i)) (fun i _ _ _ => E.length - (intOf i).toNat)
  case atStart => exact ⟨0, st0, _, rfl, rfl, by omega, by omega, by decide, by decide, HD.out, HST.out, mkOk0⟩
  case round =>
    obtain ⟨i, s, f, rfl, rfl, hi0, hi1, hg0, hg1, HG, HF, HO⟩ := hrel
    obtain ⟨cA, ck, hcv⟩ := Kd.R_slice HF.out.cl
    by_cases hlt : i < (E.length : Int)
    · obtain ⟨ad, A4, c4, hAd, x0, x1, x2, x3, x4, x5, x6, x7, x8, x9, x10, x11, hl4, hF4⟩ := at_T47 hC i hi0 hlt
      replace x0 := pw_cell_below HF.out.bl x0
      replace x1 := pw_cell_below HF.out.bl x1
      replace x2 := pw_cell_below HF.out.bl x2
      replace x3 := pw_cell_below HF.out.bl x3
      replace x4 := pw_cell_below HF.out.bl x4
      replace x5 := pw_cell_below HF.out.bl x5
      replace x6 := pw_cell_below HF.out.bl x6
      replace x7 := pw_cell_below HF.out.bl x7
      replace x8 := pw_cell_below HF.out.bl x8
      replace x9 := pw_cell_below HF.out.bl x9
      replace x10 := pw_cell_below HF.out.bl x10
      replace x11 := pw_cell_below HF.out.bl x11
      have hEx : okE (rd_T47 E i) := hE _ (rd_mem47 E i hi0 hlt)
      have hstep := Lib.hid (mkGo_from E i s hi0 hlt)
      obtain ⟨e, he⟩ : ∃ e, e = rd_T47 E i := ⟨_, rfl⟩
      rw [← he] at x0 x1 x2 x3 x4 x5 x6 x7 x8 x9 x10 x11 hl4 hF4 hEx hstep
      subst hAd hcv
      have hright := Lib.hid (fun W1 (h : Below W.heap.size W W1) => right_any e A4 c4 W1 hEx (Kd.C_below hF4 h) hl4)
      have HL4 := Lib.hid hl4
      have HF4 := Lib.hid hF4
      have HEX := Lib.hid hEx
      unfold c47 at hright
      clear hl4 hF4 hEx he HST HD
      go_wp2_with fail
      refine (hright.out _ (below_alloc HF.out.bl _)).mono ?_
      rintro r w1 ⟨rfl, hb1⟩
      have hb1' : Below wr.heap.size wr w1 := (below_alloc (Below.refl wr.heap.size wr) (.cells (c47 e A4 c4) 47)).trans (hb1.mono (by rw [alloc_size]; omega))
      have hev : w1.heap[wr.heap.size]? = some (.cells #[.int .i64 e.f0, .string e.f1, .string e.f2, .string e.f3, .int .i64 e.f4.f0, .int .i64 e.f4.f1, .int .i64 e.f4.f2, .string e.f4.f3, .slice A4 e.f4.f4.length c4, .int .i64 e.f5.f0, .int .i64 e.f5.f1, .int .i64 e.f5.f2] 47 (0, 0)) := (hb1.block _ (by rw [alloc_size]; omega)).trans (heap_alloc_new wr _)
      have hF1 := HF.out.below hb1' 0
      obtain ⟨f1, hf1⟩ : ∃ f1, f1 = recol f wr.heap.size 0 := ⟨_, rfl⟩
      rw [← hf1] at hF1
      have hfe : f1 wr.heap.size = 0 := by rw [hf1]; exact recol_ge (Nat.le_refl _)
      have r0 : w1.cell? ⟨W.heap.size, 0, none⟩ = some (.slice none 0 0) := (blk_cell hF1.rs 0).trans rfl
      have r1 : w1.cell? ⟨W.heap.size, 1, none⟩ = some (.slice none 0 0) := (blk_cell hF1.rs 1).trans rfl
      have r2 : w1.cell? ⟨W.heap.size, 2, none⟩ = some (.slice none 0 0) := (blk_cell hF1.rs 2).trans rfl
      have z0 := blk_frozen hF1.rs 0
      have z1 := blk_frozen hF1.rs 1
      have z2 := blk_frozen hF1.rs 2
      have y0 : w1.cell? ⟨wr.heap.size, 0, none⟩ = some (.int .i64 e.f0) := (blk_cell hev 0).trans rfl
      have y1 : w1.cell? ⟨wr.heap.size, 1, none⟩ = some (.string e.f1) := (blk_cell hev 1).trans rfl
      have HF1 := Lib.hid hF1
      have HEV := Lib.hid hev
      have HFE := Lib.hid hfe
      have HB1 := Lib.hid hb1'
      clear hf1 hF1 hev hfe hb1 hb1' hright x0 x1 x2 x3 x4 x5 x6 x7 x8 x9 x10 x11
      obtain ⟨rb, hrb⟩ : ∃ rb, rb = rightE e := ⟨_, rfl⟩
      rw [← hrb]
      cases rb
      · have HBAD := Lib.hid (show makeF E = (past0, i, 2) from by rw [HG.out, hstep.out]; unfold mkStep; rw [if_pos hrb.symm]; rfl)
        clear hrb
        go_wp2
        obtain ⟨Wf, hWf⟩ : ∃ Wf, Wf = set3w W.heap.size (.slice none 0 0) (.slice none 0 0) (.slice none 0 0) w1 := ⟨_, rfl⟩
        change bodyPost _ _ _ _ _ (set3w W.heap.size (.slice none 0 0) (.slice none 0 0) (.slice none 0 0) w1)
        rw [← hWf]
        have hRf : Wf.heap[W.heap.size]? = some (.cells #[.slice none 0 0, .slice none 0 0, .slice none 0 0] 30 (0, 0)) := by rw [hWf]; exact set3w_at _ _ _ HF1.out.rs
        have t0 : Wf.cell? ⟨W.heap.size, 0, none⟩ = some (.slice none 0 0) := (blk_cell hRf 0).trans rfl
        have t1 : Wf.cell? ⟨W.heap.size, 1, none⟩ = some (.slice none 0 0) := (blk_cell hRf 1).trans rfl
        have t2 : Wf.cell? ⟨W.heap.size, 2, none⟩ = some (.slice none 0 0) := (blk_cell hRf 2).trans rfl
        have hBf : Below W.heap.size W Wf := by rw [hWf]; exact set3w_below HF1.out.bl (Nat.le_refl _) _ _ _
        exact bodyPost_ret (v := .tuple #[.agg #[.slice none 0 0, .slice none 0 0, .slice none 0 0], .int .i64 i, .int .i64 2]) (by simp [results, Try.results15, go_sem, t0, t1, t2]) rfl (makeP_bad HBAD.out hBf)
      · have hkind := rightE_kind hrb.symm
        have hstep2 := Lib.hid (mkStep_right (s := s) (i := i) hrb.symm)
        have hnd := Lib.hid (rightE_nd hrb.symm)
        clear hrb
        cases hop : s.op e.f1 with
        | some cx =>
          have hopS : (s.op e.f1).isSome = true := by rw [hop]; rfl
          have hopD : (s.op e.f1).getD 0 = cx := by rw [hop]; rfl
          have HOP := Lib.hid hop
          clear hop
          by_cases k1 : e.f0 = 1
          · have k1' : (e.f0 == 1) = true := by rw [beq_iff_eq]; exact k1
            have HBAD := Lib.hid (show makeF E = (past0, i, 71) from by rw [HG.out, hstep.out, hstep2.out, HOP.out]; simp only [k1, if_true]; rfl)
            clear k1 hkind
            go_wp2_with (first | (at_lookup; refine wp_lookS rfl _ _ rfl HF1.out.mp rfl e.f1 rfl HEX.out.1 ?_; intro cc hcc; rw [hopS]; rw [hopD] at hcc; subst hcc))
            obtain ⟨Wf, hWf⟩ : ∃ Wf, Wf = set3w W.heap.size (.slice none 0 0) (.slice none 0 0) (.slice none 0 0) w1 := ⟨_, rfl⟩
            change bodyPost _ _ _ _ _ (set3w W.heap.size (.slice none 0 0) (.slice none 0 0) (.slice none 0 0) w1)
            rw [← hWf]
            have hRf : Wf.heap[W.heap.size]? = some (.cells #[.slice none 0 0, .slice none 0 0, .slice none 0 0] 30 (0, 0)) := by rw [hWf]; exact set3w_at _ _ _ HF1.out.rs
            have t0 : Wf.cell? ⟨W.heap.size, 0, none⟩ = some (.slice none 0 0) := (blk_cell hRf 0).trans rfl
            have t1 : Wf.cell? ⟨W.heap.size, 1, none⟩ = some (.slice none 0 0) := (blk_cell hRf 1).trans rfl
            have t2 : Wf.cell? ⟨W.heap.size, 2, none⟩ = some (.slice none 0 0) := (blk_cell hRf 2).trans rfl
            have hBf : Below W.heap.size W Wf := by rw [hWf]; exact set3w_below HF1.out.bl (Nat.le_refl _) _ _ _
            exact bodyPost_ret (v := .tuple #[.agg #[.slice none 0 0, .slice none 0 0, .slice none 0 0], .int .i64 i, .int .i64 71]) (by simp [results, Try.results15, go_sem, t0, t1, t2]) rfl (makeP_bad HBAD.out hBf)
          · have k2 : e.f0 = 2 := by rcases hkind with h | h; exact absurd h k1; exact h
            have n1 : (e.f0 == 1) = false := by rw [beq_eq_false_iff_ne]; exact k1
            have n2 : (e.f0 == 2) = true := by rw [beq_iff_eq]; exact k2
            have HN := Lib.hid (show makeF E = mkEnd (mkGo (E.drop (i + 1).toNat) (i + 1) (stRes s i e cx)) from by rw [HG.out, hstep.out, hstep2.out, HOP.out]; simp only [k2]; rfl)
            clear k1 k2 hkind
            go_wp2_with (first | (at_lookup; refine wp_lookS rfl _ _ rfl HF1.out.mp rfl e.f1 rfl HEX.out.1 ?_; intro cc hcc; rw [hopS]; rw [hopD] at hcc; subst hcc) | (at_delete; refine wp_delS rfl _ _ rfl HF1.out.mp rfl e.f1 rfl HEX.out.1 ?_; intro w2 hM2 hg2; rw [hopS, if_pos rfl] at hM2; have hF2 := HF1.out.map hM2 hg2; have hev2 := blk_turn HEV.out HFE.out (turn_grown (j := 3) hg2 (fun k ek _ => by injection ek with ek; rw [← ek]; exact HF1.out.mc)) (by decide); have q4 : w2.cell? ⟨wr.heap.size, 4, none⟩ = some (.int .i64 e.f4.f0) := (blk_cell hev2 4).trans rfl; have q5 : w2.cell? ⟨wr.heap.size, 5, none⟩ = some (.int .i64 e.f4.f1) := (blk_cell hev2 5).trans rfl; have q6 : w2.cell? ⟨wr.heap.size, 6, none⟩ = some (.int .i64 e.f4.f2) := (blk_cell hev2 6).trans rfl; have q7 : w2.cell? ⟨wr.heap.size, 7, none⟩ = some (.string e.f4.f3) := (blk_cell hev2 7).trans rfl; have q8 : w2.cell? ⟨wr.heap.size, 8, none⟩ = some (.slice A4 e.f4.f4.length c4) := (blk_cell hev2 8).trans rfl; have HF2 := Lib.hid hF2; clear hM2 hg2 hF2 hev2))
            have hcx := HO.out.op e.f1 cc HOP.out
            refine (own_any (nd e.f4) e.f4 A4 c4 w2 (Nat.le_refl _) (by have := hnd.out; omega) (Kd.C_below HF4.out HF2.out.bl) HL4.out).mono ?_
            rintro r w3 ⟨A6, c6, rfl, hR6, l6, hb3⟩
            have hF3 := HF2.out.below hb3 4
            obtain ⟨gc, cap, hcA, _⟩ := Kd.R_form hF3.cl (by show 0 < s.cl.length; omega)
            injection hcA with hcA1 _ hcA2
            subst hcA1 hcA2
            obtain ⟨_, hgb, hg4, hBk⟩ := blk_of_R hF3.cl
            obtain ⟨ce, hcl, hce, x, hx, hM⟩ := hBk.at cc.toNat (by show cc.toNat < s.cl.length; omega)
            obtain ⟨v7, v14, rfl, g7, g14⟩ := k50_openM hM
            have d9 : w3.cell? ⟨gc, cc.toNat * 15 + 9, none⟩ = some (.int .i64 x.f5) := hce 9 _ rfl
            have d10 : w3.cell? ⟨gc, cc.toNat * 15 + 10, none⟩ = some (.int .i64 x.f6.f0) := hce 10 _ rfl
            have d11 : w3.cell? ⟨gc, cc.toNat * 15 + 11, none⟩ = some (.int .i64 x.f6.f1) := hce 11 _ rfl
            have d12 : w3.cell? ⟨gc, cc.toNat * 15 + 12, none⟩ = some (.int .i64 x.f6.f2) := hce 12 _ rfl
            have d13 : w3.cell? ⟨gc, cc.toNat * 15 + 13, none⟩ = some (.string x.f6.f3) := hce 13 _ rfl
            have d14 : w3.cell? ⟨gc, cc.toNat * 15 + 14, none⟩ = some v14 := hce 14 _ rfl
            have n9 := hBk.frozen (cc.toNat * 15 + 9)
            have n10 := hBk.frozen (cc.toNat * 15 + 10)
            have n11 := hBk.frozen (cc.toNat * 15 + 11)
            have n12 := hBk.frozen (cc.toNat * 15 + 12)
            have n13 := hBk.frozen (cc.toNat * 15 + 13)
            have n14 := hBk.frozen (cc.toNat * 15 + 14)
            have hgl3 : gc < w3.heap.size := hBk.lt
            obtain ⟨f4, hF4'⟩ := MkF.res (s := ⟨s.pr, s.ob, s.cl, fun t => if t = e.f1 then none else s.op t, s.on - 1, s.lg⟩) HF2.out (at_ := i) hcx.1 hcx.2 hb3 hR6
            have HF4' := Lib.hid (hF4'.more (show i.toNat ≤ (i + 1).toNat by omega))
            have HO4 := Lib.hid (mkOk_res (e := e) HO.out HOP.out)
            have hcx0 : 0 ≤ cc := hcx.1
            have hcx1 : cc < (s.cl.length : Int) := hcx.2
            unfold v43
            clear hF3 hBk hce hx hM g7 g14 hF4' hcx hR6 l6 hb3 hcl hg4 y0 y1 q4 q5 q6 q7 q8 r0 r1 r2 z0 z1 z2
            go_wp2
            go_roundw
            case rel => exact ⟨i + 1, stRes s i e cc, f4, rfl, rfl, by omega, by omega, hg0, by show s.lg ≤ i + 1; omega, HN.out, HF4'.out, HO4.out⟩
            case measure => simp [intOf]; omega
        | none =>
          have hopS : (s.op e.f1).isSome = false := by rw [hop]; rfl
          have hopD : (s.op e.f1).getD 0 = 0 := by rw [hop]; rfl
          have HOP := Lib.hid hop
          clear hop
          by_cases k2 : e.f0 = 2
          · have n1 : (e.f0 == 1) = false := by rw [k2]; decide
            have n2 : (e.f0 == 2) = true := by rw [beq_iff_eq]; exact k2
            have HBAD := Lib.hid (show makeF E = (past0, i, 70) from by rw [HG.out, hstep.out, hstep2.out, HOP.out]; simp only [k2, if_true]; rfl)
            clear k2 hkind
            go_wp2_with (first | (at_lookup; refine wp_lookS rfl _ _ rfl HF1.out.mp rfl e.f1 rfl HEX.out.1 ?_; intro cc hcc; rw [hopS]; rw [hopD] at hcc; subst hcc))
            obtain ⟨Wf, hWf⟩ : ∃ Wf, Wf = set3w W.heap.size (.slice none 0 0) (.slice none 0 0) (.slice none 0 0) w1 := ⟨_, rfl⟩
            change bodyPost _ _ _ _ _ (set3w W.heap.size (.slice none 0 0) (.slice none 0 0) (.slice none 0 0) w1)
            rw [← hWf]
            have hRf : Wf.heap[W.heap.size]? = some (.cells #[.slice none 0 0, .slice none 0 0, .slice none 0 0] 30 (0, 0)) := by rw [hWf]; exact set3w_at _ _ _ HF1.out.rs
            have t0 : Wf.cell? ⟨W.heap.size, 0, none⟩ = some (.slice none 0 0) := (blk_cell hRf 0).trans rfl
            have t1 : Wf.cell? ⟨W.heap.size, 1, none⟩ = some (.slice none 0 0) := (blk_cell hRf 1).trans rfl
            have t2 : Wf.cell? ⟨W.heap.size, 2, none⟩ = some (.slice none 0 0) := (blk_cell hRf 2).trans rfl
            have hBf : Below W.heap.size W Wf := by rw [hWf]; exact set3w_below HF1.out.bl (Nat.le_refl _) _ _ _
            exact bodyPost_ret (v := .tuple #[.agg #[.slice none 0 0, .slice none 0 0, .slice none 0 0], .int .i64 i, .int .i64 70]) (by simp [results, Try.results15, go_sem, t0, t1, t2]) rfl (makeP_bad HBAD.out hBf)
          · have k1 : e.f0 = 1 := by rcases hkind with h | h; exact h; exact absurd h k2
            have n1 : (e.f0 == 1) = true := by rw [beq_iff_eq]; exact k1
            have n2 : (e.f0 == 2) = false := by rw [beq_eq_false_iff_ne]; exact k2
            have HN := Lib.hid (show makeF E = mkEnd (mkGo (E.drop (i + 1).toNat) (i + 1) (stInv s i e)) from by rw [HG.out, hstep.out, hstep2.out, HOP.out]; simp only [k1]; rfl)
            clear k1 k2 hkind
            go_wp2_with (first | (at_lookup; refine wp_lookS rfl _ _ rfl HF1.out.mp rfl e.f1 rfl HEX.out.1 ?_; intro cc hcc; rw [hopS]; rw [hopD] at hcc; subst hcc) | (at_mapUpdate; refine wp_putS rfl _ _ _ rfl HF1.out.mp (by omega) rfl e.f1 rfl HEX.out.1 _ rfl (WalkArith.wf_i64 (by have := HO.out.cl; omega)) ?_; intro w2 hM2 hg2; rw [hopS, if_neg (by decide)] at hM2; have hF2 := HF1.out.map hM2 hg2; have hev2 := blk_turn HEV.out HFE.out (turn_grown (j := 3) hg2 (fun k ek _ => by injection ek with ek; rw [← ek]; exact HF1.out.mc)) (by decide); have HF2 := Lib.hid hF2; have HEV2 := Lib.hid hev2; have HFE2 := Lib.hid ((recol_lt (j := 0) (blk_lt HEV.out)).trans HFE.out); have HEVL := Lib.hid (blk_lt hev2); clear hM2 hg2 hF2 hev2))
            obtain ⟨f2, hf2⟩ : ∃ f2, f2 = recol f1 w1.heap.size 0 := ⟨_, rfl⟩
            rw [← hf2] at HF2 HFE2
            clear hf2 r0 r1 r2 z0 z1 z2 y0 y1
            refine wp_region_held_drew (S := (fun w => w.cell? ⟨wr.heap.size, 1, none⟩ = some (.string e.f1) ∧ w.cell? ⟨wr.heap.size, 2, none⟩ = some (.string e.f2) ∧ w.cell? ⟨wr.heap.size, 3, none⟩ = some (.string e.f3) ∧ w.cell? ⟨wr.heap.size, 4, none⟩ = some (.int .i64 e.f4.f0) ∧ w.cell? ⟨wr.heap.size, 5, none⟩ = some (.int .i64 e.f4.f1) ∧ w.cell? ⟨wr.heap.size, 6, none⟩ = some (.int .i64 e.f4.f2) ∧ w.cell? ⟨wr.heap.size, 7, none⟩ = some (.string e.f4.f3) ∧ w.cell? ⟨wr.heap.size, 8, none⟩ = some (.slice A4 e.f4.f4.length c4))) (by kernel_rfl) ?_ (fun hHeld => ?_)
            · exact evS HEV2.out
            refine runH 0 (v := ?va0) rfl (by kernel_rfl) (fun _ _ _ h => h) (by assumption) (by rfl) ?ya0 ?ra0
            case ya0 => (intro w hSw; (try dsimp only at hSw); go_simp; try with_reducible rfl)
            try simp only [Act.put, List.setIfInBounds_toArray, List.set_cons_zero, List.set_cons_succ]
            refine runH 1 (v := ?va1) rfl (by kernel_rfl) (fun _ _ _ h => h) (by assumption) (by rfl) ?ya1 ?ra1
            case ya1 => (intro w hSw; (try dsimp only at hSw); go_simp; try with_reducible rfl)
            try simp only [Act.put, List.setIfInBounds_toArray, List.set_cons_zero, List.set_cons_succ]
            refine runH 2 (v := ?va2) rfl (by kernel_rfl) (fun _ _ _ h => h) (by assumption) (by rfl) ?ya2 ?ra2
            case ya2 => (intro w hSw; (try dsimp only at hSw); go_simp; try with_reducible rfl)
            try simp only [Act.put, List.setIfInBounds_toArray, List.set_cons_zero, List.set_cons_succ]
            refine runH 4 (v := ?va4) rfl (by kernel_rfl) (fun _ _ _ h => h) (by assumption) (by rfl) ?ya4 ?ra4
            case ya4 => (intro w hSw; (try dsimp only at hSw); go_simp; try with_reducible rfl)
            try simp only [Act.put, List.setIfInBounds_toArray, List.set_cons_zero, List.set_cons_succ]
            refine runH 5 (v := ?va5) rfl (by kernel_rfl) (fun _ _ _ h => h) (by assumption) (by rfl) ?ya5 ?ra5
            case ya5 => (intro w hSw; (try dsimp only at hSw); go_simp; try with_reducible rfl)
            try simp only [Act.put, List.setIfInBounds_toArray, List.set_cons_zero, List.set_cons_succ]
            refine runH 7 (v := ?va7) rfl (by kernel_rfl) (fun _ _ _ h => h) (by assumption) (by rfl) ?ya7 ?ra7
            case ya7 => (intro w hSw; (try dsimp only at hSw); go_simp; try with_reducible rfl)
            try simp only [Act.put, List.setIfInBounds_toArray, List.set_cons_zero, List.set_cons_succ]
            refine runH 8 (v := ?va8) rfl (by kernel_rfl) (fun _ _ _ h => h) (by assumption) (by rfl) ?ya8 ?ra8
            case ya8 => (intro w hSw; (try dsimp only at hSw); go_simp; try with_reducible rfl)
            try simp only [Act.put, List.setIfInBounds_toArray, List.set_cons_zero, List.set_cons_succ]
            refine runH 9 (v := ?va9) rfl (by kernel_rfl) (fun _ _ _ h => h) (by assumption) (by rfl) ?ya9 ?ra9
            case ya9 => (intro w hSw; (try dsimp only at hSw); go_simp; try with_reducible rfl)
            try simp only [Act.put, List.setIfInBounds_toArray, List.set_cons_zero, List.set_cons_succ]
            refine runH 10 (v := ?va10) rfl (by kernel_rfl) (fun _ _ _ h => h) (by assumption) (by rfl) ?ya10 ?ra10
            case ya10 => (intro w hSw; (try dsimp only at hSw); go_simp; try with_reducible rfl)
            try simp only [Act.put, List.setIfInBounds_toArray, List.set_cons_zero, List.set_cons_succ]
            refine runH 12 (v := ?va12) rfl (by kernel_rfl) (fun _ _ _ h => h) (by assumption) (by rfl) ?ya12 ?ra12
            case ya12 => (intro w hSw; (try dsimp only at hSw); go_simp; try with_reducible rfl)
            try simp only [Act.put, List.setIfInBounds_toArray, List.set_cons_zero, List.set_cons_succ]
            refine wpAnyH_ready (rs := [3]) (by kernel_rfl) (by simp) ?_
            refine AllReadyH.cons rfl (fun K hK => ?_) AllReadyH.nil
            go_simp
            go_at_call 56; refine (number_any w2.drew W.heap.size (clr f2 1) (W.heap.size + 1) s.pr e.f1 HEX.out.1 HF2.out.bl.size (by have := HO.out.pr; omega) HF2.out.drew.pr).mono ?_; rintro r w3 hp; have hr := hp.1; subst hr; have HF3 := Lib.hid (HF2.out.drew.num1 hp); have HEV3 := Lib.hid (blk_turn (w := w2.drew) HEV2.out HFE2.out hp.2.2 (by decide)); have HFE3 := Lib.hid ((recol_lt (j := 1) HEVL.out).trans HFE2.out); have HL3 := Lib.hid hp.2.2.size; clear hp
            go_wp2_with fail
            refine hK.out _ _ ?_ (fun hHeld2 => ?_)
            · exact evS HEV3.out
            clear hK K hHeld
            rename _ => hHeld
            try simp only [Act.put, List.setIfInBounds_toArray, List.set_cons_zero, List.set_cons_succ]
            refine wpAnyH_ready (rs := [6]) (by kernel_rfl) (by simp) ?_
            refine AllReadyH.cons rfl (fun K hK => ?_) AllReadyH.nil
            go_simp
            go_at_call 56; refine (number_any w3 W.heap.size (clr (recol f2 w2.drew.heap.size 1) 2) (W.heap.size + 2) s.ob e.f2 HEX.out.2.1 HF3.out.bl.size (by have := HO.out.ob; omega) HF3.out.ob).mono ?_; rintro r w4 hp; have hr := hp.1; subst hr; have HF4n := Lib.hid (HF3.out.num2 hp); have HEV4 := Lib.hid (blk_turn (w := w3) HEV3.out HFE3.out hp.2.2 (by decide)); have HL4n := Lib.hid hp.2.2.size; clear hp
            go_wp2_with fail
            refine hK.out _ _ ?_ (fun hHeld2 => ?_)
            · exact evS HEV4.out
            clear hK K hHeld
            rename _ => hHeld
            try simp only [Act.put, List.setIfInBounds_toArray, List.set_cons_zero, List.set_cons_succ]
            refine wpAnyH_ready (rs := [11]) (by kernel_rfl) (by simp) ?_
            refine AllReadyH.cons rfl (fun K hK => ?_) AllReadyH.nil
            go_simp
            go_at_call 57; refine (own_any (nd e.f4) e.f4 A4 c4 w4 (Nat.le_refl _) (by have := hnd.out; omega) (Kd.C_below HF4.out HF4n.out.bl) HL4.out).mono ?_; rintro r w5 ⟨A6, c6, rfl, hR5, l5, hb5⟩; have HF5 := Lib.hid (HF4n.out.below hb5 4); have HEV5 := Lib.hid ((hb5.block _ (blk_lt HEV4.out)).trans HEV4.out); have HNC := Lib.hid (newCall_M (s := s) (e := e) i HF4n.out hR5); unfold v43; clear hb5 hR5 l5
            go_wp2_with fail
            refine hK.out _ _ ?_ (fun hHeld2 => ?_)
            · exact evS HEV5.out
            clear hK K hHeld
            rename _ => hHeld
            try simp only [Act.put, List.setIfInBounds_toArray, List.set_cons_zero, List.set_cons_succ]
            refine runH 13 (v := ?va13) rfl (by kernel_rfl) (fun _ _ _ h => h) (by assumption) (by rfl) ?ya13 ?ra13
            case ya13 => (intro w hSw; (try dsimp only at hSw); go_simp; try with_reducible rfl)
            try simp only [Act.put, List.setIfInBounds_toArray, List.set_cons_zero, List.set_cons_succ]
            refine wpAnyH_ready (rs := [14]) (by kernel_rfl) (by simp) ?_
            refine AllReadyH.cons rfl (fun K hK => ?_) AllReadyH.nil
            go_simp
            skip
            go_wp2_with fail
            refine hK.out _ _ ?_ (fun hHeld2 => ?_)
            · exact evS (blk_alloc HEV5.out _)
            clear hK K hHeld
            rename _ => hHeld
            try simp only [Act.put, List.setIfInBounds_toArray, List.set_cons_zero, List.set_cons_succ]
            refine wpAnyH_ready (rs := [15]) (by kernel_rfl) (by simp) ?_
            refine AllReadyH.cons (o := ?oo15) ?hi15 ?kk15 AllReadyH.nil
            case hi15 => (simp only [List.getElem?_toArray, List.getElem?_cons_succ, List.getElem?_cons_zero]; exact rfl)
            intro K hK
            refine Kd.R_append_step (w0 := w5) k50 W.heap.size (by rfl) _ _ 28 50 _ 176 rfl Try.underlying28 info50 rfl (by decide) (by decide) (.slice cA s.cl.length ck) s.cl (newCall s i e) _ (fun b => clr (recol (recol (recol f2 w2.drew.heap.size 1) w3.heap.size 2) w4.heap.size 4) 4 b ∨ w5.heap.size ≤ b) (fun b => clr (recol (recol (recol f2 w2.drew.heap.size 1) w3.heap.size 2) w4.heap.size 4) 4 b ∧ some b ≠ (Value.slice cA s.cl.length ck).ownBlock) rfl rfl HNC.out (fun b hb => ⟨.inl hb.1, hb.2⟩) (fun b hb => .inr hb) (Kd.R_mono HF5.out.cl (fun b hb => .inl hb)) (Below.refl _ _) HF5.out.bl.size (by have := HO.out.cl; omega) ?_
            intro v1 w6 hR6 hb6 hg6 hat6
            obtain ⟨A1, c1, rfl⟩ := Kd.R_slice hR6
            have HF6 := Lib.hid (HF5.out.calls hR6 (turn_grown hg6 (fun b hb _ => HF5.out.cl.1 b hb)))
            have HEV6 := Lib.hid ((hg6.block _ (blk_lt HEV5.out) (fun hb => by
              obtain ⟨_, _, _, q, hq, cells, h6⟩ := (Kd.R_bound HF5.out.cl).1 _ hb.symm
              rw [HEV5.out] at h6; injection h6 with h6; injection h6 with _ h6; subst h6; revert hq; decide)).trans HEV5.out)
            refine hK.out _ _ ?_ (fun hHeld2 => ?_)
            · exact evS HEV6.out
            clear hK K hHeld
            rename _ => hHeld
            try simp only [Act.put, List.setIfInBounds_toArray, List.set_cons_zero, List.set_cons_succ]
            refine runH 16 (v := ?va16) rfl (by kernel_rfl) (fun _ _ _ h => h) (by assumption) (by rfl) ?ya16 ?ra16
            case ya16 => (intro w hSw; (try dsimp only at hSw); go_simp; try with_reducible rfl)
            try simp only [Act.put, List.setIfInBounds_toArray, List.set_cons_zero, List.set_cons_succ]
            refine wpAnyH_done (by kernel_rfl) ?_ _
            rw [List.length_append, List.length_singleton] at HF6
            obtain ⟨f6, hf6⟩ : ∃ f6, f6 = recol (recol (recol (recol f2 w2.drew.heap.size 1) w3.heap.size 2) w4.heap.size 4) w5.heap.size 4 := ⟨_, rfl⟩
            rw [← hf6] at HF6
            clear hf6
            have HF7 := Lib.hid (show MkF f6 W w6 (i + 1).toNat (.slice A1 (s.cl.length + 1) c1) (stInv s i e) from (HF6.out.large (stInv s i e).lg).more (by omega))
            have HO7 := Lib.hid (mkOk_inv (e := e) HO.out)
            obtain ⟨mv, sv, hb1, _, _, hRp, _⟩ := HF6.out.pr
            obtain ⟨Ap, cp, rfl⟩ := Kd.R_slice hRp
            have p1 : w6.cell? ⟨W.heap.size + 1, 1, none⟩ = some (.slice Ap (numL s.pr e.f1).length cp) := (blk_cell hb1 1).trans rfl
            have LG := Lib.hid (show (stInv s i e).lg = if s.lg < 0 ∧ (64 < (numL s.pr e.f1).length ∨ 4096 < s.cl.length + 1 ∨ 10 < s.on + 1) then i else s.lg from rfl)
            have hcl := HO.out.cl
            have hon := HO.out.on
            have hnp := mkOk_pr (e := e) HO.out
            have hlen := mapS_len HF6.out.mp 3
            obtain ⟨np, hnpe⟩ : ∃ np, np = (numL s.pr e.f1).length := ⟨_, rfl⟩
            rw [← hnpe] at LG p1 hnp
            clear hRp hb1 hnpe hHeld HEV6 HEV5 HEV4 HEV3 HEV2 HEV HNC HF5 HF4n HF3 HF2 HF1
            by_cases hlg : s.lg < 0
            · by_cases h64 : (64 : Int) < (np : Int)
              · have LGE := Lib.hid (show (stInv s i e).lg = i from by rw [LG.out, if_pos (by omega)])
                go_wp2
                go_roundw
                case rel => exact ⟨i + 1, stInv s i e, f6, rfl, (by rw [LGE.out]), by omega, by omega, by rw [LGE.out]; omega, by rw [LGE.out]; omega, HN.out, HF7.out, HO7.out⟩
                case measure => simp [intOf]; omega
              · have h64' : (np : Int) ≤ 64 := by omega
                by_cases h40 : (4096 : Int) < (s.cl.length : Int) + 1
                · have LGE := Lib.hid (show (stInv s i e).lg = i from by rw [LG.out, if_pos (by omega)])
                  go_wp2
                  go_roundw
                  case rel => exact ⟨i + 1, stInv s i e, f6, rfl, (by rw [LGE.out]), by omega, by omega, by rw [LGE.out]; omega, by rw [LGE.out]; omega, HN.out, HF7.out, HO7.out⟩
                  case measure => simp [intOf]; omega
                · have h40' : (s.cl.length : Int) + 1 ≤ 4096 := by omega
                  by_cases h10 : (10 : Int) < ((s.on + 1 : Nat) : Int)
                  · have LGE := Lib.hid (show (stInv s i e).lg = i from by rw [LG.out, if_pos (by omega)])
                    go_wp2
                    go_roundw
                    case rel => exact ⟨i + 1, stInv s i e, f6, rfl, (by rw [LGE.out]), by omega, by omega, by rw [LGE.out]; omega, by rw [LGE.out]; omega, HN.out, HF7.out, HO7.out⟩
                    case measure => simp [intOf]; omega
                  · have h10' : ((s.on + 1 : Nat) : Int) ≤ 10 := by omega
                    have LGE := Lib.hid (show (stInv s i e).lg = s.lg from by rw [LG.out, if_neg (by omega)])
                    go_wp2
                    go_roundw
                    case rel => exact ⟨i + 1, stInv s i e, f6, rfl, (by rw [LGE.out]), by omega, by omega, by rw [LGE.out]; omega, by rw [LGE.out]; omega, HN.out, HF7.out, HO7.out⟩
                    case measure => simp [intOf]; omega
            · have hlg' : 0 ≤ s.lg := by omega
              have LGE := Lib.hid (show (stInv s i e).lg = s.lg from by rw [LG.out, if_neg (by omega)])
              go_wp2
              go_roundw
              case rel => exact ⟨i + 1, stInv s i e, f6, rfl, (by rw [LGE.out]), by omega, by omega, by rw [LGE.out]; omega, by rw [LGE.out]; omega, HN.out, HF7.out, HO7.out⟩
              case measure => simp [intOf]; omega
    · have hend := mkGo_end E i s hlt
      have HR := Lib.hid (show makeF E = mkEnd (.go s) from by rw [HG.out, hend])
      have hge : (E.length : Int) ≤ i := by omega
      have r0 : wr.cell? ⟨W.heap.size, 0, none⟩ = some (.slice none 0 0) := (blk_cell HF.out.rs 0).trans rfl
      have r1 : wr.cell? ⟨W.heap.size, 1, none⟩ = some (.slice none 0 0) := (blk_cell HF.out.rs 1).trans rfl
      have r2 : wr.cell? ⟨W.heap.size, 2, none⟩ = some (.slice none 0 0) := (blk_cell HF.out.rs 2).trans rfl
      have z0 := blk_frozen HF.out.rs 0
      have z1 := blk_frozen HF.out.rs 1
      have z2 := blk_frozen HF.out.rs 2
      obtain ⟨mv, sv, hb1, _, _, hRp, _⟩ := HF.out.pr
      obtain ⟨Ap, cp, rfl⟩ := Kd.R_slice hRp
      have p1 : wr.cell? ⟨W.heap.size + 1, 1, none⟩ = some (.slice Ap s.pr.length cp) := (blk_cell hb1 1).trans rfl
      obtain ⟨mo, so, hb2, _, _, hRo, _⟩ := HF.out.ob
      obtain ⟨Ao, co, rfl⟩ := Kd.R_slice hRo
      have p2 : wr.cell? ⟨W.heap.size + 2, 1, none⟩ = some (.slice Ao s.ob.length co) := (blk_cell hb2 1).trans rfl
      have HRP := Lib.hid hRp
      have HRO := Lib.hid hRo
      clear hb1 hb2 hRp hRo hend hlt HG HD HST
      subst hcv
      by_cases hlg : 0 ≤ s.lg
      · have HBAD := Lib.hid (show makeF E = (past0, s.lg, 72) from by rw [HR.out]; exact mkEnd_large hlg)
        go_wp2
        obtain ⟨Wf, hWf⟩ : ∃ Wf, Wf = set3w W.heap.size (.slice none 0 0) (.slice none 0 0) (.slice none 0 0) wr := ⟨_, rfl⟩
        change bodyPost _ _ _ _ _ (set3w W.heap.size (.slice none 0 0) (.slice none 0 0) (.slice none 0 0) wr)
        rw [← hWf]
        have hRf : Wf.heap[W.heap.size]? = some (.cells #[.slice none 0 0, .slice none 0 0, .slice none 0 0] 30 (0, 0)) := by rw [hWf]; exact set3w_at _ _ _ HF.out.rs
        have t0 : Wf.cell? ⟨W.heap.size, 0, none⟩ = some (.slice none 0 0) := (blk_cell hRf 0).trans rfl
        have t1 : Wf.cell? ⟨W.heap.size, 1, none⟩ = some (.slice none 0 0) := (blk_cell hRf 1).trans rfl
        have t2 : Wf.cell? ⟨W.heap.size, 2, none⟩ = some (.slice none 0 0) := (blk_cell hRf 2).trans rfl
        have hBf : Below W.heap.size W Wf := by rw [hWf]; exact set3w_below HF.out.bl (Nat.le_refl _) _ _ _
        exact bodyPost_ret (v := .tuple #[.agg #[.slice none 0 0, .slice none 0 0, .slice none 0 0], .int .i64 s.lg, .int .i64 72]) (by simp [results, Try.results15, go_sem, t0, t1, t2]) rfl (makeP_bad HBAD.out hBf)
      · have HGD := Lib.hid (show makeF E = (⟨s.pr, s.ob, s.cl⟩, 0, 0) from by rw [HR.out]; exact mkEnd_good hlg)
        have hlg' : s.lg < 0 := by omega
        clear hlg
        go_wp2
        obtain ⟨Wf, hWf⟩ : ∃ Wf, Wf = set3w W.heap.size (.slice Ap s.pr.length cp) (.slice Ao s.ob.length co) (.slice cA s.cl.length ck) wr := ⟨_, rfl⟩
        change bodyPost _ _ _ _ _ (set3w W.heap.size (.slice Ap s.pr.length cp) (.slice Ao s.ob.length co) (.slice cA s.cl.length ck) wr)
        rw [← hWf]
        have hRf : Wf.heap[W.heap.size]? = some (.cells #[.slice Ap s.pr.length cp, .slice Ao s.ob.length co, .slice cA s.cl.length ck] 30 (0, 0)) := by rw [hWf]; exact set3w_at _ _ _ HF.out.rs
        have t0 : Wf.cell? ⟨W.heap.size, 0, none⟩ = some (.slice Ap s.pr.length cp) := (blk_cell hRf 0).trans rfl
        have t1 : Wf.cell? ⟨W.heap.size, 1, none⟩ = some (.slice Ao s.ob.length co) := (blk_cell hRf 1).trans rfl
        have t2 : Wf.cell? ⟨W.heap.size, 2, none⟩ = some (.slice cA s.cl.length ck) := (blk_cell hRf 2).trans rfl
        have hBf : Below W.heap.size W Wf := by rw [hWf]; exact set3w_below HF.out.bl (Nat.le_refl _) _ _ _
        have hne : ∀ j, j ≠ 0 → ∀ k, clr f j k → k ≠ W.heap.size := fun j hj k hk e => hj (by unfold clr at hk; rw [e, HF.out.rc] at hk; exact hk.symm)
        have hP : MakeP (makeF E) W (.returned (.tuple #[.agg #[.slice Ap s.pr.length cp, .slice Ao s.ob.length co, .slice cA s.cl.length ck], .int .i64 0, .int .i64 0])) Wf := by
          rw [HGD.out]
          refine ⟨_, _, _, rfl, ?_, ?_, ?_, hBf⟩
          · rw [hWf]; exact Kd.R_mono (Kd.R_step HRP.out (fun k hk _ => set3w_far _ _ _ _ (hne 1 (by decide) k hk))) (fun _ _ => trivial)
          · rw [hWf]; exact Kd.R_mono (Kd.R_step HRO.out (fun k hk _ => set3w_far _ _ _ _ (hne 2 (by decide) k hk))) (fun _ _ => trivial)
          · rw [hWf]; exact Kd.R_mono (Kd.R_step HF.out.cl (fun k hk _ => set3w_far _ _ _ _ (hne 4 (by decide) k hk))) (fun _ _ => trivial)
        exact bodyPost_ret (v := .tuple #[.agg #[.slice Ap s.pr.length cp, .slice Ao s.ob.length co, .slice cA s.cl.length ck], .int .i64 0, .int .i64 0]) (by simp [results, Try.results15, go_sem, t0, t1, t2]) rfl hP
end Go.Proofs.Ytofinglgnkdflaa
end
