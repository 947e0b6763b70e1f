/- Layer 3: Subsets. -/
import Derived.Test.YthfapneifbjlmaaDoorD
namespace Go.Proofs.YthfapneifbjlmaaDoor
open Go.RowKit Go.Shelf
attribute [local go_sem] Oper.semAt_some
set_option linter.unusedVariables false
set_option linter.unusedSimpArgs false

theorem RoundIn.any {m m' : Nat} {P : Program} {l : Nat} {f : FuncId} {tmps : Array Value} {assign body : Code} {w : World} {R : Ending → World → Prop}
    (h : RoundIn Fence.wide m P l f tmps assign body w R) : RoundIn Fence.wide m' P l f tmps assign body w R := ⟨h.1, fun c cs _ => h.2 c cs (room_wide _)⟩

def i64s (xs : List Int) : List Value := xs.map fun x : Int => Value.int .i64 x
theorem i64s_one (ws : List Int) : ∀ u ∈ i64s ws, u.oneCell' = true := by
  intro u hu; simp only [i64s, List.mem_map] at hu; obtain ⟨q, _, rfl⟩ := hu; rfl
/-- Number j of a row. -/
def nd (xs : List Int) (j : Nat) : Int := xs.getD j 0
theorem i64s_get {xs : List Int} {j : Nat} (hj : j < xs.length) : (i64s xs)[j]? = some (.int .i64 (nd xs j)) := by simp [i64s, nd, List.getElem?_eq_getElem hj]

/-- slices.Clone of numbers: a row of the call's own, never nil. -/
theorem clone_ints (W : World) (ad : Addr) (ws : List Int) (c : Nat) (hc : ∀ j u, (i64s ws)[j]? = some u → W.cell? (ad.add j) = some u) (hl : ws.length ≤ 17592186044416) :
    Calls Tryd.prog 28 #[.slice (some ad) ws.length c] W fun e w' => ∃ h cap, e = .returned (.slice (some ⟨h, 0, none⟩) ws.length cap) ∧ w'.ownsRow W.heap.size 3 1 (.slice (some ⟨h, 0, none⟩) ws.length cap) ws.length (i64s ws) ∧ Below W.heap.size W w' := by
  obtain ⟨i0, hi, hz0, hz1, hz2⟩ := info_parts info3
  have HC := Lib.hid hc
  clear hc
  have hlen : (i64s ws).length = ws.length * 1 := by simp [i64s]
  have HLN := Lib.hid hlen
  clear hlen
  have hq := fun wx => Lib.run_eql_slice_nil (P := Tryd.prog) wx 22 3 (some ad) ws.length c 0 0 Tryd.underlying22
  go_enter Tryd.func28, Tryd.ntmps28
  go_wp2_with (at_builtin; refine wpList_append_own _ rfl _ _ 22 rfl W.heap.size 3 i0 (.int .i64 0) 1 8 Tryd.underlying22 hi hz0 hz1 hz2 rfl (by decide) _ 0 [] rfl (World.ownsRow_made W #[] 0 (Nat.le_refl _) (by decide) rfl) ad ws.length c (i64s ws) rfl ?c1 ?c2 (i64s_one ws) ?c4 ?c5 ?c6 ?_)
  case c1 => exact HLN.out
  case c2 => exact fun j u hu => (cell_al _ (HC.out j u hu))
  case c4 => simp [maxLen]; omega
  case c5 => omega
  case c6 => simp
  intro v' w1 hown hgr hnil
  go_wp2
  go_ret
  obtain ⟨g, cap, rfl, hg⟩ := own_form hown hnil
  exact ⟨g, cap, rfl, hown, ((Below.refl W.heap.size W).alloc (Nat.le_refl _) _).grown hgr (by simp) (fun k hk => by simp [Value.ownBlock] at hk; omega)⟩

theorem irow_cells {w : World} {base h n cap : Nat} {ws : List Int} (ho : w.ownsRow base 3 1 (.slice (some ⟨h, 0, none⟩) n cap) n (i64s ws)) (hn : n = ws.length) :
    base ≤ h ∧ h < w.heap.size ∧ ∀ j, j < ws.length → w.cell? ⟨h, j, none⟩ = some (.int .i64 (nd ws j)) := by
  subst hn
  refine ⟨(ho.lt h rfl).1, (ho.lt h rfl).2, fun j hj => ?_⟩
  have e : (⟨h, 0, none⟩ : Addr).add j = ⟨h, j, none⟩ := by unfold Addr.add; split <;> simp_all
  have := ho.cells (g := h) rfl j (.int .i64 (nd ws j)) (i64s_get hj)
  rwa [e] at this

/-- A variable in memory that holds a slice of numbers. -/
structure LBox (W : World) (Bl lb cap : Nat) (xs : List Int) : Prop where
  box : W.cell? ⟨Bl, 0, none⟩ = some (.slice (some ⟨lb, 0, none⟩) xs.length cap)
  cells : ∀ j, j < xs.length → W.cell? ⟨lb, j, none⟩ = some (.int .i64 (nd xs j))

set_option maxHeartbeats 400000 in
theorem Subsets_any (W : World) (ad : Addr) (xs : List Int) (c : Nat) (hc : ∀ j u, (i64s xs)[j]? = some u → W.cell? (ad.add j) = some u) (hl : xs.length ≤ 17592186044416) :
    Calls Tryd.prog 8 #[.slice (some ad) xs.length c] W fun e w' => ∃ Bl lb cap, e = .returned (.func (.func 29) #[] #[.pointer (some ⟨Bl, 0, none⟩)]) ∧ LBox w' Bl lb cap xs ∧ W.heap.size ≤ Bl ∧ W.heap.size ≤ lb ∧ Below W.heap.size W w' := by
  have hcl := Lib.hid (clone_ints W ad xs c hc hl)
  clear hc
  go_enter Tryd.func8, Tryd.ntmps8
  go_wp2_with (go_at_call 28; refine hcl.out.mono ?_; rintro e w1 ⟨h, cap, rfl, ho, hb⟩)
  go_ret
  obtain ⟨h1, h2, h3⟩ := irow_cells ho rfl
  refine ⟨w1.heap.size, h, cap, rfl, ⟨cell_of_row _ w1.heap.size 0 _ 22 (0, 0) (heap_alloc_new w1 _), fun j hj => cell_al _ (h3 j hj)⟩, hb.size, h1, hb.alloc hb.size _⟩

theorem heap_cell {w : World} {g : Nat} {t : TypeId} {cs : List Value} {fr : Nat × Nat} (h : w.heap[g]? = some (.cells cs.toArray t fr)) (j : Nat) : w.cell? ⟨g, j, none⟩ = cs[j]? := by
  rw [cell_of_row w g j _ _ _ h]; simp
theorem heap_free {w : World} {g : Nat} {t : TypeId} {cs : Array Value} (h : w.heap[g]? = some (.cells cs t (0, 0))) (j : Nat) : w.frozen? ⟨g, j, none⟩ = false := by simp [World.frozen?, h]
theorem i64s_set (xs : List Int) (j : Nat) (x : Int) : i64s (xs.set j x) = (i64s xs).set j (.int .i64 x) := by simp [i64s, List.map_set]
theorem made_ints (n : Nat) : madeCells (Value.int .i64 0).cells (n * 1) = (i64s (List.replicate n 0)).toArray := by
  apply Array.ext
  · simp [madeCells, i64s]
  · intro i h1 h2
    simp [madeCells, i64s, Value.cells, Nat.mod_one]

/-- The items at places. -/
def pick (xs : List Int) (ps : List Nat) : List Int := ps.map (nd xs)
/-- i places are filled. -/
def filled (xs : List Int) (ps : List Nat) (i : Nat) : List Int := pick xs (ps.take i) ++ List.replicate (ps.length - i) 0
theorem filled_zero (xs : List Int) (ps : List Nat) : filled xs ps 0 = List.replicate ps.length 0 := by simp [filled, pick]
theorem filled_all (xs : List Int) (ps : List Nat) : filled xs ps ps.length = pick xs ps := by simp [filled]
theorem filled_len (xs : List Int) (ps : List Nat) (i : Nat) (h : i ≤ ps.length) : (filled xs ps i).length = ps.length := by simp [filled, pick]; omega
theorem filled_succ (xs : List Int) (ps : List Nat) (i : Nat) (h : i < ps.length) : (filled xs ps i).set i (nd xs (ps.getD i 0)) = filled xs ps (i + 1) := by
  unfold filled pick
  have hl : ((ps.take i).map (nd xs)).length = i := by simp; omega
  rw [List.set_append_right _ _ (by omega), hl, Nat.sub_self]
  rw [show ps.length - i = (ps.length - (i + 1)) + 1 from by omega, List.replicate_succ, List.set_cons_zero]
  rw [List.take_succ_eq_append_getElem h, List.map_append]
  simp [List.getElem?_eq_getElem h]

/-- The boxes that Subsets' inner functions see: k, l, yield. -/
structure SubEnv (W : World) (kb Bl lb yb cap yl K : Nat) (xs : List Int) : Prop where
  k : W.cell? ⟨kb, 0, none⟩ = some (.int .i64 K)
  l : LBox W Bl lb cap xs
  y : W.cell? ⟨yb, 0, none⟩ = some (.func (.yield yl) #[] #[])
  lt : lb < W.heap.size

theorem SubEnv.kept {M : Nat → Prop} {W W' : World} {kb Bl lb yb cap l K : Nat} {xs : List Int} (h : SubEnv W kb Bl lb yb cap l K xs) (hf : Fr M W W') (h1 : ¬ M kb) (h2 : ¬ M Bl) (h3 : ¬ M lb) (h4 : ¬ M yb) : SubEnv W' kb Bl lb yb cap l K xs :=
  ⟨hf.cell h.k h1, ⟨hf.cell h.l.box h2, fun j hj => hf.cell (h.l.cells j hj) h3⟩, hf.cell h.y h4, Nat.lt_of_lt_of_le h.lt hf.size⟩

set_option maxHeartbeats 1000000 in
/-- One row of places: the row of items is made, and handed to yield. -/
theorem cb_any (W : World) (kb Bl lb yb cap l pb pcap nY : Nat) (xs : List Int) (ps : List Nat) (hE : SubEnv W kb Bl lb yb cap l ps.length xs) (hps : ∀ j, j < ps.length → W.cell? ⟨pb, j, none⟩ = some (.int .i64 (ps.getD j 0 : Nat)))
    (hlt : ∀ p, p ∈ ps → p < xs.length) (hK : ps.length ≤ 10) (hxl : xs.length ≤ 10) (R : Ending → World → Prop) (hR : ∀ e w', R e w' → ∃ b : Bool, e = .returned (.bool b))
    (hY : ∀ W2, Below W.heap.size W W2 → W2.heap[W.heap.size]? = some (.cells (i64s (pick xs ps)).toArray 3 (0, 0)) → YieldAt Fence.wide nY Tryd.prog l #[.slice (some ⟨W.heap.size, 0, none⟩) (pick xs ps).length (pick xs ps).length] W2 R) :
    Calls Tryd.prog 31 #[.slice (some ⟨pb, 0, none⟩) ps.length pcap, .pointer (some ⟨kb, 0, none⟩), .pointer (some ⟨Bl, 0, none⟩), .pointer (some ⟨yb, 0, none⟩)] W R := by
  refine callsIn_wide (n := nY + 1).1 ?_
  have HE := Lib.hid hE
  have hk := hE.k
  obtain ⟨i0, hi, hz0, hz1, hz2⟩ := info_parts info3
  have hmk := run_make (P := Tryd.prog) W 22 3 i0 (.int .i64 0) Tryd.underlying22 hi hz0 .i64 .i64 (ps.length : Int) (ps.length : Int) (by omega) (by omega) (by rw [hz2]; omega) (by omega)
  rw [hz1, Int.toNat_natCast, made_ints] at hmk
  have hpl : (pick xs ps).length = ps.length := by simp [pick]
  rw [hpl] at hY
  have hm1 : (ps.length : Int) ≤ 10 := by omega
  have HPS := Lib.hid hps
  have HLT := Lib.hid hlt
  clear hps hlt hpl hE
  refine callsIn_of_wp Tryd.func31 rfl trivial ?_ rfl
  simp only [Tryd.ntmps31, List.size_toArray, List.length_cons, List.length_nil, Nat.reduceAdd, Nat.reduceSub, Array.replicate_succ, Array.replicate_zero, List.push_toArray, List.append_toArray, List.nil_append, List.cons_append]
  gi_wp2
  have hW1 : (W.alloc (.cells (i64s (List.replicate ps.length 0)).toArray 3)).heap[W.heap.size]? = some (.cells (i64s (List.replicate ps.length 0)).toArray 3 (0, 0)) := heap_alloc_new W _
  clear hmk
  gi_loopw [13] (fun i wr => ∃ k : Nat, k ≤ ps.length ∧ i = .int .i64 k ∧ Below W.heap.size W wr ∧ W.heap.size < wr.heap.size ∧ wr.heap[W.heap.size]? = some (.cells (i64s (filled xs ps k)).toArray 3 (0, 0))) (fun i _ => ps.length - (intOf i).toNat)
  case atStart => exact ⟨0, Nat.zero_le _, rfl, (Below.refl _ _).alloc (Nat.le_refl _) _, by simp, by rw [filled_zero]; exact hW1⟩
  case round =>
    obtain ⟨k, hk2, rfl, hb, hsz, hrow⟩ := hrel
    obtain ⟨hk1, ⟨hbox, hcells⟩, hy, _⟩ := HE.out.kept (M := fun _ => False) (.of_below hb) id id id id
    by_cases hlt : k < ps.length
    · obtain ⟨p, hp⟩ : ∃ p, p = ps.getD k 0 := ⟨_, rfl⟩
      have hpx : p < xs.length := by rw [hp, List.getD_eq_getElem?_getD, List.getElem?_eq_getElem hlt]; exact HLT.out _ (List.getElem_mem hlt)
      have hpc : wr.cell? ⟨pb, k, none⟩ = some (.int .i64 (p : Nat)) := by rw [hp]; exact (hb.cell (World.block_lt_of_cell? W _ (HPS.out k hlt))).trans (HPS.out k hlt)
      have hlc := hcells p hpx
      have hrc : wr.cell? ⟨W.heap.size, k, none⟩ = some (.int .i64 (nd (filled xs ps k) k)) := (heap_cell hrow k).trans (i64s_get (by rw [filled_len _ _ _ hk2]; exact hlt))
      have hrf := heap_free hrow k
      have hset := filled_succ xs ps k hlt
      rw [← hp] at hset
      have HS := Lib.hid hset
      have HR := Lib.hid hrow
      have hpi : (p : Int) < (xs.length : Int) := by omega
      clear hset hp hrow hcells
      gi_wp2
      go_roundw
      case rel => exact ⟨k + 1, by omega, by simp, hb.setCell (p := ⟨W.heap.size, k, none⟩) (Nat.le_refl _) _, by simpa [World.setCell] using hsz, by rw [← HS.out, i64s_set]; exact (heap_set_same HR.out k _).trans (by simp)⟩
      case measure => simp [intOf]; omega
    · obtain rfl : k = ps.length := by omega
      have hrow2 := hrow
      rw [filled_all] at hrow2
      obtain ⟨fn, tmps, assign, body, hyy, hR2⟩ := hY wr hb hrow2
      have HRR := Lib.hid hR
      clear hcells hrow2 hR hrow
      gi_wp2
      refine hR2.mono ?_
      rintro e W3 h3
      obtain ⟨b, rfl⟩ := HRR.out _ _ h3
      gi_wp2
      exact h3

/-- The rising rows of k places from a place on, below n. -/
def rowsL (n : Nat) : Nat → Nat → List (List Nat)
  | 0, _ => [[]]
  | k + 1, f => (List.range' f (n - k - f)).flatMap fun i => (rowsL n k (i + 1)).map (i :: ·)
theorem rowsL_succ (n k f i : Nat) (hfi : f ≤ i) (hi : i + (k + 1) ≤ n) :
    (List.range' f (i + 1 - f)).flatMap (fun i => (rowsL n k (i + 1)).map (i :: ·)) = (List.range' f (i - f)).flatMap (fun i => (rowsL n k (i + 1)).map (i :: ·)) ++ (rowsL n k (i + 1)).map (i :: ·) := by
  rw [show i + 1 - f = (i - f) + 1 from by omega, List.range'_concat, List.flatMap_append]
  simp only [Nat.one_mul, List.flatMap_cons, List.flatMap_nil, List.append_nil]
  rw [show f + (i - f) = i from by omega]

theorem own_apart {M : Nat → Prop} {a b : World} {base e h n cap : Nat} {xs : List Value} (ho : a.ownsRow base e 1 (.slice (some ⟨h, 0, none⟩) n cap) n xs) (hf : Fr M a b) (hn : ¬ M h) : b.ownsRow base e 1 (.slice (some ⟨h, 0, none⟩) n cap) n xs := by
  refine ⟨ho.1, ?_⟩
  rcases ho.2 with h1 | ⟨g, cap', cur, h1, h2, h3, r⟩
  · exact .inl h1
  · refine .inr ⟨g, cap', cur, h1, h2, ?_, r⟩
    injection h1 with h1 _ _; injection h1 with h1; injection h1 with h1
    subst h1
    exact (hf.block h (Array.getElem?_eq_some_iff.1 h3).1 hn).trans h3

theorem own_take {w : World} {base e h n cap : Nat} {xs : List Value} {x : Value} (ho : w.ownsRow base e 1 (.slice (some ⟨h, 0, none⟩) (n + 1) cap) (n + 1) (xs ++ [x])) (hn : xs.length = n) : w.ownsRow base e 1 (.slice (some ⟨h, 0, none⟩) n cap) n xs := by
  refine ⟨by omega, ?_⟩
  rcases ho.2 with ⟨h1, _⟩ | ⟨g, cap', cur, h1, h2, h3, h4, h5, h6, h7⟩
  · cases h1
  · injection h1 with h1 h8 h9
    injection h1 with h1
    injection h1 with h1
    subst h1 h9
    refine .inr ⟨h, cap, cur, rfl, h2, h3, by omega, h5, h6, ?_⟩
    have := congrArg (List.take n) h7
    rw [List.take_take, List.take_left' hn] at this
    rw [← this]
    congr 1
    omega

/-- What holds while rows are gone through: pre has come; chosen lies in block cb; the boxes. -/
structure RowsInv (J : List (Nat × List Int) → World → (Nat → Prop) → Prop) (kb Bl lb yb cap yl K cb : Nat) (xs : List Int) (C : List Nat) (pre : List (Nat × List Int)) (W : World) (D : Nat → Prop) : Prop where
  j : J pre W D
  own : ∀ k, D k → k < W.heap.size
  env : SubEnv W kb Bl lb yb cap yl K xs
  away : ¬ D kb ∧ ¬ D Bl ∧ ¬ D lb ∧ ¬ D yb ∧ ¬ D cb
  apart : kb ≠ cb ∧ Bl ≠ cb ∧ lb ≠ cb ∧ yb ≠ cb
  row : W.ownsRow 0 3 1 (.slice (some ⟨cb, 0, none⟩) C.length K) C.length (i64s (C.map fun x : Nat => (x : Int)))

theorem RowsInv.lts {J : List (Nat × List Int) → World → (Nat → Prop) → Prop} {kb Bl lb yb cap yl K cb : Nat} {xs : List Int} {C : List Nat} {pre : List (Nat × List Int)} {W : World} {D : Nat → Prop}
    (h : RowsInv J kb Bl lb yb cap yl K cb xs C pre W D) : kb < W.heap.size ∧ Bl < W.heap.size ∧ lb < W.heap.size ∧ yb < W.heap.size ∧ cb < W.heap.size :=
  ⟨World.block_lt_of_cell? W _ h.env.k, World.block_lt_of_cell? W _ h.env.l.box, h.env.lt, World.block_lt_of_cell? W _ h.env.y, (h.row.lt cb rfl).2⟩
/-- Behind a step that turned what is the body's, and what is new. -/
theorem RowsInv.step {J J' : List (Nat × List Int) → World → (Nat → Prop) → Prop} {kb Bl lb yb cap yl K cb : Nat} {xs : List Int} {C : List Nat} {pre pre' : List (Nat × List Int)} {W W' : World} {D D' M : Nat → Prop}
    (h : RowsInv J kb Bl lb yb cap yl K cb xs C pre W D) (hf : Fr M W W') (hM : ∀ k, k < W.heap.size → M k → D k ∨ k = cb) (hD : ∀ k, D' k → (D k ∨ W.heap.size ≤ k) ∧ k < W'.heap.size) (hj : J' pre' W' D')
    {C' : List Nat} (hrow : W'.ownsRow 0 3 1 (.slice (some ⟨cb, 0, none⟩) C'.length K) C'.length (i64s (C'.map fun x : Nat => (x : Int)))) : RowsInv J' kb Bl lb yb cap yl K cb xs C' pre' W' D' := by
  obtain ⟨e1, e2, e3, e4⟩ := h.apart
  obtain ⟨l1, l2, l3, l4, l5⟩ := h.lts
  obtain ⟨a1, a2, a3, a4, a5⟩ := h.away
  have hn : ∀ k, k < W.heap.size → ¬ D k → ¬ D' k := fun k hk hd h' => (hD k h').1.elim hd (fun h2 => by omega)
  exact ⟨hj, fun k hk => (hD k hk).2, h.env.kept hf (fun h' => (hM _ l1 h').elim a1 e1) (fun h' => (hM _ l2 h').elim a2 e2) (fun h' => (hM _ l3 h').elim a3 e3) (fun h' => (hM _ l4 h').elim a4 e4), ⟨hn _ l1 a1, hn _ l2 a2, hn _ l3 a3, hn _ l4 a4, hn _ l5 a5⟩, h.apart, hrow⟩

/-- What going through them leaves. -/
def RowsPost (J Jx : List (Nat × List Int) → World → (Nat → Prop) → Prop) (kb Bl lb yb cap yl K cb : Nat) (xs : List Int) (C : List Nat) (pre : List (Nat × List Int)) (L : List (List Nat)) (W : World) (D : Nat → Prop) (e : Ending) (W' : World) : Prop :=
  ∃ ys D', Fr (fun k => D k ∨ k = cb) W W' ∧ (∀ k, D' k → (D k ∨ W.heap.size ≤ k) ∧ k < W'.heap.size) ∧
    ((e = .returned (.bool true) ∧ ys.map (·.2) = L.map (fun r => pick xs (C ++ r)) ∧ RowsInv J kb Bl lb yb cap yl K cb xs C (pre ++ ys) W' D') ∨
     (e = .returned (.bool false) ∧ ys.map (·.2) <+: L.map (fun r => pick xs (C ++ r)) ∧ Jx (pre ++ ys) W' D'))
end Go.Proofs.YthfapneifbjlmaaDoor
