/- BitsOf: the law returns true for every room and words of bulk at most 1048576; its arguments read as before: the card of the second form. -/
import Derived.Test.YthfapneifbjlmaaDoorME
import Derived.Test.YthfapneifbjlmaaDoorMF
import Derived.Maps.OwnIn
import Derived.Test.YthfapneifbjlmaaDoorCards
import Derived.Test.YthfapneifbjlmaaDoorTie
import Derived.WalkKit
import Derived.ProofKit
import Derived.OpenShut
import Derived.Deep.DeepHandedRow
import Derived.Lib.LaidTab
import Derived.JoinedCond
section
namespace Go.Proofs.YthfapneifbjlmaaDoor
open Go.RowKit Go.Shelf
open Go.Proofs.YthfapneifbjlmaaDoor.PBitsOf Go.Proofs.YthfapneifbjlmaaDoorW.PrintWords
attribute [local go_sem] Oper.semAt_some
set_option linter.unusedVariables false
set_option linter.unusedSimpArgs false

/-- append to a row of the call's own, of a slice that may be nil. -/
theorem wpList_append_any {P : Program} (w : World) {ops : Array Oper} {rest : List Oper} {o : Oper} {a : Act} {Q : Exit → Act → World → Prop}
    (hg : o.guard = none) (s x : Operand) (t : TypeId) (hop : o.op = Op.call { callee := Callee.builtin Builtin.append, args := #[s, x], argTypes := #[t, t] })
    (base : Nat) (e : TypeId) (i : TypeInfo) (z : Value) (size bytes : Nat) (h1 : P.underlying t = some (.slice e)) (h2 : P.info? e = some i) (h3 : i.zero = some z) (h4 : i.size = size) (h5 : i.bytes = bytes) (h6 : z.cells.size = size) (h7 : 0 < size)
    (v : Value) (k : Nat) (xs : List Value) (hs : a.eval s = v) (hown : w.ownsRow base e size v k xs) (A : Option Addr) (m c : Nat) (news : List Value) (hx : a.eval x = .slice A m c) (hn : news.length = m * size)
    (hA : A = none → m = 0 ∧ c = 0) (hc : ∀ ad, A = some ad → ∀ j u, news[j]? = some u → w.cell? (ad.add j) = some u) (h1c : ∀ u ∈ news, u.oneCell' = true) (b1 : k + m ≤ maxLen) (b2 : (k + m) * bytes ≤ 140737488355328) (b3 : base ≤ w.heap.size) (hvn : v ≠ .slice none 0 0)
    (hK : ∀ v' w', w'.ownsRow base e size v' (k + m) (xs ++ news) → w.grownBy w' v.ownBlock → v' ≠ .slice none 0 0 → wpList P ops Q rest (a.put o.dst v') w') :
    wpList P ops Q (o :: rest) a w := by
  cases A with
  | some ad => exact wpList_append_own w hg s x t hop base e i z size bytes h1 h2 h3 h4 h5 h6 h7 v k xs hs hown ad m c news hx hn (hc ad rfl) h1c b1 b2 b3 (fun v' w' r1 r2 r3 => hK v' w' r1 r2 (fun h => hvn (r3.1 h).1))
  | none =>
    obtain ⟨rfl, rfl⟩ := hA rfl
    have hnews : news = [] := List.eq_nil_of_length_eq_zero (by simpa using hn)
    subst hnews
    refine wpList_plain hg fun K hK' => ?_
    have hrun := run_append_owned_none (P := P) w base t o.type e i size h1 h2 _ k xs hown
    unfold Oper.wp execOp
    simp only [hop, resolve, invoke, builtin, Sem.run_bind, Sem.run_pure, Result.andThen_ok, List.map_toArray, List.map_cons, List.map_nil, hs, hx, hrun]
    exact hK' _ _ (by simpa using hK v w (by simpa using hown) (World.grownBy.refl _ _) hvn)

theorem ints64_C {w : World} {A : Option Addr} {ws : List Nat} (hA : A = none → ws.length = 0) (hl : ws.length ≤ 1048576) (hc : ∀ ad, A = some ad → ∀ j u, (u64s ws)[j]? = some u → w.cell? (ad.add j) = some u) : Kd.C (Kd.int .u64) w A (ints64 ws).length (ints64 ws) := by
  have hlen : (ints64 ws).length = ws.length := by simp [ints64]
  refine Kd.C_of_reads (d := 0) ⟨rfl, by omega, fun hn => ?_⟩
  cases A with
  | none => have := hA rfl; omega
  | some ad =>
    refine ⟨ad, rfl, fun j hj => ?_⟩
    rw [hlen] at hj
    rw [hc ad rfl j (.int .u64 (wd ws j)) (by simp [u64s, wd, List.getElem?_eq_getElem hj])]
    simp [ints64, wd, List.getElem?_eq_getElem hj]
/-- What Of comes to, in one. -/
def OfSaid2 (W : World) (n : Int) (ws : List Nat) (M : Bool) (In : List Bool) (E : Int) (e : Ending) (w' : World) : Prop :=
  ∃ P, e = .returned (.tuple #[.pointer P, .int .i64 E]) ∧ Below W.heap.size W w' ∧ ((P = none ∧ E = 30) ∨ (∃ g h, P = some ⟨g, 0, none⟩ ∧ E = 0 ∧ M = true ∧ In = inOf n.toNat ws ∧ NoHigh n.toNat ws ∧ n.toNat ≤ 4096 ∧ IsSet w' g h n.toNat ws ∧ W.heap.size ≤ g ∧ W.heap.size ≤ h))
theorem Of_pack (W : World) (n : Int) (ad : Addr) (ws : List Nat) (c : Nat) (hcs : ∀ j u, (u64s ws)[j]? = some u → W.cell? (ad.add j) = some u) (hw : Words64 ws) :
    ∃ M In E, Calls Tryd.prog 12 #[.int .i64 n, .slice (some ad) ws.length c] W (OfSaid2 W n ws M In E) ∧ (∃ k, sextantref03_Of.f k n (ints64 ws) = some (M, In, E)) := by
  obtain ⟨ok, h1, h2, h3⟩ := Of_both W n ad ws c hcs hw
  cases ok with
  | false => exact ⟨false, [], 30, h1.mono fun e w' ⟨a, b⟩ => ⟨none, a, b, .inl ⟨rfl, rfl⟩⟩, h2⟩
  | true => exact ⟨true, inOf n.toNat ws, 0, h1.mono fun e w' ⟨g, h, a, b, c, d, f⟩ => ⟨_, a, f, .inr ⟨g, h, rfl, rfl, rfl, rfl, (h3 rfl).1, (h3 rfl).2, b, c, d⟩⟩, h2⟩
set_option maxHeartbeats 2000000 in
set_option maxRecDepth 100000 in
theorem BitsOf_walk (W : World) (hT : Tab W) (n : Int) (A : Option Addr) (c : Nat) (ws : List Nat) (hA : A = none → ws.length = 0 ∧ c = 0)
    (hcells : ∀ ad, A = some ad → ∀ j u, (u64s ws)[j]? = some u → W.cell? (ad.add j) = some u) (hlen : ws.length ≤ 1048576) (hcap : ws.length ≤ c) (hw : Words64 ws) :
    Calls Tryd.prog 4 #[.int .i64 n, .slice A ws.length c] W fun e w' => e = .returned (.bool true) ∧ Below W.heap.size W w' := by
  obtain ⟨i0, hi, hz0, hz1, hz2⟩ := info_parts info42
  have HC := Lib.hid hcells
  have HT := Lib.hid hT
  have HA := Lib.hid hA
  have HW := Lib.hid hw
  have hn : (u64s ws).length = ws.length * 1 := by simp [u64s]
  have HN := Lib.hid hn
  have hT0 : 0 < W.heap.size := by simpa using World.block_lt_of_cell? W _ (hT 0 (by omega))
  clear hcells hT hA hn hw
  have hlit : (W.alloc (.cells #[] 42)).ownsRow W.heap.size 42 1 (.slice (some ⟨W.heap.size, 0, none⟩) 0 0) 0 [] := by
    have := World.ownsRow_made (base := W.heap.size) (e := 42) (size := 1) W #[] 0 (by simp) (by decide) rfl
    simpa using this
  have HLT := Lib.hid hlit
  clear hlit
  go_enter Tryd.func4, Tryd.ntmps4
  go_wp2_with (at_builtin; refine wpList_append_any _ rfl _ _ 32 rfl W.heap.size 42 i0 (.int .u64 0) 1 8 Tryd.underlying32 hi hz0 hz1 hz2 rfl (by decide) (.slice (some ⟨W.heap.size, 0, none⟩) 0 0) 0 [] rfl HLT.out A ws.length c (u64s ws) rfl HN.out HA.out ?c2 (u64s_one ws) ?c4 ?c5 ?c6 (by simp) ?_)
  case c2 => exact fun ad had j u hu => cell_al _ (HC.out ad had j u hu)
  case c4 => simp [maxLen]; omega
  case c5 => omega
  case c6 => simp
  intro v' w1 hown hgr hnn
  obtain ⟨r0, rc, rfl, hr0⟩ := own_form hown hnn
  try simp only [Nat.zero_add, List.nil_append] at hown
  have hb1 : Below W.heap.size W w1 := ((Below.refl _ W).alloc (Nat.le_refl _) _).grown hgr (by simp) (fun k hk => by simp [Value.ownBlock] at hk; omega)
  have HOW := Lib.hid hown
  have HB1 := Lib.hid hb1
  have hz1' := hb1.size
  clear hgr hnn hown hb1
  obtain ⟨M, In, E, hof, k, hk⟩ := Of_pack w1 n ⟨r0, 0, none⟩ ws rc (HOW.out.cells (g := r0) rfl) HW.out
  have HOF := Lib.hid hof
  have HK := Lib.hid hk
  clear hof hk
  go_wp2_with fail
  go_at_call 12
  refine HOF.out.mono ?_
  rintro e w2 ⟨P, rfl, hb2, hor⟩
  have HB2 := Lib.hid hb2
  have HOR := Lib.hid hor
  have hz2' := hb2.size
  have hrf : Calls Tryd.prog 13 #[.int .i64 n, .slice A ws.length c] w2 fun e w' => ∃ A2 c2, e = .returned (.tuple #[.agg #[.bool M, .slice A2 In.length c2], .int .i64 E]) ∧ Kd.R Kd.bool 4 w' w2.heap.size (fun _ => True) (.slice A2 In.length c2) In ∧ Below w2.heap.size w2 w' := by
    have hl : (ints64 ws).length = ws.length := by simp [ints64]
    have h0 := sextantref03_Of.calls k n A c (ints64 ws) M In E w2 (ints64_C (fun h => (HA.out h).1) hlen (fun ad had j u hu => ((HB1.out.trans (HB2.out.mono hz1')).cell (World.block_lt_of_cell? W _ (HC.out ad had j u hu))).trans (HC.out ad had j u hu))) (by rw [hl]; exact hcap) HK.out
    rw [hl] at h0
    refine h0.mono ?_
    rintro e w' ⟨v, rfl, hR, hB⟩
    obtain ⟨A2, c2, rfl, -, -⟩ := Kd.R_reads hR
    exact ⟨A2, c2, rfl, hR, hB⟩
  have HRF := Lib.hid hrf
  clear hb2 hor hrf
  go_wp2_with fail
  go_at_call 13
  refine HRF.out.mono ?_
  rintro e w3 ⟨A2, c2, rfl, hR3, hb3⟩
  have HR3 := Lib.hid hR3
  have HB3 := Lib.hid hb3
  have hz3' := hb3.size
  clear hR3 hb3
  go_wp2_with fail
  obtain ⟨w4, hw4⟩ : ∃ w4, w4 = w3.alloc (.cells #[.bool M, .slice A2 In.length c2] 39) := ⟨_, rfl⟩
  rw [← hw4]
  have hb34 : Below w3.heap.size w3 w4 := by rw [hw4]; exact (Below.refl _ _).alloc (Nat.le_refl _) _
  have hz4 : w4.heap.size = w3.heap.size + 1 := by rw [hw4]; simp
  have hgp : w4.heap[w3.heap.size]? = some (.cells #[.bool M, .slice A2 In.length c2] 39 (0, 0)) := by rw [hw4]; exact heap_alloc_new w3 _
  have hb14 : Below w1.heap.size w1 w4 := HB2.out.trans ((HB3.out.mono hz2').trans (hb34.mono (by omega)))
  have hb24 : Below w2.heap.size w2 w4 := HB3.out.trans (hb34.mono hz3')
  obtain ⟨hr1, hr2⟩ := HOW.out.lt r0 rfl
  have hcur0 : ∃ cur : Array Value, w1.heap[r0]? = some (.cells cur 42 (0, 0)) ∧ ∀ j, j < ws.length → cur[j]? = some (.int .u64 (wd ws j)) := by
    rcases HOW.out.2 with ⟨h1, _⟩ | ⟨g', cap', cur, h1, _, hh', _, _, _, ht⟩
    · cases h1
    · injection h1 with a _ _; injection a with a; injection a with a; subst a
      refine ⟨cur, hh', fun j hj => ?_⟩
      have h2 : (cur.toList.take (ws.length * 1))[j]? = some (.int .u64 (wd ws j)) := by
        rw [ht]; simp [u64s, wd, List.getElem?_eq_getElem hj]
      rw [List.getElem?_take, if_pos (by omega), Array.getElem?_toList] at h2
      exact h2
  have HC0 := Lib.hid hcur0
  have HGP := Lib.hid hgp
  have HB14 := Lib.hid hb14
  have HB24 := Lib.hid hb24
  have HZ4 := Lib.hid hz4
  have HB34 := Lib.hid hb34
  clear hcur0 hgp hb14 hb24 hw4 hb34 hz4
  go_loopw [10] (fun i wr => ∃ k : Nat, k ≤ ws.length ∧ i = .int .i64 k ∧ (∃ cur : Array Value, wr.heap[r0]? = some (.cells cur 42 (0, 0)) ∧ ∀ j, k ≤ j → j < ws.length → cur[j]? = some (.int .u64 (wd ws j))) ∧ Fr (fun k => k = r0) w4 wr) (fun i _ => ws.length - (intOf i).toNat)
  case atStart =>
    obtain ⟨cur, hc1, hc2⟩ := HC0.out
    exact ⟨0, Nat.zero_le _, rfl, ⟨cur, (HB14.out.block r0 hr2).trans hc1, fun j _ hj => hc2 j hj⟩, Fr.refl _ _⟩
  case round =>
    obtain ⟨k, hk, rfl, ⟨cur, hcur, hcj⟩, hfr⟩ := hrel
    by_cases hlk : k < ws.length
    · obtain ⟨ad, rfl⟩ : ∃ ad, A = some ad := by
        cases A with
        | none => have := (HA.out rfl).1; omega
        | some ad => exact ⟨ad, rfl⟩
      have hwc0 := HC.out ad rfl k (.int .u64 (wd ws k)) (by simp [u64s, wd, List.getElem?_eq_getElem hlk])
      have hwb := World.block_lt_of_cell? W _ hwc0
      have hwc : wr.cell? (ad.add k) = some (.int .u64 (wd ws k)) := hfr.cell (((HB1.out.trans (HB14.out.mono hz1')).cell hwb).trans hwc0) (by omega)
      have hkc : wr.cell? ⟨r0, k, none⟩ = some (.int .u64 (wd ws k)) := (cell_of_row wr r0 k _ _ _ hcur).trans (hcj k (Nat.le_refl _) hlk)
      have hkf : wr.frozen? ⟨r0, k, none⟩ = false := by simp [World.frozen?, hcur]
      have hbn : (((wd ws k : Nat) : Int) != ((wd ws k : Nat) : Int)) = false := by simp
      have HCU := Lib.hid hcur
      have HCJ := Lib.hid hcj
      have HFR := Lib.hid hfr
      clear hcur hcj hfr hwc0 hwb
      have hk0 : (0 : Int) ≤ (k : Int) := by omega
      have hk1 : (k : Int) < (ws.length : Int) := by omega
      go_wp2_with fail
      go_quiet (fail)
      go_wp2
      go_roundw
      case rel =>
        refine ⟨k + 1, by omega, by simp, ⟨cur.setIfInBounds k (.int .u64 5), heap_set_same HCU.out k _, fun j hj hj2 => ?_⟩, ?_⟩
        · rw [Array.getElem?_setIfInBounds_ne (by omega)]
          exact HCJ.out j (by omega) hj2
        · exact HFR.out.trans ((Fr.drewN _ _ _).trans (Fr.setCell _ _ _ (fun _ => rfl)))
      case measure => simp [intOf]; omega
    · obtain rfl : k = ws.length := by omega
      have hbWr : Below W.heap.size W wr := (HB1.out.trans (HB14.out.mono hz1')).trans (hfr.below2 (fun k hk => by omega) (by have := HB14.out.size; omega))
      have hTr : Tab wr := HT.out.kept (M := fun _ => False) (.of_below hbWr) id
      have HFR := Lib.hid hfr
      have HBW := Lib.hid hbWr
      have HTR := Lib.hid hTr
      have hH := Lib.hid (fun w' (h : Tab w') => heads_any w' h)
      clear hfr hcj hcur hbWr hTr
      rcases HOR.out with ⟨hP, hE⟩ | ⟨g, h, hP, hE, hM, hIn, hno, hn4, hset, hg, hh⟩
      · subst hP hE
        go_wp2_with fail
        go_at_call 9
        refine (hH.out wr HTR.out).mono ?_
        rintro e w5 ⟨rfl, hb5⟩
        go_wp2
        go_ret
        exact ⟨rfl, HBW.out.trans (hb5.mono HBW.out.size)⟩
      · subst hP hE hM hIn
        have HNO := Lib.hid hno
        have hg1 : W.heap.size ≤ g := by omega
        have hset4 : IsSet wr g h n.toNat ws := (hset.below HB24.out hset.lt.1 hset.lt.2.1).fr HFR.out (by show ¬ g = r0; omega) (by show ¬ h = r0; omega)
        have hl2 : (inOf n.toNat ws).length ≤ 4096 := by rw [inOf_length]; exact hn4
        obtain ⟨hris4, hrb⟩ := ris_of HR3.out rfl hl2 (w' := w4) (gp := w3.heap.size) (fun k hk => HB34.out.block k hk) HGP.out
        have hris : RIs wr w3.heap.size A2 (inOf n.toNat ws) := hris4.fr HFR.out (by show ¬ w3.heap.size = r0; omega) (fun rb _ hA2 _ => by have := (hrb rb hA2).1; show ¬ rb = r0; omega)
        go_wp2_with fail
        go_at_call 9
        refine (hH.out wr HTR.out).mono ?_
        rintro e w5 ⟨rfl, hb5⟩
        have htl := Lib.hid (tells_any w5 (HTR.out.kept (M := fun _ => False) (.of_below hb5) id) (hset4.below hb5 hset4.lt.1 hset4.lt.2.1) HNO.out (hris.below hb5 (Nat.le_refl _)) (by omega) (by omega) 0)
        clear hset hset4 hno hris hrb
        go_wp2_with fail
        go_at_call 14
        refine htl.out.mono ?_
        rintro e w6 ⟨rfl, _, hf6⟩
        go_wp2
        go_ret
        refine ⟨rfl, (HBW.out.trans (hb5.mono HBW.out.size)).trans (hf6.below2 (fun k hk => by omega) (by have := HBW.out.size; have := hb5.size; omega))⟩
end Go.Proofs.YthfapneifbjlmaaDoor
end

section
namespace Go.Proofs.YthfapneifbjlmaaDoor.bitsOf
open Go.ChangeShapes Go.WideShapes Go.ChangeAt Go.RowKit
set_option linter.unusedVariables false

theorem own : ownKnob Tryd.prog.godebug = none := by kernel_rfl
theorem laidOut : laidOutB Tryd.prog = true := by kernel_rfl
theorem gTab : Tryd.prog.globalNamed "math/bits.deBruijn64tab" = some 0 := by kernel_rfl
theorem gTabType : (Tryd.prog.globals[0]?).map (·.type) = some 85 := by kernel_rfl
theorem cells3 : Tryd.prog.cellsOf 3 = 1 := by kernel_rfl
theorem cells85 : Tryd.prog.cellsOf 85 = 64 := by kernel_rfl
theorem cells42 : Tryd.prog.cellsOf 42 = 1 := by kernel_rfl
theorem cells5 : Tryd.prog.cellsOf 5 = 1 := by kernel_rfl
theorem table {W : World} (h : laidMetH Tryd.prog Rows.bitsOfUptoRow.laid W) : Lib.TabIs Tryd.prog W "math/bits.deBruijn64tab" .u8 (Lib.deBruijn64tab.map fun x : Nat => (x : Int)) :=
  Lib.tabIs_of_head (rest := []) gTab gTabType Tryd.underlying85 Tryd.underlying5 cells5 cells85 h
theorem tab {W : World} (h : laidMetH Tryd.prog Rows.bitsOfUptoRow.laid W) : Tab W := fun j hj => by
  have := (table h).cell gTab j (by simpa [Lib.deBruijn64tab] using hj)
  rw [this]
  simp only [List.getD_eq_getElem?_getD, List.getElem?_map]
  cases Lib.deBruijn64tab[j]? <;> rfl

theorem bulk_lits {H : Type} (k : IntKind) (zs : List Int) : Rows.uptoBulkAll (lits (H := H) k zs) = zs.length := by
  induction zs with
  | nil => rfl
  | cons z zs ih => simp only [lits, List.map_cons, Rows.uptoBulkAll, Rows.uptoBulk] at ih ⊢; rw [ih]; simp; omega
theorem contract (H : Type) (enc : TypeId × Value → H) (W : World) (base : Nat) (args : Array Value) (ds gs : List (DataW H)) (before : List MemPlace)
    (hval : ∀ (j : Nat) t v, Tryd.f4.params[j]? = some t → args[j]? = some v → Value.okWide Tryd.prog W .any base t v)
    (hW : DataW.Whole enc Tryd.prog Tryd.f4.params.toList Rows.bitsOfSpec.vars false W args.toList ds gs before) (hC : Rows.uptoSmall H (ds ++ gs) = true) (hL : laidMetH Tryd.prog Rows.bitsOfUptoRow.laid W) :
    Calls Tryd.prog 4 args W fun e W' => ∃ v, e = .returned v ∧ Rows.bitsOfSpec.post enc Tryd.prog Tryd.f4 false true false false W args v W' := by
  have hW' := hW
  obtain ⟨p, q, hA0, hV, rfl, hfz, hnd⟩ := hW
  have hA : DataW.TrodAll enc Tryd.prog W 0 (fun _ => true) true Tryd.f4.params.toList args.toList ds p := hA0
  rw [Tryd.params4] at hA hval
  obtain ⟨v0, v1, d0, d1, p0, p1, rfl, rfl, rfl, h0, h1⟩ := trodAll_two hA
  obtain ⟨rfl, rfl⟩ := trodVars_none hV
  obtain ⟨a0, rfl, rfl, rfl, w0⟩ := open_int Tryd.underlying3 (hval 0 3 v0 rfl rfl) h0
  obtain ⟨a1, len, cap, rfl⟩ := okWide_slice Tryd.underlying32 (hval 1 32 v1 rfl rfl)
  clear hA0
  simp only [List.append_nil, List.nil_append] at hW'
  have hlt : ∀ x ∈ p1, x.block < W.heap.size := fun x hx => by simpa using hW'.lt x (by simpa using hx)
  have hbulk : Rows.uptoBulkAll ([.lit (.int .i64 a0), d1] ++ ([] : List (DataW H))) ≤ 1048576 := of_decide_eq_true hC
  have h1k := h1
  obtain ⟨fuel, hf⟩ := h1
  have key : ∃ ws : List Nat, ws.length = len ∧ len ≤ cap ∧ len ≤ 1048576 ∧ (a1 = none → ws.length = 0 ∧ cap = 0) ∧ (∀ ad, a1 = some ad → ∀ j u, (u64s ws)[j]? = some u → W.cell? (ad.add j) = some u) ∧ Words64 ws := by
    rcases open_ints Tryd.underlying32 Tryd.underlying42 cells42 hf with ⟨hcs, hx⟩ | ⟨a, len', cap', zs, hcs, _, hl, hm, hz, hx, hcell, hwz⟩
    · simp [Value.cells] at hcs
      obtain ⟨rfl, rfl, rfl⟩ := hcs
      exact ⟨[], rfl, Nat.le_refl _, by omega, fun _ => ⟨rfl, rfl⟩, fun ad h => (by cases h), fun x hx => (by cases hx)⟩
    · simp [Value.cells] at hcs
      obtain ⟨rfl, rfl, rfl⟩ := hcs
      simp only [Prod.mk.injEq] at hx
      obtain ⟨rfl, rfl⟩ := hx
      simp only [if_true] at hz
      have hb2 : len ≤ 1048576 := by
        have hl1 : (zs.take len).length = len := by simp; omega
        simp only [List.cons_append, List.nil_append, Rows.uptoBulkAll, Rows.uptoBulk, bulk_lits] at hbulk
        omega
      have hwf : ∀ z ∈ zs, 0 ≤ z ∧ z < 18446744073709551616 := fun z hz => by
        have := bounds_u64 (hwz z hz)
        omega
      refine ⟨(zs.take len).map Int.toNat, by simp; omega, hl, hb2, fun h => (by cases h), fun ad had j u hu => ?_, fun x hx => ?_⟩
      · cases had
        have hj : j < len := by
          rcases Nat.lt_or_ge j len with h | h
          · exact h
          · rw [List.getElem?_eq_none (by simp [u64s]; omega)] at hu; cases hu
        have hjz : j < zs.length := by omega
        have hu2 : u = .int .u64 ((zs[j]).toNat : Int) := by
          simp only [u64s, List.getElem?_map, List.getElem?_take_of_lt hj, List.getElem?_eq_getElem hjz, Option.map_some, Option.some.injEq] at hu
          exact hu.symm
        rw [hu2, hcell j (by omega)]
        have := hwf _ (List.getElem_mem hjz)
        simp [List.getElem?_eq_getElem hjz]
        omega
      · obtain ⟨z, hz1, rfl⟩ := List.mem_map.1 hx
        have := hwf z (List.mem_of_mem_take hz1)
        omega
  obtain ⟨ws, rfl, hlc, hlb, hn, hcs, hws⟩ := key
  refine (BitsOf_walk W (tab hL) a0 a1 cap ws hn hcs hlb hlc hws).mono fun e W' ⟨he, bel⟩ => ?_
  subst he
  exact ⟨_, rfl, _, _, _, [], _, [], hW', trodAll_mk1 (shut_bool Tryd.underlying4 _), trodAll_cons_mk (shut_int Tryd.underlying3 w0) (trodAll_cons_mk (Below.trod laidOut (by kernel_rfl) (of_decide_eq_true (by kernel_rfl)) h1k bel hlt) trodAll_mk0), rfl, bel.frame _, fun h => by cases h⟩

/-- A world for the witness: the settled one, the table (block 0) holding what its initialiser lays. -/
noncomputable def laidWorld (os : Os) : World :=
  { World.holding Tryd.prog os ⟨#[], #[], []⟩ with heap := (World.holding Tryd.prog os ⟨#[], #[], []⟩).heap.modify 0 fun
      | .cells _ t frozen => .cells (Lib.deBruijn64tab.map fun x : Nat => Value.int .u8 x).toArray t frozen
      | o => o }
theorem laid_met (os : Os) : laidMet Tryd.prog Rows.bitsOfUptoRow.laid ((laidWorld os).forCall (fun _ _ => 0) ⟨#[], #[.int .i64 0, .slice none 0 0], []⟩).memory :=
  laidMet_of_run' 8 (by kernel_rfl) (by kernel_rfl)
theorem reads (os : Os) {H : Type} (enc : TypeId × Value → H) : ∃ places, DataW.whole enc Tryd.prog ((laidWorld os).forCall (fun _ _ => 0) ⟨#[], #[.int .i64 0, .slice none 0 0], []⟩).memory Tryd.f4.params.toList Rows.bitsOfSpec.vars false #[Value.int .i64 0, .slice none 0 0].toList 8 = some ([.lit (.int .i64 0), .nil], [], places) :=
  ⟨[], by kernel_rfl⟩

set_option maxRecDepth 100000 in
theorem liftedUpto (os : Os) (started : os.Started) (H : Type) (enc : TypeId × Value → H) (F : Stop.Interp) :
    ReturnsInHanded {} Tryd.checked os 4 .any ((Rows.OpenSpec.upto Rows.bitsOfSpec).preRow enc Tryd.prog Tryd.f4 Rows.bitsOfUptoRow.domain false Rows.bitsOfUptoRow.laid) (((Rows.OpenSpec.upto Rows.bitsOfSpec).at F).post enc Tryd.prog Tryd.f4 false true false false) := by
  obtain ⟨places, hx⟩ := reads os enc
  refine returnsInHanded_of_row (C := Tryd.checked) (s := Rows.OpenSpec.upto Rows.bitsOfSpec) own started (by kernel_rfl) Tryd.func4
    (witness_row_at (enc := enc) (C := Tryd.checked) false (laidWorld os) #[.int .i64 0, .slice none 0 0] rfl (by kernel_rfl) (by kernel_rfl) (by kernel_rfl)
      (OpenSpec.preRow_of_cond 8 hx (by kernel_rfl) (fun k hk => by cases hk; kernel_rfl) (by kernel_rfl) (laid_met os))) ?_
  intro W base args ds gs before hval hW _ hC _ hL _ _
  exact contract H enc W base args ds gs before hval hW (hC _ rfl) hL

theorem saidUpto : Rows.BitsOfUptoSaid :=
  OpenClaim.holds_of_cond 4 Tryd.f4 rfl rfl rfl rfl rfl rfl rfl ⟨rfl, rfl, rfl, rfl, rfl⟩ rfl rfl rfl rfl rfl (by kernel_rfl) Tryd.func4 (by kernel_rfl)
    (of_decide_eq_true (by kernel_rfl)) (by unfold Func.isWrapper; first | (rw [if_pos (by decide +kernel)]; kernel_rfl) | (rw [if_neg (by decide +kernel)]; exact ⟨rfl, rfl⟩))
    (fun os started H enc _ F => by rw [OpenClaim.pre_eq_preRow]; exact liftedUpto os started H enc F)

theorem plain (f : FuncId) (fn : Func) (hf : Tryd.pinned.checked.prog.funcNamed "sextant/sextantlaw03.BitsOf" = some f) (hfn : Tryd.pinned.checked.prog.funcs[f]? = some fn) :
    false = Tryd.pinned.checked.prog.looks [] ∧ ∀ (j : Nat) t, fn.params[j]? = some t → Tryd.pinned.checked.prog.wantsStandIn t = false := by
  obtain rfl : f = 4 := Option.some.inj ((show Tryd.prog.funcNamed "sextant/sextantlaw03.BitsOf" = some 4 by kernel_rfl).symm.trans hf) |>.symm
  obtain rfl : fn = Tryd.f4 := (Option.some.inj (Tryd.func4.symm.trans hfn)).symm
  refine ⟨by kernel_rfl, fun j t ht => ?_⟩
  rw [Tryd.params4] at ht
  have h : t = 3 ∨ t = 32 := by simpa using Array.mem_of_getElem? ht
  rcases h with rfl | rfl
  · exact (show Tryd.prog.wantsStandIn 3 = false by kernel_rfl)
  · exact (show Tryd.prog.wantsStandIn 32 = false by kernel_rfl)

theorem cardUpto : Rows.BitsOfUptoCardSaid :=
  Claim7.holds_tied_plain_at .later [] _ _ _ _ saidUpto (fun _ h => by cases h) (by kernel_rfl) (fun _ h => by cases h) bitsOfUpto_row_tie rfl ⟨rfl, rfl⟩ (by kernel_rfl) rfl plain (by kernel_rfl)
end Go.Proofs.YthfapneifbjlmaaDoor.bitsOf
namespace Go.Proofs.YthfapneifbjlmaaDoor
theorem bitsOf_holds : Rows.BitsOfUptoCardSaid := bitsOf.cardUpto
#print axioms bitsOf_holds
end Go.Proofs.YthfapneifbjlmaaDoor
end
