/- Layer 3: BitsSubsets's walk. -/
import Derived.Test.YthfapneifbjlmaaDoorRc
namespace Go.Proofs.YthfapneifbjlmaaDoor
open Go.RowKit Go.Shelf
open Go.Proofs.YthfapneifbjlmaaDoor.PBitsSubsets Go.Proofs.YthfapneifbjlmaaDoorW.PrintWords
attribute [local go_sem] Oper.semAt_some
set_option linter.unusedVariables false
set_option linter.unusedSimpArgs false

/-- append to a row of the call's own, of a slice that may be nil; inside a fence. -/
theorem wpListIn_append_any {F : Fence} {n : Nat} {P : Program} (w : World) {ops : Array Oper} {rest : List Oper} {o : Oper} {a : Act} {Q : Exit → Act → World → Prop}
    (hg : o.guard = none) (s x : Operand) (t : TypeId) (hop : o.op = Op.call { callee := Callee.builtin Builtin.append, args := #[s, x], argTypes := #[t, t] })
    (base : Nat) (e : TypeId) (i : TypeInfo) (z : Value) (size bytes : Nat) (h1 : P.underlying t = some (.slice e)) (h2 : P.info? e = some i) (h3 : i.zero = some z) (h4 : i.size = size) (h5 : i.bytes = bytes) (h6 : z.cells.size = size) (h7 : 0 < size)
    (v : Value) (k : Nat) (xs : List Value) (hs : a.eval s = v) (hown : w.ownsRow base e size v k xs) (A : Option Addr) (m c : Nat) (news : List Value) (hx : a.eval x = .slice A m c) (hn : news.length = m * size)
    (hA : A = none → m = 0 ∧ c = 0) (hc : ∀ ad, A = some ad → ∀ j u, news[j]? = some u → w.cell? (ad.add j) = some u) (h1c : ∀ u ∈ news, u.oneCell' = true) (b1 : k + m ≤ maxLen) (b2 : (k + m) * bytes ≤ 140737488355328) (b3 : base ≤ w.heap.size) (hvn : v ≠ .slice none 0 0)
    (hK : ∀ v' w', w'.ownsRow base e size v' (k + m) (xs ++ news) → w.grownBy w' v.ownBlock → v' ≠ .slice none 0 0 → wpListIn F n P ops Q rest (a.put o.dst v') w') :
    wpListIn F n P ops Q (o :: rest) a w := by
  cases A with
  | some ad => exact wpListIn_append_own w hg s x t hop base e i z size bytes h1 h2 h3 h4 h5 h6 h7 v k xs hs hown ad m c news hx hn (hc ad rfl) h1c b1 b2 b3 (fun v' w' r1 r2 r3 => hK v' w' r1 r2 (fun h => hvn (r3.1 h).1))
  | none =>
    obtain ⟨rfl, rfl⟩ := hA rfl
    have hnews : news = [] := List.eq_nil_of_length_eq_zero (by simpa using hn)
    subst hnews
    refine wpListIn_plain hg fun K hK' => ?_
    have hrun := run_append_owned_none (P := P) w base t o.type e i size h1 h2 _ k xs hown
    unfold Oper.wpIn
    refine ⟨?_, ?_⟩
    · simp [Oper.about, hop, resolve, Target.leads, Sem.run_pure]
    · rw [Oper.semAt_plain F _ _ (by rw [hop]; intro c hc'; cases hc')]
      simp [execOp, hop, resolve, invoke, builtin, hs, hx, hrun, Result.andThen]
      exact hK' _ _ (by simpa using hK v w (by simpa using hown) (World.grownBy.refl _ _) hvn)

theorem size_setCell (w : World) (p : Addr) (v : Value) : (w.setCell p v).heap.size = w.heap.size := by simp [World.setCell]
theorem Fr.below' {M : Nat → Prop} {B : Nat} {a b : World} (h : Fr M a b) (hm : ∀ k, k < B → ¬ M k) (hB : B ≤ a.heap.size := by omega) : Below B a b := ⟨h.os, h.tape, h.output, h.size, fun i hi => h.block i (by omega) (hm i hi)⟩
theorem drewN_zero (W : World) : W.drewN 0 = W := rfl
theorem ablock (a : Addr) (j : Nat) : (a.add j).block = a.block := by unfold Addr.add; split <;> rfl
set_option maxHeartbeats 2000000 in
set_option maxRecDepth 100000 in
theorem BitsSubsets_walk (W : World) (hT : Tab W) (A : Option Addr) (c : Nat) (xs : List Int) (at' : Int) (hA : A = none → xs.length = 0 ∧ c = 0)
    (hcells : ∀ ad, A = some ad → ∀ j u, (i64s xs)[j]? = some u → W.cell? (ad.add j) = some u) (hlen : xs.length ≤ 1048576) (hcap : xs.length ≤ c) :
    Calls Tryd.prog 3 #[.slice A xs.length c, .int .i64 at'] W fun e w' => e = .returned (.bool true) ∧ Below W.heap.size W w' := by
  refine callsIn_wide (n := 3).1 ?_
  obtain ⟨i0, hi, hz0, hz1, hz2⟩ := info_parts info3
  have HC := Lib.hid hcells
  have HT := Lib.hid hT
  have HA := Lib.hid hA
  have hn : (i64s xs).length = xs.length * 1 := by simp [i64s]
  have HN := Lib.hid hn
  clear hcells hT hA hn
  refine callsIn_of_wp_marks Tryd.func3 rfl trivial ?_ rfl
  simp only [Tryd.ntmps3, List.size_toArray, List.length_cons, List.length_nil, Nat.reduceAdd, Nat.reduceSub, Array.replicate_succ, Array.replicate_zero, List.push_toArray, List.append_toArray, List.nil_append, List.cons_append]
  have hlit : (((W.alloc (.cells #[.int .i64 at'] 3)).alloc (.cells #[.bool false] 4)).alloc (.cells #[] 3)).ownsRow (W.heap.size + 2) 3 1 (.slice (some ⟨W.heap.size + 1 + 1, 0, none⟩) 0 0) 0 [] := by
    have := World.ownsRow_made (base := W.heap.size + 2) (e := 3) (size := 1) ((W.alloc (.cells #[.int .i64 at'] 3)).alloc (.cells #[.bool false] 4)) #[] 0 (by simp) (by decide) rfl
    simpa using this
  have HLT := Lib.hid hlit
  clear hlit
  gi_wp2_with (gi_at_builtin; refine wpListIn_append_any _ rfl _ _ 22 rfl (W.heap.size + 2) 3 i0 (.int .i64 0) 1 8 Tryd.underlying22 hi hz0 hz1 hz2 rfl (by decide) (.slice (some ⟨W.heap.size + 1 + 1, 0, none⟩) 0 0) 0 [] rfl HLT.out A xs.length c (i64s xs) rfl HN.out HA.out ?c2 (i64s_one xs) ?c4 ?c5 ?c6 (by simp) ?_)
  case c2 => exact fun ad had j u hu => cell_al _ (cell_al _ (cell_al _ (HC.out ad had j u hu)))
  case c4 => simp [maxLen]; omega
  case c5 => omega
  case c6 => simp
  intro v' w3 hown hgr hnn
  obtain ⟨l0, capl, rfl, hl0⟩ := own_form hown hnn
  try simp only [Nat.zero_add, List.nil_append] at hown
  have hW3 : Fr (fun k => k = W.heap.size + 2) ((W.alloc (.cells #[.int .i64 at'] 3)).alloc (.cells #[.bool false] 4)) w3 := (Fr.alloc _ _ _).trans ((Fr.of_grownBy hgr).mono (fun k _ h => by injection h))
  have hsub := Lib.hid (callsIn_wide (n := 2).2 (Bd.Subsets_any w3 ⟨l0, 0, none⟩ xs capl (fun j u hu => hown.cells (g := l0) rfl j u hu) (by omega)))
  clear hgr hnn
  gi_wp2_with (first | (refine ⟨trivial, ?_⟩; gi_at_call 8; refine hsub.out.mono ?_; rintro e w4 ⟨Bl, lb, cap4, rfl, hL4, hBl4, hlb4, hlbs, hb4⟩; have hn2 := fun w => run_eql_func_nil Tryd.underlying24 (.func 29) #[] #[.pointer (some ⟨Bl, 0, none⟩)] w))
  refine ⟨trivial, ?_⟩
  have hs3 := hW3.size
  simp only [World.size_alloc] at hs3
  have hB3 : Below W.heap.size W w3 := ((((Below.refl _ W).alloc (Nat.le_refl _) _).alloc (by simp) _)).trans ((hW3.mono (M' := fun k => W.heap.size ≤ k) (fun k _ h => by omega)) |> fun h => ⟨h.os, h.tape, h.output, h.size, fun k hk => h.block k (by simp; omega) (by omega)⟩)
  have hB4 : Below W.heap.size W w4 := hB3.trans (hb4.mono hB3.size)
  have hTw4 : Tab w4 := HT.out.kept (M := fun _ => False) (.of_below hB4) id
  refine (callsIn_wide (n := 2).2 (heads_any w4 hTw4)).mono ?_
  rintro e w5 ⟨rfl, hb5⟩
  clear hTw4
  have hl0lt := (hown.lt l0 rfl).2
  have hb35 : Below w3.heap.size w3 w5 := hb4.trans (hb5.mono hb4.size)
  have hB5 : Below W.heap.size W w5 := hB4.trans (hb5.mono hB4.size)
  have hf5 : Fr (fun k => k = W.heap.size + 2) ((W.alloc (.cells #[.int .i64 at'] 3)).alloc (.cells #[.bool false] 4)) w5 := hW3.trans (.of_below hb35)
  have hat5 : w5.heap[W.heap.size]? = some (.cells #[.int .i64 at'] 3 (0, 0)) := (hf5.block _ (by simp; omega) (by omega)).trans ((Below.heap_alloc _ _ _ (by simp)).trans (heap_alloc_new W _))
  have hre5 : w5.heap[W.heap.size + 1]? = some (.cells #[.bool false] 4 (0, 0)) := (hf5.block _ (by simp) (by omega)).trans (by have := heap_alloc_new (W.alloc (.cells #[.int .i64 at'] 3)) (.cells #[.bool false] 4); rwa [World.size_alloc] at this)
  have hL5 : LBox w5 Bl lb cap4 xs := ⟨(Fr.of_below hb5 (M := fun _ => False)).cell hL4.box id, fun j hj => (Fr.of_below hb5 (M := fun _ => False)).cell (hL4.cells j hj) id⟩
  obtain ⟨cur, hrow5, hcur, hcurs⟩ : ∃ cur : List Value, w5.heap[l0]? = some (.cells (i64s xs ++ cur).toArray 3 (0, 0)) ∧ True ∧ True := by
    rcases hown.2 with ⟨h1, _⟩ | ⟨g', cap', cur, h1, _, hh, _, _, _, ht⟩
    · cases h1
    · injection h1 with a _ _; injection a with a; injection a with a; subst a
      refine ⟨cur.toList.drop (xs.length * 1), (hb35.block l0 hl0lt).trans (hh.trans ?_), trivial, trivial⟩
      rw [← ht, List.take_append_drop]
  have hs5 := hb35.size
  have hblt : Bl < w4.heap.size := by simpa using World.block_lt_of_cell? w4 _ hL4.box
  have hs45 := hb5.size
  have HAT := Lib.hid hat5
  have HRE := Lib.hid hre5
  have HL5 := Lib.hid hL5
  have HB5 := Lib.hid hB5
  clear hown hW3 hsub hb4 hb5 hb35 hB3 hB4 hf5 hat5 hre5 hL5 hL4 hcur hcurs hB5
  gi_wp2_with fail
  gi_loopw [7] (fun i wr => ∃ (k : Nat) (ys : List Int), k ≤ xs.length ∧ i = .int .i64 k ∧ ys.length = xs.length ∧ wr.heap[l0]? = some (.cells (i64s ys ++ cur).toArray 3 (0, 0)) ∧ Fr (fun k => k = l0) w5 wr) (fun i _ => xs.length - (intOf i).toNat)
  case atStart => exact ⟨0, xs, Nat.zero_le _, rfl, rfl, hrow5, Fr.refl _ _⟩
  case round =>
    obtain ⟨k, ys, hk, rfl, hyl, hrow, hfr⟩ := hrel
    by_cases hlt : k < xs.length
    · have hcl : wr.cell? ⟨l0, k, none⟩ = some (.int .i64 (nd ys k)) := (heap_cell hrow k).trans (by rw [List.getElem?_append_left (by simp [i64s]; omega)]; exact i64s_get (by omega))
      have hcf := heap_free hrow k
      have HR := Lib.hid hrow
      clear hrow hrow5
      gi_wp2
      go_roundw
      case rel => exact ⟨k + 1, ys.set k (wrap64 (nd ys k + 1)), by omega, by simp, by simpa using hyl, (heap_set_same HR.out k _).trans (by rw [i64s_set, ← List.set_append_left _ _ (by simp [i64s]; omega)]; simp), hfr.trans (Fr.setCell _ _ _ (fun _ => rfl))⟩
      case measure => simp [intOf]; omega
    · gi_wp2_with fail
      have hsubs := Lib.hid (subs_pure xs)
      have hs6 := hfr.size
      have hl0ne : ∀ k, k < w4.heap.size → k ≠ l0 → wr.heap[k]? = w5.heap[k]? := fun k hk hn => hfr.block k (by omega) hn
      have hat6 : wr.heap[W.heap.size]? = some (.cells #[.int .i64 at'] 3 (0, 0)) := (hfr.block _ (by omega) (by omega)).trans HAT.out
      have hC6 : Kd.C (Kd.int .i64) wr A xs.length xs := reads_i64 (fun h => (HA.out h).1) (by omega) (fun ad had j u hu => by
        have h1 := HC.out ad had j u hu
        have hbk := World.block_lt_of_cell? W _ h1
        rw [ablock] at hbk
        have h2 := (HB5.out.cell (p := ad.add j) (by rw [ablock]; exact hbk)).trans h1
        exact hfr.cell h2 (by rw [ablock]; omega))
      refine ⟨trivial, ?_⟩
      obtain ⟨k0, hk0⟩ := hsubs.out
      refine (callsIn_wide (n := 2).2 (sextantref03_Subsets.calls k0 A c xs (subsL xs) wr hC6 hcap hk0)).mono ?_
      rintro e w6 ⟨v6, rfl, hN6, hb6⟩
      obtain ⟨A6, c6, rfl, hc6, -⟩ := Kd.N_reads hN6
      have hs66 := hb6.size
      have hL6 : LBox w6 Bl lb cap4 xs := ⟨(Fr.of_below hb6 (M := fun _ => False)).cell (hfr.cell HL5.out.box (by simp; omega)) id, fun j hj => (Fr.of_below hb6 (M := fun _ => False)).cell (hfr.cell (HL5.out.cells j hj) (by simp; omega)) id⟩
      have hsb0 : Sb W.heap.size (W.heap.size + 1) wr.heap.size w6.heap.size A6 c6 at' (subsL xs) 0 false ((w6.alloc (.cells #[.slice A6 (subsL xs).length c6] 27)).alloc (.cells #[.int .i64 0] 3)) := by
        have hbl : Below w6.heap.size w6 ((w6.alloc (.cells #[.slice A6 (subsL xs).length c6] 27)).alloc (.cells #[.int .i64 0] 3)) := ((Below.refl _ w6).alloc (Nat.le_refl _) _).alloc (by simp) _
        refine ⟨?_, ?_, ?_, ?_, ?_⟩
        · exact (hbl.block _ (by omega)).trans ((hb6.block _ (by omega)).trans hat6)
        · exact (hbl.block _ (by omega)).trans ((hb6.block _ (by omega)).trans ((hfr.block _ (by omega) (by omega)).trans HRE.out))
        · exact (Below.heap_alloc _ _ _ (by simp)).trans (heap_alloc_new w6 _)
        · have := heap_alloc_new (w6.alloc (.cells #[.slice A6 (subsL xs).length c6] 27)) (.cells #[.int .i64 0] 3)
          rwa [World.size_alloc] at this
        · exact Kd.N_alloc (Kd.N_alloc (Kd.N_bound hN6) _) _
      have HL6 := Lib.hid hL6
      have HS0 := Lib.hid hsb0
      have HB6 := Lib.hid hb6
      have HF := Lib.hid hfr
      clear hN6 hb6 hfr hC6 hat6 hl0ne hrow hrow5 hk0 hL6 hsb0
      gi_wp2_with fail
      refine rangeFunc_block (n := 1) rfl (enters_of Tryd.func29 (by kernel_rfl) rfl) (Bd.subs_seq Bl lb cap4 xs) (fun x => rfl) (fun x _ _ h hp => ⟨(h x.1 rfl).trans hp.1, hp.2⟩)
        (BsI W.heap.size (W.heap.size + 1) wr.heap.size w6.heap.size A6 c6 at' (subsL xs)) (BsB W.heap.size (W.heap.size + 1) wr.heap.size w6.heap.size A6 c6 at' (subsL xs)) (BsR (subsL xs))
        (Own W.heap.size (W.heap.size + 1) wr.heap.size w6.heap.size)
        (fun Wm => ∃ n : Nat, Sb W.heap.size (W.heap.size + 1) wr.heap.size w6.heap.size A6 c6 at' (subsL xs) n false Wm ∧ (n = (subsL xs).length ∨ (n : Int) = at') ∧ Fr (Own W.heap.size (W.heap.size + 1) wr.heap.size w6.heap.size) w6 Wm ∧ Wm.heap[w6.heap.size + 2]? = some (.deferred (some [])))
        (fun k hk => by rw [World.size_alloc, World.size_alloc]; unfold Own at hk; omega) (BsI.foot hs66) (BsB.foot hs66) BsR.foot ⟨fun k => Iff.rfl, HS0.out, List.nil_prefix⟩ ?iw ?a1 ?assign ?body ?mid ?done ?brk ?ret
      case assign =>
        intro l x W' K hK
        gi_wp2
        exact hK
      case iw =>
        intro W1 D1 hb hd
        have hbw : Below w6.heap.size w6 W1 := (((Below.refl _ w6).alloc (Nat.le_refl _) _).alloc (by simp) _).trans (hb.mono (by simp; omega))
        have hf : Fr (fun _ => False) w6 W1 := .of_below hbw
        have h1 := hbw.size
        simp only [World.size_alloc] at hd
        refine ⟨⟨hf.cell HL6.out.box id, fun j hj => hf.cell (HL6.out.cells j hj) id⟩, by omega, fun h => ?_, fun h => ?_⟩
        · rcases hd _ h with h | h
          · unfold Own at h; omega
          · omega
        · rcases hd _ h with h | h
          · unfold Own at h; omega
          · omega
      case done =>
        rintro ys Wd D hS ⟨hD, hsb, _⟩ hfd hdef _ _
        simp only [World.size_alloc] at hdef
        refine ⟨ys.length, hsb, .inl (by rw [← hS]; simp), ((Fr.alloc _ w6 _).trans (Fr.alloc _ _ _)).trans hfd, hdef⟩
      case brk =>
        rintro ys Wd D hS ⟨⟨hD, hsb, _⟩, hat⟩ hfd hdef _ _
        simp only [World.size_alloc] at hdef
        refine ⟨ys.length, hsb, .inr hat, ((Fr.alloc _ w6 _).trans (Fr.alloc _ _ _)).trans hfd, hdef⟩
      case body =>
        rintro l pre x W' D hi hDl hx hhand hle
        have hs := hi.2.1
        have hcat := heap_cell hs.at_ 0
        have hcw := heap_cell hs.wa 0
        have hcn := heap_cell hs.no 0
        have hfn := heap_free hs.no 0
        have hcr := heap_cell hs.re 0
        have hfr := heap_free hs.re 0
        simp only [List.getElem?_cons_zero] at hcat hcw hcn hcr
        have hxl := hx.2
        have hple : pre.length ≤ (subsL xs).length := by have := hi.2.2.length_le; simpa using this
        by_cases hlt' : pre.length < (subsL xs).length
        · obtain ⟨ad, A0, c0, rfl, hcrow, hc0, hC0⟩ := hs.row hlt'
          obtain ⟨ki, hki⟩ := ints_pure x.2 ((subsL xs)[pre.length]) (by omega)
          have HK := Lib.hid (sextantlaw03_ints.calls ki (some ⟨x.1, 0, none⟩) x.2.length x.2 A0 c0 ((subsL xs)[pre.length]) _ W' (reads_row (by omega) hx.1) (Nat.le_refl _) hC0 hc0 hki)
          have HI := Lib.hid hi
          have HD := Lib.hid hDl
          have HX := Lib.hid hx
          have hd1 : decide ((subsL xs).length ≤ pre.length) = false := decide_eq_false (by omega)
          have hd2 : decide (((subsL xs).length : Int) ≤ (pre.length : Int)) = false := decide_eq_false (by omega)
          by_cases hq : x.2 = (subsL xs)[pre.length]
          · have hqt : decide (x.2 = (subsL xs)[pre.length]) = true := decide_eq_true hq
            rw [hqt] at HK
            have HQ := Lib.hid hq
            clear hi hs hDl hx hki hC0 hqt hq
            gi_wp2_with fail
            refine ⟨trivial, ?_⟩
            refine (CallsIn.inRound l (callsIn_wide (n := 0).2 HK.out)).mono ?_
            rintro e w' ⟨rfl, ⟨⟨m, rfl⟩⟩⟩
            gi_wp2_with fail
            have hown : ¬ Own W.heap.size (W.heap.size + 1) wr.heap.size w6.heap.size x.1 := fun h => hhand x.1 rfl ((HI.out.1 x.1).2 h)
            have hx1 : W.heap.size ≠ x.1 ∧ W.heap.size + 1 ≠ x.1 ∧ w6.heap.size ≠ x.1 ∧ w6.heap.size + 1 ≠ x.1 := by unfold Own at hown; omega
            obtain ⟨hx1a, hx1b, hx1c, hx1d⟩ := hx1
            gi_loopw [11] (fun i wi => ∃ (j : Nat) (zs : List Int), j ≤ x.2.length ∧ i = .int .i64 j ∧ zs.length = x.2.length ∧ wi.heap[x.1]? = some (.cells (i64s zs).toArray 3 (0, 0)) ∧ Fr (fun k => k = x.1) W' wi) (fun i _ => x.2.length - (intOf i).toNat)
            case atStart => exact ⟨0, x.2, Nat.zero_le _, rfl, rfl, HX.out.1, Fr.drewN _ W' m⟩
            case round =>
              obtain ⟨j, zs, hj, rfl, hzl, hrow, hfri⟩ := hrel
              by_cases hlj : j < x.2.length
              · have hcl := heap_cell hrow j
                rw [i64s_get (by omega)] at hcl
                have hcf := heap_free hrow j
                have HR := Lib.hid hrow
                clear hrow
                gi_wp2
                go_roundw
                case rel => exact ⟨j + 1, zs.set j (-7), by omega, by simp, by simpa using hzl, (heap_set_same HR.out j _).trans (by rw [i64s_set]; simp), hfri.trans (Fr.setCell _ _ _ (fun _ => rfl))⟩
                case measure => simp [intOf]; omega
              · have hcat2 := hfri.cell hcat hx1a
                have hcn2 := hfri.cell hcn hx1d
                have hfn2 := heap_free ((hfri.block _ (HD.out _ ((HI.out.1 (w6.heap.size + 1)).2 (.inr (.inr ⟨by omega, Nat.le_refl _⟩)))) hx1d).trans HI.out.2.1.no) 0
                have hle2 := subsL_le xs
                have hg := Lib.hid (Bs_good hs66 (by omega) (by omega) HI.out HD.out hfri (fun h => hhand x.1 rfl h) hlt' HQ.out)
                have he : (pre.length : Int) + 1 = ((pre.length + 1 : Nat) : Int) := by omega
                have HE := Lib.hid he
                clear he
                gi_wp2
                · rename_i hq
                  have hq2 : (pre.length : Int) + 1 = at' := by simpa using hq
                  rw [HE.out]
                  obtain ⟨D', h1, h2⟩ := hg.out
                  exact ⟨D', h1, rfl, h2, by rw [List.length_append, ← hq2]; simp⟩
                · rw [HE.out]
                  exact hg.out
          · have hqf : decide (x.2 = (subsL xs)[pre.length]) = false := decide_eq_false hq
            rw [hqf] at HK
            clear hi hs hDl hx hki hC0
            gi_wp2_with (first | (refine ⟨trivial, ?_⟩; gi_at_call 11; refine (CallsIn.inRound l (callsIn_wide (n := 0).2 HK.out)).mono ?_; rintro e w' ⟨rfl, ⟨⟨m, rfl⟩⟩⟩))
            exact Bs_bad HI.out HD.out m _ (fun _ => hq)
        · have hpe : pre.length = (subsL xs).length := by omega
          have hd1 : decide ((subsL xs).length ≤ pre.length) = true := decide_eq_true (by omega)
          have hd2 : decide (((subsL xs).length : Int) ≤ (pre.length : Int)) = true := decide_eq_true (by omega)
          have HI := Lib.hid hi
          have HD := Lib.hid hDl
          have HX := Lib.hid hx
          clear hi hs hDl hx
          gi_wp2_with fail
          refine ⟨trivial, ?_⟩
          gi_wp2_with fail
          have hb := Bs_bad (x := x) HI.out HD.out 0 (.bool false) (fun hn => absurd hn (by omega))
          rw [drewN_zero] at hb
          exact hb
      case mid => 
        rintro Wm ⟨n, hsb, hn, hfm, hdm⟩
        have hcat := heap_cell hsb.at_ 0
        have hcw := heap_cell hsb.wa 0
        have hcn := heap_cell hsb.no 0
        have hfn := heap_free hsb.no 0
        simp only [List.getElem?_cons_zero] at hcat hcw hcn
        have HSB := Lib.hid hsb
        have HDM := Lib.hid hdm
        have HFM := Lib.hid hfm
        clear hsb hdm hfm
        by_cases hnl : n = (subsL xs).length
        · subst hnl
          clear hn
          have hwm : w6.heap.size + 1 < Wm.heap.size := (Array.getElem?_eq_some_iff.1 HSB.out.no).1
          have hdlt : w6.heap.size + 2 < Wm.heap.size := (Array.getElem?_eq_some_iff.1 HDM.out).1
          have hs2 : Sb W.heap.size (W.heap.size + 1) wr.heap.size w6.heap.size A6 c6 at' (subsL xs) 0 false (Wm.setCell ⟨w6.heap.size + 1, 0, none⟩ (.int .i64 0)) := HSB.out.setN (by omega) (by omega) hs66 0
          have HS2 := Lib.hid hs2
          clear hs2
          gi_wp2_with fail
          refine rangeFunc_block (n := 1) rfl (enters_of Tryd.func29 (by kernel_rfl) rfl) (Bd.subs_seq Bl lb cap4 xs) (fun x => rfl) (fun x _ _ h hp => ⟨(h x.1 rfl).trans hp.1, hp.2⟩)
            (BsI W.heap.size (W.heap.size + 1) wr.heap.size w6.heap.size A6 c6 at' (subsL xs)) (fun _ _ _ => False) (BsR (subsL xs))
            (Own W.heap.size (W.heap.size + 1) wr.heap.size w6.heap.size)
            (fun Wq => Sb W.heap.size (W.heap.size + 1) wr.heap.size w6.heap.size A6 c6 at' (subsL xs) (subsL xs).length false Wq ∧ Fr (Own W.heap.size (W.heap.size + 1) wr.heap.size w6.heap.size) Wm Wq ∧ Wq.heap[Wm.heap.size]? = some (.deferred (some [])))
            (fun k hk => by rw [size_setCell]; unfold Own at hk; omega) (BsI.foot hs66) (fun _ _ _ _ h _ => h) BsR.foot ⟨fun k => Iff.rfl, HS2.out, List.nil_prefix⟩ ?iw2 ?a2 ?assign2 ?body2 ?mid2 ?done2 ?brk2 ?ret2
          case assign2 =>
            intro l x W' K hK
            gi_wp2
            exact hK
          case iw2 =>
            intro W1 D1 hb hd
            have hbs := hb.size
            simp only [size_setCell] at hd hbs
            have hf : Fr (Own W.heap.size (W.heap.size + 1) wr.heap.size w6.heap.size) w6 W1 := (HFM.out.trans (Fr.setCell _ _ _ (fun _ => .inr (.inr ⟨Nat.le_succ_of_le hs66, Nat.le_refl _⟩)))).trans (.of_below hb)
            have hfs := HFM.out.size
            refine ⟨⟨hf.cell HL6.out.box (by unfold Own; simp; omega), fun j hj => hf.cell (HL6.out.cells j hj) (by unfold Own; simp; omega)⟩, by omega, fun h => ?_, fun h => ?_⟩
            · rcases hd _ h with h | h
              · unfold Own at h; omega
              · omega
            · rcases hd _ h with h | h
              · unfold Own at h; omega
              · omega
          case body2 =>
            rintro l pre x W' D hi hDl hx hhand hle
            have hs := hi.2.1
            have hcw := heap_cell hs.wa 0
            have hcn := heap_cell hs.no 0
            have hfn := heap_free hs.no 0
            have hcr := heap_cell hs.re 0
            have hfr := heap_free hs.re 0
            simp only [List.getElem?_cons_zero] at hcw hcn hcr
            have hxl := hx.2
            have hple : pre.length ≤ (subsL xs).length := by have := hi.2.2.length_le; simpa using this
            by_cases hlt' : pre.length < (subsL xs).length
            · obtain ⟨ad, A0, c0, rfl, hcrow, hc0, hC0⟩ := hs.row hlt'
              obtain ⟨ki, hki⟩ := ints_pure x.2 ((subsL xs)[pre.length]) (by omega)
              have HK := Lib.hid (sextantlaw03_ints.calls ki (some ⟨x.1, 0, none⟩) x.2.length x.2 A0 c0 ((subsL xs)[pre.length]) _ W' (reads_row (by omega) hx.1) (Nat.le_refl _) hC0 hc0 hki)
              have HI := Lib.hid hi
              have HD := Lib.hid hDl
              have hd1 : decide ((subsL xs).length ≤ pre.length) = false := decide_eq_false (by omega)
              have hd2 : decide (((subsL xs).length : Int) ≤ (pre.length : Int)) = false := decide_eq_false (by omega)
              by_cases hq : x.2 = (subsL xs)[pre.length]
              · have hqt : decide (x.2 = (subsL xs)[pre.length]) = true := decide_eq_true hq
                rw [hqt] at HK
                have HQ := Lib.hid hq
                have hle2 := subsL_le xs
                have he : (pre.length : Int) + 1 = ((pre.length + 1 : Nat) : Int) := by omega
                have HE := Lib.hid he
                clear hi hs hDl hx hki hC0 hqt hq he
                gi_wp2_with fail
                refine ⟨trivial, ?_⟩
                refine (CallsIn.inRound l (callsIn_wide (n := 0).2 HK.out)).mono ?_
                rintro e w' ⟨rfl, ⟨⟨m, rfl⟩⟩⟩
                gi_wp2
                rw [HE.out]
                exact Bs_good hs66 (by omega) (by omega) HI.out HD.out (Fr.drewN _ W' m) (fun h => hhand x.1 rfl h) hlt' HQ.out
              · have hqf : decide (x.2 = (subsL xs)[pre.length]) = false := decide_eq_false hq
                rw [hqf] at HK
                clear hi hs hDl hx hki hC0
                gi_wp2_with (first | (refine ⟨trivial, ?_⟩; gi_at_call 11; refine (CallsIn.inRound l (callsIn_wide (n := 0).2 HK.out)).mono ?_; rintro e w' ⟨rfl, ⟨⟨m, rfl⟩⟩⟩))
                exact Bs_bad HI.out HD.out m _ (fun _ => hq)
            · have hpe : pre.length = (subsL xs).length := by omega
              have hd1 : decide ((subsL xs).length ≤ pre.length) = true := decide_eq_true (by omega)
              have hd2 : decide (((subsL xs).length : Int) ≤ (pre.length : Int)) = true := decide_eq_true (by omega)
              have HI := Lib.hid hi
              have HD := Lib.hid hDl
              clear hi hs hDl hx
              gi_wp2_with fail
              refine ⟨trivial, ?_⟩
              gi_wp2_with fail
              have hb := Bs_bad (x := x) HI.out HD.out 0 (.bool false) (fun hn => absurd hn (by omega))
              rw [drewN_zero] at hb
              exact hb
          case done2 =>
            rintro ys Wd D hS ⟨hD, hsb, _⟩ hfd hdef _ _
            simp only [size_setCell] at hdef
            have hyl : ys.length = (subsL xs).length := by rw [← hS]; simp
            rw [hyl] at hsb
            refine ⟨hsb, (Fr.setCell _ _ _ (fun _ => .inr (.inr ⟨Nat.le_succ_of_le hs66, Nat.le_refl _⟩))).trans hfd, hdef⟩
          case brk2 => exact fun _ _ _ _ h => h.elim
          case ret2 => exact fun pre W' D hp hr _ _ _ _ => absurd hp hr
          case mid2 =>
            rintro Wq ⟨hsb, hfq, hdq⟩
            have hcn := heap_cell hsb.no 0
            have hcw := heap_cell hsb.wa 0
            have hcr := heap_cell hsb.re 0
            have hfr := heap_free hsb.re 0
            simp only [List.getElem?_cons_zero] at hcn hcw hcr
            have HSQ := Lib.hid hsb
            have HFQ := Lib.hid hfq
            have HDQ := Lib.hid hdq
            clear hsb hfq hdq
            by_cases hbig : 10 < xs.length
            · gi_wp2
              have hne : w6.heap.size + 2 ≠ Wm.heap.size := by omega
              have hd1 : (Wq.setCell ⟨W.heap.size + 1, 0, none⟩ (.bool true)).heap[Wm.heap.size]? = some (.deferred (some [])) := (Below.heap_setCell _ _ _ _ (by show Wm.heap.size ≠ W.heap.size + 1; omega)).trans HDQ.out
              have hd2 : (Wq.setCell ⟨W.heap.size + 1, 0, none⟩ (.bool true)).heap[w6.heap.size + 2]? = some (.deferred (some [])) := (Below.heap_setCell _ _ _ _ (by show w6.heap.size + 2 ≠ W.heap.size + 1; omega)).trans ((HFQ.out.block _ hdlt (by unfold Own; omega)).trans HDM.out)
              refine ⟨by simp, .inl ⟨_, _, rfl, run_takeDeferred hd1, ?_⟩⟩
              refine ⟨by simp, .inl ⟨_, _, rfl, run_takeDeferred ((World.putObj_heap_other hne).trans hd2), ?_⟩⟩
              refine ⟨.bool true, results_cell_one rfl _ _ ⟨W.heap.size + 1, 0, none⟩ (.bool true) rfl Tryd.underlying4 rfl ?_, rfl, ?_⟩
              · have h9 : (((Wq.setCell ⟨W.heap.size + 1, 0, none⟩ (.bool true)).putObj Wm.heap.size (.deferred none)).putObj (w6.heap.size + 2) (.deferred none)).heap[W.heap.size + 1]? = some (.cells #[.bool true] 4 (0, 0)) :=
                  (World.putObj_heap_other (by omega)).trans ((World.putObj_heap_other (by omega)).trans (heap_set_same HSQ.out.re 0 _))
                exact heap_cell (cs := [.bool true]) h9 0
              · refine below_putObj (below_putObj ?_ _ _ (by omega)) _ _ (by omega)
                have hA : Below W.heap.size W w6 := (HB5.out.trans (HF.out.below' (B := W.heap.size) (fun k hk => by omega))).trans (HB6.out.mono (by omega))
                have hB : Below W.heap.size W Wm := hA.trans ((HFM.out.below' (B := W.heap.size) (fun k hk => by unfold Own; omega)))
                exact hB.trans (((HFQ.out.trans (Fr.setCell _ _ _ (fun _ => .inr (.inl rfl)))).below' (B := W.heap.size) (fun k hk => by unfold Own; omega)))
            · have hpw := subsL_small (xs := xs) (by omega)
              have hpv := pow_val (n := xs.length) (by omega)
              have HPV := Lib.hid hpv
              clear hpv
              gi_wp2
              rw [HPV.out]
              have hne : w6.heap.size + 2 ≠ Wm.heap.size := by omega
              have hd1 : (Wq.setCell ⟨W.heap.size + 1, 0, none⟩ (.bool true)).heap[Wm.heap.size]? = some (.deferred (some [])) := (Below.heap_setCell _ _ _ _ (by show Wm.heap.size ≠ W.heap.size + 1; omega)).trans HDQ.out
              have hd2 : (Wq.setCell ⟨W.heap.size + 1, 0, none⟩ (.bool true)).heap[w6.heap.size + 2]? = some (.deferred (some [])) := (Below.heap_setCell _ _ _ _ (by show w6.heap.size + 2 ≠ W.heap.size + 1; omega)).trans ((HFQ.out.block _ hdlt (by unfold Own; omega)).trans HDM.out)
              refine ⟨by simp, .inl ⟨_, _, rfl, run_takeDeferred hd1, ?_⟩⟩
              refine ⟨by simp, .inl ⟨_, _, rfl, run_takeDeferred ((World.putObj_heap_other hne).trans hd2), ?_⟩⟩
              refine ⟨.bool true, results_cell_one rfl _ _ ⟨W.heap.size + 1, 0, none⟩ (.bool true) rfl Tryd.underlying4 rfl ?_, rfl, ?_⟩
              · have h9 : (((Wq.setCell ⟨W.heap.size + 1, 0, none⟩ (.bool true)).putObj Wm.heap.size (.deferred none)).putObj (w6.heap.size + 2) (.deferred none)).heap[W.heap.size + 1]? = some (.cells #[.bool true] 4 (0, 0)) :=
                  (World.putObj_heap_other (by omega)).trans ((World.putObj_heap_other (by omega)).trans (heap_set_same HSQ.out.re 0 _))
                exact heap_cell (cs := [.bool true]) h9 0
              · refine below_putObj (below_putObj ?_ _ _ (by omega)) _ _ (by omega)
                have hA : Below W.heap.size W w6 := (HB5.out.trans (HF.out.below' (B := W.heap.size) (fun k hk => by omega))).trans (HB6.out.mono (by omega))
                have hB : Below W.heap.size W Wm := hA.trans ((HFM.out.below' (B := W.heap.size) (fun k hk => by unfold Own; omega)))
                exact hB.trans (((HFQ.out.trans (Fr.setCell _ _ _ (fun _ => .inr (.inl rfl)))).below' (B := W.heap.size) (fun k hk => by unfold Own; omega)))
        · have hn2 : at' = (n : Int) := (hn.resolve_left hnl).symm
          subst hn2
          have hnf : decide ((n : Int) = ((subsL xs).length : Int)) = false := decide_eq_false (by omega)
          clear hn
          have hwm : w6.heap.size + 1 < Wm.heap.size := (Array.getElem?_eq_some_iff.1 HSB.out.no).1
          have hdlt : w6.heap.size + 2 < Wm.heap.size := (Array.getElem?_eq_some_iff.1 HDM.out).1
          have hs2 : Sb W.heap.size (W.heap.size + 1) wr.heap.size w6.heap.size A6 c6 (n : Int) (subsL xs) 0 false (Wm.setCell ⟨w6.heap.size + 1, 0, none⟩ (.int .i64 0)) := HSB.out.setN (by omega) (by omega) hs66 0
          have HS2 := Lib.hid hs2
          clear hs2
          gi_wp2_with fail
          refine rangeFunc_block (n := 1) rfl (enters_of Tryd.func29 (by kernel_rfl) rfl) (Bd.subs_seq Bl lb cap4 xs) (fun x => rfl) (fun x _ _ h hp => ⟨(h x.1 rfl).trans hp.1, hp.2⟩)
            (BsI W.heap.size (W.heap.size + 1) wr.heap.size w6.heap.size A6 c6 (n : Int) (subsL xs)) (fun _ _ _ => False) (BsR (subsL xs))
            (Own W.heap.size (W.heap.size + 1) wr.heap.size w6.heap.size)
            (fun Wq => Sb W.heap.size (W.heap.size + 1) wr.heap.size w6.heap.size A6 c6 (n : Int) (subsL xs) (subsL xs).length false Wq ∧ Fr (Own W.heap.size (W.heap.size + 1) wr.heap.size w6.heap.size) Wm Wq ∧ Wq.heap[Wm.heap.size]? = some (.deferred (some [])))
            (fun k hk => by rw [size_setCell]; unfold Own at hk; omega) (BsI.foot hs66) (fun _ _ _ _ h _ => h) BsR.foot ⟨fun k => Iff.rfl, HS2.out, List.nil_prefix⟩ ?iw3 ?a3 ?assign3 ?body3 ?mid3 ?done3 ?brk3 ?ret3
          case assign3 =>
            intro l x W' K hK
            gi_wp2
            exact hK
          case iw3 =>
            intro W1 D1 hb hd
            have hbs := hb.size
            simp only [size_setCell] at hd hbs
            have hf : Fr (Own W.heap.size (W.heap.size + 1) wr.heap.size w6.heap.size) w6 W1 := (HFM.out.trans (Fr.setCell _ _ _ (fun _ => .inr (.inr ⟨Nat.le_succ_of_le hs66, Nat.le_refl _⟩)))).trans (.of_below hb)
            have hfs := HFM.out.size
            refine ⟨⟨hf.cell HL6.out.box (by unfold Own; simp; omega), fun j hj => hf.cell (HL6.out.cells j hj) (by unfold Own; simp; omega)⟩, by omega, fun h => ?_, fun h => ?_⟩
            · rcases hd _ h with h | h
              · unfold Own at h; omega
              · omega
            · rcases hd _ h with h | h
              · unfold Own at h; omega
              · omega
          case body3 =>
            rintro l pre x W' D hi hDl hx hhand hle
            have hs := hi.2.1
            have hcw := heap_cell hs.wa 0
            have hcn := heap_cell hs.no 0
            have hfn := heap_free hs.no 0
            have hcr := heap_cell hs.re 0
            have hfr := heap_free hs.re 0
            simp only [List.getElem?_cons_zero] at hcw hcn hcr
            have hxl := hx.2
            have hple : pre.length ≤ (subsL xs).length := by have := hi.2.2.length_le; simpa using this
            by_cases hlt' : pre.length < (subsL xs).length
            · obtain ⟨ad, A0, c0, rfl, hcrow, hc0, hC0⟩ := hs.row hlt'
              obtain ⟨ki, hki⟩ := ints_pure x.2 ((subsL xs)[pre.length]) (by omega)
              have HK := Lib.hid (sextantlaw03_ints.calls ki (some ⟨x.1, 0, none⟩) x.2.length x.2 A0 c0 ((subsL xs)[pre.length]) _ W' (reads_row (by omega) hx.1) (Nat.le_refl _) hC0 hc0 hki)
              have HI := Lib.hid hi
              have HD := Lib.hid hDl
              have hd1 : decide ((subsL xs).length ≤ pre.length) = false := decide_eq_false (by omega)
              have hd2 : decide (((subsL xs).length : Int) ≤ (pre.length : Int)) = false := decide_eq_false (by omega)
              by_cases hq : x.2 = (subsL xs)[pre.length]
              · have hqt : decide (x.2 = (subsL xs)[pre.length]) = true := decide_eq_true hq
                rw [hqt] at HK
                have HQ := Lib.hid hq
                have hle2 := subsL_le xs
                have he : (pre.length : Int) + 1 = ((pre.length + 1 : Nat) : Int) := by omega
                have HE := Lib.hid he
                clear hi hs hDl hx hki hC0 hqt hq he
                gi_wp2_with fail
                refine ⟨trivial, ?_⟩
                refine (CallsIn.inRound l (callsIn_wide (n := 0).2 HK.out)).mono ?_
                rintro e w' ⟨rfl, ⟨⟨m, rfl⟩⟩⟩
                gi_wp2
                rw [HE.out]
                exact Bs_good hs66 (by omega) (by omega) HI.out HD.out (Fr.drewN _ W' m) (fun h => hhand x.1 rfl h) hlt' HQ.out
              · have hqf : decide (x.2 = (subsL xs)[pre.length]) = false := decide_eq_false hq
                rw [hqf] at HK
                clear hi hs hDl hx hki hC0
                gi_wp2_with (first | (refine ⟨trivial, ?_⟩; gi_at_call 11; refine (CallsIn.inRound l (callsIn_wide (n := 0).2 HK.out)).mono ?_; rintro e w' ⟨rfl, ⟨⟨m, rfl⟩⟩⟩))
                exact Bs_bad HI.out HD.out m _ (fun _ => hq)
            · have hpe : pre.length = (subsL xs).length := by omega
              have hd1 : decide ((subsL xs).length ≤ pre.length) = true := decide_eq_true (by omega)
              have hd2 : decide (((subsL xs).length : Int) ≤ (pre.length : Int)) = true := decide_eq_true (by omega)
              have HI := Lib.hid hi
              have HD := Lib.hid hDl
              clear hi hs hDl hx
              gi_wp2_with fail
              refine ⟨trivial, ?_⟩
              gi_wp2_with fail
              have hb := Bs_bad (x := x) HI.out HD.out 0 (.bool false) (fun hn => absurd hn (by omega))
              rw [drewN_zero] at hb
              exact hb
          case done3 =>
            rintro ys Wd D hS ⟨hD, hsb, _⟩ hfd hdef _ _
            simp only [size_setCell] at hdef
            have hyl : ys.length = (subsL xs).length := by rw [← hS]; simp
            rw [hyl] at hsb
            refine ⟨hsb, (Fr.setCell _ _ _ (fun _ => .inr (.inr ⟨Nat.le_succ_of_le hs66, Nat.le_refl _⟩))).trans hfd, hdef⟩
          case brk3 => exact fun _ _ _ _ h => h.elim
          case ret3 => exact fun pre W' D hp hr _ _ _ _ => absurd hp hr
          case mid3 =>
            rintro Wq ⟨hsb, hfq, hdq⟩
            have hcn := heap_cell hsb.no 0
            have hcw := heap_cell hsb.wa 0
            have hcr := heap_cell hsb.re 0
            have hfr := heap_free hsb.re 0
            simp only [List.getElem?_cons_zero] at hcn hcw hcr
            have HSQ := Lib.hid hsb
            have HFQ := Lib.hid hfq
            have HDQ := Lib.hid hdq
            clear hsb hfq hdq
            by_cases hbig : 10 < xs.length
            · gi_wp2
              have hne : w6.heap.size + 2 ≠ Wm.heap.size := by omega
              have hd1 : (Wq.setCell ⟨W.heap.size + 1, 0, none⟩ (.bool true)).heap[Wm.heap.size]? = some (.deferred (some [])) := (Below.heap_setCell _ _ _ _ (by show Wm.heap.size ≠ W.heap.size + 1; omega)).trans HDQ.out
              have hd2 : (Wq.setCell ⟨W.heap.size + 1, 0, none⟩ (.bool true)).heap[w6.heap.size + 2]? = some (.deferred (some [])) := (Below.heap_setCell _ _ _ _ (by show w6.heap.size + 2 ≠ W.heap.size + 1; omega)).trans ((HFQ.out.block _ hdlt (by unfold Own; omega)).trans HDM.out)
              refine ⟨by simp, .inl ⟨_, _, rfl, run_takeDeferred hd1, ?_⟩⟩
              refine ⟨by simp, .inl ⟨_, _, rfl, run_takeDeferred ((World.putObj_heap_other hne).trans hd2), ?_⟩⟩
              refine ⟨.bool true, results_cell_one rfl _ _ ⟨W.heap.size + 1, 0, none⟩ (.bool true) rfl Tryd.underlying4 rfl ?_, rfl, ?_⟩
              · have h9 : (((Wq.setCell ⟨W.heap.size + 1, 0, none⟩ (.bool true)).putObj Wm.heap.size (.deferred none)).putObj (w6.heap.size + 2) (.deferred none)).heap[W.heap.size + 1]? = some (.cells #[.bool true] 4 (0, 0)) :=
                  (World.putObj_heap_other (by omega)).trans ((World.putObj_heap_other (by omega)).trans (heap_set_same HSQ.out.re 0 _))
                exact heap_cell (cs := [.bool true]) h9 0
              · refine below_putObj (below_putObj ?_ _ _ (by omega)) _ _ (by omega)
                have hA : Below W.heap.size W w6 := (HB5.out.trans (HF.out.below' (B := W.heap.size) (fun k hk => by omega))).trans (HB6.out.mono (by omega))
                have hB : Below W.heap.size W Wm := hA.trans ((HFM.out.below' (B := W.heap.size) (fun k hk => by unfold Own; omega)))
                exact hB.trans (((HFQ.out.trans (Fr.setCell _ _ _ (fun _ => .inr (.inl rfl)))).below' (B := W.heap.size) (fun k hk => by unfold Own; omega)))
            · have hpw := subsL_small (xs := xs) (by omega)
              have hpv := pow_val (n := xs.length) (by omega)
              have HPV := Lib.hid hpv
              clear hpv
              gi_wp2
              rw [HPV.out]
              have hne : w6.heap.size + 2 ≠ Wm.heap.size := by omega
              have hd1 : (Wq.setCell ⟨W.heap.size + 1, 0, none⟩ (.bool true)).heap[Wm.heap.size]? = some (.deferred (some [])) := (Below.heap_setCell _ _ _ _ (by show Wm.heap.size ≠ W.heap.size + 1; omega)).trans HDQ.out
              have hd2 : (Wq.setCell ⟨W.heap.size + 1, 0, none⟩ (.bool true)).heap[w6.heap.size + 2]? = some (.deferred (some [])) := (Below.heap_setCell _ _ _ _ (by show w6.heap.size + 2 ≠ W.heap.size + 1; omega)).trans ((HFQ.out.block _ hdlt (by unfold Own; omega)).trans HDM.out)
              refine ⟨by simp, .inl ⟨_, _, rfl, run_takeDeferred hd1, ?_⟩⟩
              refine ⟨by simp, .inl ⟨_, _, rfl, run_takeDeferred ((World.putObj_heap_other hne).trans hd2), ?_⟩⟩
              refine ⟨.bool true, results_cell_one rfl _ _ ⟨W.heap.size + 1, 0, none⟩ (.bool true) rfl Tryd.underlying4 rfl ?_, rfl, ?_⟩
              · have h9 : (((Wq.setCell ⟨W.heap.size + 1, 0, none⟩ (.bool true)).putObj Wm.heap.size (.deferred none)).putObj (w6.heap.size + 2) (.deferred none)).heap[W.heap.size + 1]? = some (.cells #[.bool true] 4 (0, 0)) :=
                  (World.putObj_heap_other (by omega)).trans ((World.putObj_heap_other (by omega)).trans (heap_set_same HSQ.out.re 0 _))
                exact heap_cell (cs := [.bool true]) h9 0
              · refine below_putObj (below_putObj ?_ _ _ (by omega)) _ _ (by omega)
                have hA : Below W.heap.size W w6 := (HB5.out.trans (HF.out.below' (B := W.heap.size) (fun k hk => by omega))).trans (HB6.out.mono (by omega))
                have hB : Below W.heap.size W Wm := hA.trans ((HFM.out.below' (B := W.heap.size) (fun k hk => by unfold Own; omega)))
                exact hB.trans (((HFQ.out.trans (Fr.setCell _ _ _ (fun _ => .inr (.inl rfl)))).below' (B := W.heap.size) (fun k hk => by unfold Own; omega)))
      case ret => exact fun pre W' D hp hr _ _ _ _ => absurd hp hr
end Go.Proofs.YthfapneifbjlmaaDoor
