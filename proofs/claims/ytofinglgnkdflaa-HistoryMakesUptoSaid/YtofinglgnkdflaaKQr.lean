/- The reference of layer 7: Events: its row, its own law. -/
import Derived.Test.YtofinglgnkdflaaKQq
import Derived.Test.YtofinglgnkdflaaKXG
namespace Go.Proofs.Ytofinglgnkdflaa
open Go.RowKit
open Go.Proofs.Ytofinglgnkdflaa.PHistoryChecks Go.Proofs.YtofinglgnkdflaaW.PrintWords Go.Proofs.YtofinglgnkdflaaW.PrintLast Go.Proofs.YtofinglgnkdflaaW.PrintMore
set_option linter.unusedVariables false
set_option linter.unusedSimpArgs false
def RowX (w : World) (g : Nat) (xs : List S47) : Prop := Blk 12 47 w g xs.length xs.length (fun j c => ∃ x, xs[j]? = some x ∧ Kd.FK k47 w (fun k => k ≠ g) x c)
theorem fk_step {w w1 : World} {g : Nat} {x : S47} {c : List Value} (h : Kd.FK k47 w (fun k => k ≠ g) x c) (hm : ∀ k, k ≠ g → k < w.heap.size → w1.heap[k]? = w.heap[k]?) : Kd.FK k47 w1 (fun k => k ≠ g) x c := Foot.step h hm
theorem RowX.below {w w1 : World} {g : Nat} {xs : List S47} (h : RowX w g xs) (hb : Below w.heap.size w w1) : RowX w1 g xs :=
  (Blk.move h (hb.block g h.lt)).imp fun j c _ hp => by
    obtain ⟨x, hx, hf⟩ := hp
    exact ⟨x, hx, fk_step hf (fun k _ hk => hb.block k hk)⟩
theorem RowX.C {w : World} {g : Nat} {xs : List S47} (h : RowX w g xs) : Kd.C k47 w (some ⟨g, 0, none⟩) xs.length xs := by
  obtain ⟨cur, h1, h2, h3, h4, h5⟩ := h
  have hml : maxLen ≤ 9223372036854775807 := by decide
  have ea : ∀ k, Addr.add ⟨g, 0, none⟩ k = ⟨g, k, none⟩ := by intro k; cases k <;> simp [Addr.add]
  refine ⟨rfl, by omega, fun hp => ⟨⟨g, 0, none⟩, rfl, fun j p hj => ?_⟩⟩
  have hjl : j < xs.length := by have := (List.getElem?_eq_some_iff.1 hj).1; omega
  obtain ⟨c, hc, x, hx, hK⟩ := h5 j hjl
  rw [hj] at hx
  cases hx
  refine ⟨c, hc.1, Kd.FK_now hK, fun i u hu => ?_⟩
  rw [ea]
  exact (blk_cell h1 (j * 12 + i)).trans (hc.2 i u hu)
theorem RowX.put {w : World} {g i : Nat} {xs : List S47} {x : S47} {A : Option Addr} {c : Nat} (h : RowX w g xs) (hi : i < xs.length) (hc : x.f4.f4.length ≤ c) (hF : Kd.F k43 w (fun k => k ≠ g) A x.f4.f4.length x.f4.f4) :
    RowX (setsW g (i * 12) (c47 x A c).toList w) g (xs.set i x) := by
  have far : ∀ k, k ≠ g → k < w.heap.size → (setsW g (i * 12) (c47 x A c).toList w).heap[k]? = w.heap[k]? := fun k hk hlt => (setsW_grown g _ _ w).block k hlt (by simp; omega)
  unfold RowX
  rw [List.length_set]
  refine Blk.sets h (c47 x A c).toList rfl ⟨x, by rw [List.getElem?_set, if_pos rfl, if_pos hi], fk_step (k47_mkF w (fun k => k ≠ g) x hc hF) far⟩ (fun j d hj hne hp => ?_)
  obtain ⟨y, hy, hf⟩ := hp
  exact ⟨y, by rw [List.getElem?_set, if_neg (fun e => hne e.symm)]; exact hy, fk_step hf far⟩
end Go.Proofs.Ytofinglgnkdflaa
