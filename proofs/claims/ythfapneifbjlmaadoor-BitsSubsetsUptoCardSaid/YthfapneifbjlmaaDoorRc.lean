/- A result that lies in memory, of one cell; powers. -/
import Derived.Test.YthfapneifbjlmaaDoorJ
namespace Go.Proofs.YthfapneifbjlmaaDoor
open Go.RowKit Go.Shelf
set_option linter.unusedVariables false
set_option linter.unusedSimpArgs false
theorem results_cell_one {P : Program} {fn : Func} {p : Tmp} {ty : TypeId} {d : TypeDesc} (h : fn.results = #[.cell p ty]) (tmps : Array Value) (w : World) (a : Addr) (v : Value)
    (hp : tmps.getD p undef = .pointer (some a)) (hu : P.underlying ty = some d) (hd : (match d with | .struct _ | .array _ _ => true | _ => false) = false) (hc : w.cell? a = some v) :
    (results fn tmps).run P w = .ok v w := by
  have hp' : tmps[p]?.getD undef = .pointer (some a) := by simpa using hp
  have hag : (isAgg ty).run P w = .ok false w := by
    simp only [isAgg, Sem.run_bind, run_underlying hu, Result.andThen_ok, Sem.run_pure]
    revert hd
    cases d <;> simp
  simp [results, h, hp', asAddr, loadVar, Sem.run_bind, hag, hc]
theorem pow_vals : ∀ n : Fin 11, (decide ((10 : Int) < (n.val : Int)) || (((2 ^ n.val - 1 : Nat) : Int) == wrap64 (wrap64 ((2 : Int) ^ n.val) - 1))) = true := by decide +kernel
theorem pow_val {n : Nat} (h : n ≤ 10) : (decide ((10 : Int) < (n : Int)) || (((2 ^ n - 1 : Nat) : Int) == wrap64 (wrap64 ((2 : Int) ^ n) - 1))) = true := pow_vals ⟨n, by omega⟩
end Go.Proofs.YthfapneifbjlmaaDoor
