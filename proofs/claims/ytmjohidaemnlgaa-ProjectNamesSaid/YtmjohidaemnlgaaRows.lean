/-
  NARROWER THAN 'FOR EVERY INPUT', by the rows' own cells (each row's printed sentence says how): ProjectParts: loops · ProjectAnswers: loops · ProjectAlike: loops · ProjectMerges: loops · ProjectCovers: loops · ProjectFound: loops · ProjectOrder: loops.
  DERIVED. THE GIVEN ROWS OF THIS SEAT. 8 by the template 'for every input the law returns true; each argument reads behind the call as it read before'; 0 by the template 'total and deterministic' (their statements: YtmjohidaemnlgaaTotals.lean).
  GIVEN WITH THE SEED: the statements are not yours to turn. If you find one false, say at which input.
  Laid BY PROGRAM, IN A SANDBOX (cutbox-rows.mjs): the forced cells as the released guide's own fill.sh prints them over the translation a5639e38096626b2… (all of the seat's roots in one cut). By AI agents, Wed Nov 11 2026. No macro, syntax, notation, axiom, sorry.
-/
import Derived.Test.YtmjohidaemnlgaaChecked
import GoSem.Claim
import GoSem.ClaimJoined
import GoSem.ClaimMapViews
import Derived.JoinedTies
import Derived.KernelRfl
namespace Go.Proofs.Ytmjohidaemnlgaa
/- THE CELL 'sum', in the pinned program and in every row, IS THE sha256 OF THE DUMP (.gsa) THAT YtmjohidaemnlgaaProg.lean LOADS. Nothing in Lean hashes anything: it is a label: what it is worth is what the hold of that sum in a sandbox is worth. -/
noncomputable def Try.pinned : Pinned := { name := "ytmjohidaemnlgaa", sum := "a5639e38096626b24dfc46be53a2b2385b774699334b8efe67756487b3ae0d84", checked := Try.checked }
namespace Rows
def none {H : Type} : Left H := { results := [], args := [] }

/-- 'sextantlaw08.ProjectNames': WHATEVER THE INPUT: true; the input reads as it did. -/
def projectNamesSpec : ChangeSpec := { name := "projectNames", fn := fun _ => fun
  | [] => { results := [.lit (.bool true)], args := [] }
  | _ => none }
def projectNamesRow : OpenClaim := { program := "ytmjohidaemnlgaa", sum := "a5639e38096626b24dfc46be53a2b2385b774699334b8efe67756487b3ae0d84", func := "sextant/sextantlaw08.ProjectNames", spec := "projectNames", plainKeys := false, apart := false }
def ProjectNamesSaid : Prop := projectNamesRow.holds Try.pinned (OpenSpec.ofChange projectNamesSpec)

/-- ITS FALSE NEIGHBOUR: 'it returns false'. Refute it at one input. -/
def projectNamesWrong : ChangeSpec := { name := "projectNames", fn := fun _ => fun
  | [] => { results := [.lit (.bool false)], args := [] }
  | _ => none }
def ProjectNamesWrongFalsely : Prop := projectNamesRow.holds Try.pinned (OpenSpec.ofChange projectNamesWrong)

/-- 'sextantlaw08.ProjectParts': WHATEVER THE INPUT: true; the input reads as it did. -/
def projectPartsSpec : ChangeSpec := { name := "projectParts", fn := fun _ => fun
  | [d1, d2] => { results := [.lit (.bool true)], args := [d1, d2] }
  | _ => none }
def projectPartsRow : OpenClaim := { program := "ytmjohidaemnlgaa", sum := "a5639e38096626b24dfc46be53a2b2385b774699334b8efe67756487b3ae0d84", func := "sextant/sextantlaw08.ProjectParts", spec := "projectParts", inPlace := ["internal/bytealg.abigen_runtime_cmpstring"], unfollowed := true, recurses := true, loops := true, plainKeys := false, apart := false }
def ProjectPartsSaid : Prop := projectPartsRow.holds Try.pinned (OpenSpec.ofChange projectPartsSpec)

/-- ITS FALSE NEIGHBOUR: 'it returns false'. Refute it at one input. -/
def projectPartsWrong : ChangeSpec := { name := "projectParts", fn := fun _ => fun
  | [d1, d2] => { results := [.lit (.bool false)], args := [d1, d2] }
  | _ => none }
def ProjectPartsWrongFalsely : Prop := projectPartsRow.holds Try.pinned (OpenSpec.ofChange projectPartsWrong)

/-- 'sextantlaw08.ProjectAnswers': WHATEVER THE INPUT: true; the input reads as it did. -/
def projectAnswersSpec : ChangeSpec := { name := "projectAnswers", fn := fun _ => fun
  | [d1, d2] => { results := [.lit (.bool true)], args := [d1, d2] }
  | _ => none }
def projectAnswersRow : OpenClaim := { program := "ytmjohidaemnlgaa", sum := "a5639e38096626b24dfc46be53a2b2385b774699334b8efe67756487b3ae0d84", func := "sextant/sextantlaw08.ProjectAnswers", spec := "projectAnswers", inPlace := ["internal/bytealg.abigen_runtime_cmpstring"], unfollowed := true, recurses := true, loops := true, plainKeys := false, apart := false }
def ProjectAnswersSaid : Prop := projectAnswersRow.holds Try.pinned (OpenSpec.ofChange projectAnswersSpec)

/-- ITS FALSE NEIGHBOUR: 'it returns false'. Refute it at one input. -/
def projectAnswersWrong : ChangeSpec := { name := "projectAnswers", fn := fun _ => fun
  | [d1, d2] => { results := [.lit (.bool false)], args := [d1, d2] }
  | _ => none }
def ProjectAnswersWrongFalsely : Prop := projectAnswersRow.holds Try.pinned (OpenSpec.ofChange projectAnswersWrong)

/-- 'sextantlaw08.ProjectAlike': WHATEVER THE INPUT: true; the input reads as it did. -/
def projectAlikeSpec : ChangeSpec := { name := "projectAlike", fn := fun _ => fun
  | [d1, d2] => { results := [.lit (.bool true)], args := [d1, d2] }
  | _ => none }
def projectAlikeRow : OpenClaim := { program := "ytmjohidaemnlgaa", sum := "a5639e38096626b24dfc46be53a2b2385b774699334b8efe67756487b3ae0d84", func := "sextant/sextantlaw08.ProjectAlike", spec := "projectAlike", inPlace := ["internal/bytealg.abigen_runtime_cmpstring"], unfollowed := true, recurses := true, loops := true, plainKeys := false, apart := false }
def ProjectAlikeSaid : Prop := projectAlikeRow.holds Try.pinned (OpenSpec.ofChange projectAlikeSpec)

/-- ITS FALSE NEIGHBOUR: 'it returns false'. Refute it at one input. -/
def projectAlikeWrong : ChangeSpec := { name := "projectAlike", fn := fun _ => fun
  | [d1, d2] => { results := [.lit (.bool false)], args := [d1, d2] }
  | _ => none }
def ProjectAlikeWrongFalsely : Prop := projectAlikeRow.holds Try.pinned (OpenSpec.ofChange projectAlikeWrong)

/-- 'sextantlaw08.ProjectMerges': WHATEVER THE INPUT: true; the input reads as it did. -/
def projectMergesSpec : ChangeSpec := { name := "projectMerges", fn := fun _ => fun
  | [d1, d2, d3] => { results := [.lit (.bool true)], args := [d1, d2, d3] }
  | _ => none }
def projectMergesRow : OpenClaim := { program := "ytmjohidaemnlgaa", sum := "a5639e38096626b24dfc46be53a2b2385b774699334b8efe67756487b3ae0d84", func := "sextant/sextantlaw08.ProjectMerges", spec := "projectMerges", inPlace := ["internal/bytealg.abigen_runtime_cmpstring"], unfollowed := true, recurses := true, loops := true, plainKeys := false, apart := false }
def ProjectMergesSaid : Prop := projectMergesRow.holds Try.pinned (OpenSpec.ofChange projectMergesSpec)

/-- ITS FALSE NEIGHBOUR: 'it returns false'. Refute it at one input. -/
def projectMergesWrong : ChangeSpec := { name := "projectMerges", fn := fun _ => fun
  | [d1, d2, d3] => { results := [.lit (.bool false)], args := [d1, d2, d3] }
  | _ => none }
def ProjectMergesWrongFalsely : Prop := projectMergesRow.holds Try.pinned (OpenSpec.ofChange projectMergesWrong)

/-- 'sextantlaw08.ProjectCovers': WHATEVER THE INPUT: true; the input reads as it did. -/
def projectCoversSpec : ChangeSpec := { name := "projectCovers", fn := fun _ => fun
  | [d] => { results := [.lit (.bool true)], args := [d] }
  | _ => none }
def projectCoversRow : OpenClaim := { program := "ytmjohidaemnlgaa", sum := "a5639e38096626b24dfc46be53a2b2385b774699334b8efe67756487b3ae0d84", func := "sextant/sextantlaw08.ProjectCovers", spec := "projectCovers", inPlace := ["internal/bytealg.abigen_runtime_cmpstring"], unfollowed := true, recurses := true, loops := true, plainKeys := false, apart := false }
def ProjectCoversSaid : Prop := projectCoversRow.holds Try.pinned (OpenSpec.ofChange projectCoversSpec)

/-- ITS FALSE NEIGHBOUR: 'it returns false'. Refute it at one input. -/
def projectCoversWrong : ChangeSpec := { name := "projectCovers", fn := fun _ => fun
  | [d] => { results := [.lit (.bool false)], args := [d] }
  | _ => none }
def ProjectCoversWrongFalsely : Prop := projectCoversRow.holds Try.pinned (OpenSpec.ofChange projectCoversWrong)

/-- 'sextantlaw08.ProjectFound': WHATEVER THE INPUT: true; the input reads as it did. -/
def projectFoundSpec : ChangeSpec := { name := "projectFound", fn := fun _ => fun
  | [d] => { results := [.lit (.bool true)], args := [d] }
  | _ => none }
def projectFoundRow : OpenClaim := { program := "ytmjohidaemnlgaa", sum := "a5639e38096626b24dfc46be53a2b2385b774699334b8efe67756487b3ae0d84", func := "sextant/sextantlaw08.ProjectFound", spec := "projectFound", inPlace := ["internal/bytealg.abigen_runtime_cmpstring"], unfollowed := true, recurses := true, loops := true, plainKeys := false, apart := false }
def ProjectFoundSaid : Prop := projectFoundRow.holds Try.pinned (OpenSpec.ofChange projectFoundSpec)

/-- ITS FALSE NEIGHBOUR: 'it returns false'. Refute it at one input. -/
def projectFoundWrong : ChangeSpec := { name := "projectFound", fn := fun _ => fun
  | [d] => { results := [.lit (.bool false)], args := [d] }
  | _ => none }
def ProjectFoundWrongFalsely : Prop := projectFoundRow.holds Try.pinned (OpenSpec.ofChange projectFoundWrong)

/-- 'sextantlaw08.ProjectOrder': WHATEVER THE INPUT: true; the input reads as it did. -/
def projectOrderSpec : ChangeSpec := { name := "projectOrder", fn := fun _ => fun
  | [d1, d2, d3] => { results := [.lit (.bool true)], args := [d1, d2, d3] }
  | _ => none }
def projectOrderRow : OpenClaim := { program := "ytmjohidaemnlgaa", sum := "a5639e38096626b24dfc46be53a2b2385b774699334b8efe67756487b3ae0d84", func := "sextant/sextantlaw08.ProjectOrder", spec := "projectOrder", inPlace := ["internal/bytealg.abigen_runtime_cmpstring"], unfollowed := true, recurses := true, loops := true, plainKeys := false, apart := false }
def ProjectOrderSaid : Prop := projectOrderRow.holds Try.pinned (OpenSpec.ofChange projectOrderSpec)

/-- ITS FALSE NEIGHBOUR: 'it returns false'. Refute it at one input. -/
def projectOrderWrong : ChangeSpec := { name := "projectOrder", fn := fun _ => fun
  | [d1, d2, d3] => { results := [.lit (.bool false)], args := [d1, d2, d3] }
  | _ => none }
def ProjectOrderWrongFalsely : Prop := projectOrderRow.holds Try.pinned (OpenSpec.ofChange projectOrderWrong)

/- THE SECOND FORM. 'bulk': how many values and letters a reading holds, each counted each time it is reached (what is shared counts as often as it is met; a slice's spare places count too). A statement '..UptoSaid' is the law's where the arguments, and the package variables that the reading takes, are together of bulk at most 1048576: NARROWER than '..Said'. Prove '..Said' where nothing that the law and all that it calls make is longer than what came in: it says more and counts as full. Else prove '..UptoSaid'. A law counts once. -/
mutual
def uptoBulk {H : Type} : DataW H → Nat
  | .lit (.string bytes) => bytes.length + 1
  | .lit _ => 1
  | .nil => 1
  | .ptr d => uptoBulk d + 1
  | .slice elems spare => uptoBulkAll elems + uptoBulkAll spare + 1
  | .agg parts => uptoBulkAll parts + 1
  | .iface _ d => uptoBulk d + 1
  | .map entries => uptoBulkEntries entries + 1
  | .held _ => 1
def uptoBulkAll {H : Type} : List (DataW H) → Nat
  | [] => 0
  | d :: r => uptoBulk d + uptoBulkAll r
def uptoBulkEntries {H : Type} : List (Lit × DataW H) → Nat
  | [] => 0
  | x :: r => uptoBulkEntry x + uptoBulkEntries r
def uptoBulkEntry {H : Type} : Lit × DataW H → Nat
  | (.string bytes, d) => bytes.length + uptoBulk d + 1
  | (_, d) => uptoBulk d + 1
 end
def uptoSmall : (H : Type) → List (DataW H) → Bool := fun _ ds => decide (uptoBulkAll ds ≤ 1048576)
def OpenSpec.upto (s : _root_.Go.ChangeSpec) : _root_.Go.OpenSpec := { _root_.Go.OpenSpec.ofChange s with cond := some uptoSmall }

/-- 'sextantlaw08.ProjectNames', WHERE WHAT IT READS IS OF BULK AT MOST 1048576: true; the input reads as it did. -/
def projectNamesUptoRow : OpenClaim := { program := "ytmjohidaemnlgaa", sum := "a5639e38096626b24dfc46be53a2b2385b774699334b8efe67756487b3ae0d84", func := "sextant/sextantlaw08.ProjectNames", spec := "projectNames", plainKeys := false, apart := false, narrowed := true }
def ProjectNamesUptoSaid : Prop := projectNamesUptoRow.holds Try.pinned (OpenSpec.upto projectNamesSpec)

/-- 'sextantlaw08.ProjectParts', WHERE WHAT IT READS IS OF BULK AT MOST 1048576: true; the input reads as it did. -/
def projectPartsUptoRow : OpenClaim := { program := "ytmjohidaemnlgaa", sum := "a5639e38096626b24dfc46be53a2b2385b774699334b8efe67756487b3ae0d84", func := "sextant/sextantlaw08.ProjectParts", spec := "projectParts", inPlace := ["internal/bytealg.abigen_runtime_cmpstring"], unfollowed := true, recurses := true, loops := true, plainKeys := false, apart := false, narrowed := true }
def ProjectPartsUptoSaid : Prop := projectPartsUptoRow.holds Try.pinned (OpenSpec.upto projectPartsSpec)

/-- 'sextantlaw08.ProjectAnswers', WHERE WHAT IT READS IS OF BULK AT MOST 1048576: true; the input reads as it did. -/
def projectAnswersUptoRow : OpenClaim := { program := "ytmjohidaemnlgaa", sum := "a5639e38096626b24dfc46be53a2b2385b774699334b8efe67756487b3ae0d84", func := "sextant/sextantlaw08.ProjectAnswers", spec := "projectAnswers", inPlace := ["internal/bytealg.abigen_runtime_cmpstring"], unfollowed := true, recurses := true, loops := true, plainKeys := false, apart := false, narrowed := true }
def ProjectAnswersUptoSaid : Prop := projectAnswersUptoRow.holds Try.pinned (OpenSpec.upto projectAnswersSpec)

/-- 'sextantlaw08.ProjectAlike', WHERE WHAT IT READS IS OF BULK AT MOST 1048576: true; the input reads as it did. -/
def projectAlikeUptoRow : OpenClaim := { program := "ytmjohidaemnlgaa", sum := "a5639e38096626b24dfc46be53a2b2385b774699334b8efe67756487b3ae0d84", func := "sextant/sextantlaw08.ProjectAlike", spec := "projectAlike", inPlace := ["internal/bytealg.abigen_runtime_cmpstring"], unfollowed := true, recurses := true, loops := true, plainKeys := false, apart := false, narrowed := true }
def ProjectAlikeUptoSaid : Prop := projectAlikeUptoRow.holds Try.pinned (OpenSpec.upto projectAlikeSpec)

/-- 'sextantlaw08.ProjectMerges', WHERE WHAT IT READS IS OF BULK AT MOST 1048576: true; the input reads as it did. -/
def projectMergesUptoRow : OpenClaim := { program := "ytmjohidaemnlgaa", sum := "a5639e38096626b24dfc46be53a2b2385b774699334b8efe67756487b3ae0d84", func := "sextant/sextantlaw08.ProjectMerges", spec := "projectMerges", inPlace := ["internal/bytealg.abigen_runtime_cmpstring"], unfollowed := true, recurses := true, loops := true, plainKeys := false, apart := false, narrowed := true }
def ProjectMergesUptoSaid : Prop := projectMergesUptoRow.holds Try.pinned (OpenSpec.upto projectMergesSpec)

/-- 'sextantlaw08.ProjectCovers', WHERE WHAT IT READS IS OF BULK AT MOST 1048576: true; the input reads as it did. -/
def projectCoversUptoRow : OpenClaim := { program := "ytmjohidaemnlgaa", sum := "a5639e38096626b24dfc46be53a2b2385b774699334b8efe67756487b3ae0d84", func := "sextant/sextantlaw08.ProjectCovers", spec := "projectCovers", inPlace := ["internal/bytealg.abigen_runtime_cmpstring"], unfollowed := true, recurses := true, loops := true, plainKeys := false, apart := false, narrowed := true }
def ProjectCoversUptoSaid : Prop := projectCoversUptoRow.holds Try.pinned (OpenSpec.upto projectCoversSpec)

/-- 'sextantlaw08.ProjectFound', WHERE WHAT IT READS IS OF BULK AT MOST 1048576: true; the input reads as it did. -/
def projectFoundUptoRow : OpenClaim := { program := "ytmjohidaemnlgaa", sum := "a5639e38096626b24dfc46be53a2b2385b774699334b8efe67756487b3ae0d84", func := "sextant/sextantlaw08.ProjectFound", spec := "projectFound", inPlace := ["internal/bytealg.abigen_runtime_cmpstring"], unfollowed := true, recurses := true, loops := true, plainKeys := false, apart := false, narrowed := true }
def ProjectFoundUptoSaid : Prop := projectFoundUptoRow.holds Try.pinned (OpenSpec.upto projectFoundSpec)

/-- 'sextantlaw08.ProjectOrder', WHERE WHAT IT READS IS OF BULK AT MOST 1048576: true; the input reads as it did. -/
def projectOrderUptoRow : OpenClaim := { program := "ytmjohidaemnlgaa", sum := "a5639e38096626b24dfc46be53a2b2385b774699334b8efe67756487b3ae0d84", func := "sextant/sextantlaw08.ProjectOrder", spec := "projectOrder", inPlace := ["internal/bytealg.abigen_runtime_cmpstring"], unfollowed := true, recurses := true, loops := true, plainKeys := false, apart := false, narrowed := true }
def ProjectOrderUptoSaid : Prop := projectOrderUptoRow.holds Try.pinned (OpenSpec.upto projectOrderSpec)

end Rows
end Go.Proofs.Ytmjohidaemnlgaa
