/-
  No cell of these rows narrows 'for every input' (looked for: loops, veiled, ifaces, maps, wideKeys, modest, calm, conditions, laid).
  DERIVED. THE GIVEN ROWS OF THIS SEAT. 3 by the template 'for every input the law returns true; each argument reads behind the call as it read before'; 0 by the template 'total and deterministic' (their statements: YtmfgcdfemhaieaaTotals.lean).
  GIVEN WITH THE SEED: the statements are not yours to turn. If you find one false, say at which input.
  Laid BY PROGRAM, IN A SANDBOX (cutbox-rows.mjs): the forced cells as the released guide's own fill.sh prints them over the translation 0af5d4c570f45aa2… (all of the seat's roots in one cut). By AI agents, Wed Nov 11 2026. No macro, syntax, notation, axiom, sorry.
-/
import Derived.Test.YtmfgcdfemhaieaaChecked
import GoSem.Claim
import GoSem.ClaimJoined
import GoSem.ClaimMapViews
import Derived.JoinedTies
import Derived.KernelRfl
namespace Go.Proofs.Ytmfgcdfemhaieaa
/- THE CELL 'sum', in the pinned program and in every row, IS THE sha256 OF THE DUMP (.gsa) THAT YtmfgcdfemhaieaaProg.lean LOADS. Nothing in Lean hashes anything: it is a label: what it is worth is what the hold of that sum in a sandbox is worth. -/
noncomputable def Try.pinned : Pinned := { name := "ytmfgcdfemhaieaa", sum := "0af5d4c570f45aa2d66b1e3dd8fee1558590e39c4c6815aa394187e9e28ed143", checked := Try.checked }
namespace Rows
def none {H : Type} : Left H := { results := [], args := [] }

/-- 'haversacklaw20.FetchServed': WHATEVER THE INPUT: true; the input reads as it did. -/
def fetchServedSpec : ChangeSpec := { name := "fetchServed", fn := fun _ => fun
  | [d1, d2] => { results := [.lit (.bool true)], args := [d1, d2] }
  | _ => none }
def fetchServedRow : OpenClaim := { program := "ytmfgcdfemhaieaa", sum := "0af5d4c570f45aa2d66b1e3dd8fee1558590e39c4c6815aa394187e9e28ed143", func := "haversack/haversacklaw20.FetchServed", spec := "fetchServed", apart := false }
def FetchServedSaid : Prop := fetchServedRow.holds Try.pinned (OpenSpec.ofChange fetchServedSpec)

/-- ITS FALSE NEIGHBOUR: 'it returns false'. Refute it at one input. -/
def fetchServedWrong : ChangeSpec := { name := "fetchServed", fn := fun _ => fun
  | [d1, d2] => { results := [.lit (.bool false)], args := [d1, d2] }
  | _ => none }
def FetchServedWrongFalsely : Prop := fetchServedRow.holds Try.pinned (OpenSpec.ofChange fetchServedWrong)

/-- 'haversacklaw20.FetchOpens': WHATEVER THE INPUT: true; the input reads as it did. -/
def fetchOpensSpec : ChangeSpec := { name := "fetchOpens", fn := fun _ => fun
  | [d1, d2, d3, d4, d5, d6] => { results := [.lit (.bool true)], args := [d1, d2, d3, d4, d5, d6] }
  | _ => none }
def fetchOpensRow : OpenClaim := { program := "ytmfgcdfemhaieaa", sum := "0af5d4c570f45aa2d66b1e3dd8fee1558590e39c4c6815aa394187e9e28ed143", func := "haversack/haversacklaw20.FetchOpens", spec := "fetchOpens", unfollowed := true, recurses := true, apart := false }
def FetchOpensSaid : Prop := fetchOpensRow.holds Try.pinned (OpenSpec.ofChange fetchOpensSpec)

/-- ITS FALSE NEIGHBOUR: 'it returns false'. Refute it at one input. -/
def fetchOpensWrong : ChangeSpec := { name := "fetchOpens", fn := fun _ => fun
  | [d1, d2, d3, d4, d5, d6] => { results := [.lit (.bool false)], args := [d1, d2, d3, d4, d5, d6] }
  | _ => none }
def FetchOpensWrongFalsely : Prop := fetchOpensRow.holds Try.pinned (OpenSpec.ofChange fetchOpensWrong)

/-- 'haversacklaw20.FetchCuts': WHATEVER THE INPUT: true; the input reads as it did. -/
def fetchCutsSpec : ChangeSpec := { name := "fetchCuts", fn := fun _ => fun
  | [d1, d2, d3] => { results := [.lit (.bool true)], args := [d1, d2, d3] }
  | _ => none }
def fetchCutsRow : OpenClaim := { program := "ytmfgcdfemhaieaa", sum := "0af5d4c570f45aa2d66b1e3dd8fee1558590e39c4c6815aa394187e9e28ed143", func := "haversack/haversacklaw20.FetchCuts", spec := "fetchCuts", unfollowed := true, recurses := true, apart := false }
def FetchCutsSaid : Prop := fetchCutsRow.holds Try.pinned (OpenSpec.ofChange fetchCutsSpec)

/-- ITS FALSE NEIGHBOUR: 'it returns false'. Refute it at one input. -/
def fetchCutsWrong : ChangeSpec := { name := "fetchCuts", fn := fun _ => fun
  | [d1, d2, d3] => { results := [.lit (.bool false)], args := [d1, d2, d3] }
  | _ => none }
def FetchCutsWrongFalsely : Prop := fetchCutsRow.holds Try.pinned (OpenSpec.ofChange fetchCutsWrong)

/- THE SECOND FORM. 'bulk': how many values and letters a reading holds, each counted each time it is reached (what is shared counts as often as it is met; a slice's spare places count too). A statement '..UptoSaid' is the law's where the arguments, and the package variables that the reading takes, are together of bulk at most 1048576: NARROWER than '..Said'. Prove '..Said' where nothing that the law and all that it calls make is longer than what came in: it says more and counts as full. Else prove '..UptoSaid'. A law counts once. -/
mutual
def uptoBulk {H : Type} : DataW H → Nat
  | .lit (.string bytes) => bytes.length + 1
  | .lit _ => 1
  | .nil => 1
  | .ptr d => uptoBulk d + 1
  | .slice elems spare => uptoBulkAll elems + uptoBulkAll spare + 1
  | .agg parts => uptoBulkAll parts + 1
  | .iface _ d => uptoBulk d + 1
  | .map entries => uptoBulkEntries entries + 1
  | .held _ => 1
def uptoBulkAll {H : Type} : List (DataW H) → Nat
  | [] => 0
  | d :: r => uptoBulk d + uptoBulkAll r
def uptoBulkEntries {H : Type} : List (Lit × DataW H) → Nat
  | [] => 0
  | x :: r => uptoBulkEntry x + uptoBulkEntries r
def uptoBulkEntry {H : Type} : Lit × DataW H → Nat
  | (.string bytes, d) => bytes.length + uptoBulk d + 1
  | (_, d) => uptoBulk d + 1
 end
def uptoSmall : (H : Type) → List (DataW H) → Bool := fun _ ds => decide (uptoBulkAll ds ≤ 1048576)
def OpenSpec.upto (s : _root_.Go.ChangeSpec) : _root_.Go.OpenSpec := { _root_.Go.OpenSpec.ofChange s with cond := some uptoSmall }

/-- 'haversacklaw20.FetchServed', WHERE WHAT IT READS IS OF BULK AT MOST 1048576: true; the input reads as it did. -/
def fetchServedUptoRow : OpenClaim := { program := "ytmfgcdfemhaieaa", sum := "0af5d4c570f45aa2d66b1e3dd8fee1558590e39c4c6815aa394187e9e28ed143", func := "haversack/haversacklaw20.FetchServed", spec := "fetchServed", apart := false, narrowed := true }
def FetchServedUptoSaid : Prop := fetchServedUptoRow.holds Try.pinned (OpenSpec.upto fetchServedSpec)

/-- 'haversacklaw20.FetchOpens', WHERE WHAT IT READS IS OF BULK AT MOST 1048576: true; the input reads as it did. -/
def fetchOpensUptoRow : OpenClaim := { program := "ytmfgcdfemhaieaa", sum := "0af5d4c570f45aa2d66b1e3dd8fee1558590e39c4c6815aa394187e9e28ed143", func := "haversack/haversacklaw20.FetchOpens", spec := "fetchOpens", unfollowed := true, recurses := true, apart := false, narrowed := true }
def FetchOpensUptoSaid : Prop := fetchOpensUptoRow.holds Try.pinned (OpenSpec.upto fetchOpensSpec)

/-- 'haversacklaw20.FetchCuts', WHERE WHAT IT READS IS OF BULK AT MOST 1048576: true; the input reads as it did. -/
def fetchCutsUptoRow : OpenClaim := { program := "ytmfgcdfemhaieaa", sum := "0af5d4c570f45aa2d66b1e3dd8fee1558590e39c4c6815aa394187e9e28ed143", func := "haversack/haversacklaw20.FetchCuts", spec := "fetchCuts", unfollowed := true, recurses := true, apart := false, narrowed := true }
def FetchCutsUptoSaid : Prop := fetchCutsUptoRow.holds Try.pinned (OpenSpec.upto fetchCutsSpec)

end Rows
end Go.Proofs.Ytmfgcdfemhaieaa
