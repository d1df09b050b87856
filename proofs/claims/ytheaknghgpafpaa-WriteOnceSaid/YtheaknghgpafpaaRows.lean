/-
  No cell of these rows narrows 'for every input' (looked for: loops, veiled, ifaces, maps, wideKeys, modest, calm, conditions, laid).
  DERIVED. THE GIVEN ROWS OF THIS SEAT. 2 by the template 'for every input the law returns true; each argument reads behind the call as it read before'; 0 by the template 'total and deterministic' (their statements: YtheaknghgpafpaaTotals.lean).
  GIVEN WITH THE SEED: the statements are not yours to turn. If you find one false, say at which input.
  Laid BY PROGRAM, IN A SANDBOX (cutbox-rows.mjs): the forced cells as the released guide's own fill.sh prints them over the translation 856c6d463c27da52… (all of the seat's roots in one cut). By AI agents, Wed Nov 11 2026. No macro, syntax, notation, axiom, sorry.
-/
import Derived.Test.YtheaknghgpafpaaChecked
import GoSem.Claim
import GoSem.ClaimJoined
import GoSem.ClaimMapViews
import Derived.JoinedTies
import Derived.KernelRfl
namespace Go.Proofs.Ytheaknghgpafpaa
/- THE CELL 'sum', in the pinned program and in every row, IS THE sha256 OF THE DUMP (.gsa) THAT YtheaknghgpafpaaProg.lean LOADS. Nothing in Lean hashes anything: it is a label: what it is worth is what the hold of that sum in a sandbox is worth. -/
noncomputable def Try.pinned : Pinned := { name := "ytheaknghgpafpaa", sum := "856c6d463c27da52e3cfd8076959b7e1703ec52c86f4e74da965f244211ad803", checked := Try.checked }
namespace Rows
def none {H : Type} : Left H := { results := [], args := [] }

/-- 'cardinglaw26.WriteOnce': WHATEVER THE INPUT: true; the input reads as it did. -/
def writeOnceSpec : ChangeSpec := { name := "writeOnce", fn := fun _ => fun
  | [d1, d2] => { results := [.lit (.bool true)], args := [d1, d2] }
  | _ => none }
def writeOnceRow : OpenClaim := { program := "ytheaknghgpafpaa", sum := "856c6d463c27da52e3cfd8076959b7e1703ec52c86f4e74da965f244211ad803", func := "carding/cardinglaw26.WriteOnce", spec := "writeOnce", inPlace := ["internal/abi.NoEscape"], unfollowed := true, recurses := true, plainKeys := false, apart := false }
def WriteOnceSaid : Prop := writeOnceRow.holds Try.pinned (OpenSpec.ofChange writeOnceSpec)

/-- ITS FALSE NEIGHBOUR: 'it returns false'. Refute it at one input. -/
def writeOnceWrong : ChangeSpec := { name := "writeOnce", fn := fun _ => fun
  | [d1, d2] => { results := [.lit (.bool false)], args := [d1, d2] }
  | _ => none }
def WriteOnceWrongFalsely : Prop := writeOnceRow.holds Try.pinned (OpenSpec.ofChange writeOnceWrong)

/-- 'cardinglaw26.WriteGrows': WHATEVER THE INPUT: true; the input reads as it did. -/
def writeGrowsSpec : ChangeSpec := { name := "writeGrows", fn := fun _ => fun
  | [d] => { results := [.lit (.bool true)], args := [d] }
  | _ => none }
def writeGrowsRow : OpenClaim := { program := "ytheaknghgpafpaa", sum := "856c6d463c27da52e3cfd8076959b7e1703ec52c86f4e74da965f244211ad803", func := "carding/cardinglaw26.WriteGrows", spec := "writeGrows", inPlace := ["internal/abi.NoEscape"], unfollowed := true, recurses := true, plainKeys := false, apart := false }
def WriteGrowsSaid : Prop := writeGrowsRow.holds Try.pinned (OpenSpec.ofChange writeGrowsSpec)

/-- ITS FALSE NEIGHBOUR: 'it returns false'. Refute it at one input. -/
def writeGrowsWrong : ChangeSpec := { name := "writeGrows", fn := fun _ => fun
  | [d] => { results := [.lit (.bool false)], args := [d] }
  | _ => none }
def WriteGrowsWrongFalsely : Prop := writeGrowsRow.holds Try.pinned (OpenSpec.ofChange writeGrowsWrong)

/- THE SECOND FORM. 'bulk': how many values and letters a reading holds, each counted each time it is reached (what is shared counts as often as it is met; a slice's spare places count too). A statement '..UptoSaid' is the law's where the arguments, and the package variables that the reading takes, are together of bulk at most 1048576: NARROWER than '..Said'. Prove '..Said' where nothing that the law and all that it calls make is longer than what came in: it says more and counts as full. Else prove '..UptoSaid'. A law counts once. -/
mutual
def uptoBulk {H : Type} : DataW H → Nat
  | .lit (.string bytes) => bytes.length + 1
  | .lit _ => 1
  | .nil => 1
  | .ptr d => uptoBulk d + 1
  | .slice elems spare => uptoBulkAll elems + uptoBulkAll spare + 1
  | .agg parts => uptoBulkAll parts + 1
  | .iface _ d => uptoBulk d + 1
  | .map entries => uptoBulkEntries entries + 1
  | .held _ => 1
def uptoBulkAll {H : Type} : List (DataW H) → Nat
  | [] => 0
  | d :: r => uptoBulk d + uptoBulkAll r
def uptoBulkEntries {H : Type} : List (Lit × DataW H) → Nat
  | [] => 0
  | x :: r => uptoBulkEntry x + uptoBulkEntries r
def uptoBulkEntry {H : Type} : Lit × DataW H → Nat
  | (.string bytes, d) => bytes.length + uptoBulk d + 1
  | (_, d) => uptoBulk d + 1
 end
def uptoSmall : (H : Type) → List (DataW H) → Bool := fun _ ds => decide (uptoBulkAll ds ≤ 1048576)
def OpenSpec.upto (s : _root_.Go.ChangeSpec) : _root_.Go.OpenSpec := { _root_.Go.OpenSpec.ofChange s with cond := some uptoSmall }

/-- 'cardinglaw26.WriteOnce', WHERE WHAT IT READS IS OF BULK AT MOST 1048576: true; the input reads as it did. -/
def writeOnceUptoRow : OpenClaim := { program := "ytheaknghgpafpaa", sum := "856c6d463c27da52e3cfd8076959b7e1703ec52c86f4e74da965f244211ad803", func := "carding/cardinglaw26.WriteOnce", spec := "writeOnce", inPlace := ["internal/abi.NoEscape"], unfollowed := true, recurses := true, plainKeys := false, apart := false, narrowed := true }
def WriteOnceUptoSaid : Prop := writeOnceUptoRow.holds Try.pinned (OpenSpec.upto writeOnceSpec)

/-- 'cardinglaw26.WriteGrows', WHERE WHAT IT READS IS OF BULK AT MOST 1048576: true; the input reads as it did. -/
def writeGrowsUptoRow : OpenClaim := { program := "ytheaknghgpafpaa", sum := "856c6d463c27da52e3cfd8076959b7e1703ec52c86f4e74da965f244211ad803", func := "carding/cardinglaw26.WriteGrows", spec := "writeGrows", inPlace := ["internal/abi.NoEscape"], unfollowed := true, recurses := true, plainKeys := false, apart := false, narrowed := true }
def WriteGrowsUptoSaid : Prop := writeGrowsUptoRow.holds Try.pinned (OpenSpec.upto writeGrowsSpec)

end Rows
end Go.Proofs.Ytheaknghgpafpaa
