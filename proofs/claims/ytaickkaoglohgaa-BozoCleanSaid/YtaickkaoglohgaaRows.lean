/-
  No cell of these rows narrows 'for every input' (looked for: loops, veiled, ifaces, maps, wideKeys, modest, calm, conditions, laid).
  DERIVED. THE GIVEN ROWS OF THIS SEAT. 3 by the template 'for every input the law returns true; each argument reads behind the call as it read before'; 0 by the template 'total and deterministic' (their statements: YtaickkaoglohgaaTotals.lean).
  GIVEN WITH THE SEED: the statements are not yours to turn. If you find one false, say at which input.
  Laid BY PROGRAM, IN A SANDBOX (cutbox-rows.mjs): the forced cells as the released guide's own fill.sh prints them over the translation 158a58882c27f41d… (all of the seat's roots in one cut). By AI agents, Wed Nov 11 2026. No macro, syntax, notation, axiom, sorry.
-/
import Derived.Test.YtaickkaoglohgaaChecked
import GoSem.Claim
import GoSem.ClaimJoined
import GoSem.ClaimMapViews
import Derived.JoinedTies
import Derived.KernelRfl
namespace Go.Proofs.Ytaickkaoglohgaa
/- THE CELL 'sum', in the pinned program and in every row, IS THE sha256 OF THE DUMP (.gsa) THAT YtaickkaoglohgaaProg.lean LOADS. Nothing in Lean hashes anything: it is a label: what it is worth is what the hold of that sum in a sandbox is worth. -/
noncomputable def Try.pinned : Pinned := { name := "ytaickkaoglohgaa", sum := "158a58882c27f41ddda142a360b7e974f68f70d70c441dd8f2ac5b28f95e7d2d", checked := Try.checked }
namespace Rows
def none {H : Type} : Left H := { results := [], args := [] }

/-- 'cardinglaw17.BozoKnows': WHATEVER THE INPUT: true; the input reads as it did. -/
def bozoKnowsSpec : ChangeSpec := { name := "bozoKnows", fn := fun _ => fun
  | [d1, d2] => { results := [.lit (.bool true)], args := [d1, d2] }
  | _ => none }
def bozoKnowsRow : OpenClaim := { program := "ytaickkaoglohgaa", sum := "158a58882c27f41ddda142a360b7e974f68f70d70c441dd8f2ac5b28f95e7d2d", func := "carding/cardinglaw17.BozoKnows", spec := "bozoKnows", inPlace := ["internal/bytealg.IndexByteString", "internal/bytealg.IndexString", "internal/bytealg.CountString", "internal/abi.NoEscape"], unfollowed := true, recurses := true, named := ["internal/bytealg.MaxLen"], plainKeys := false, apart := false }
def BozoKnowsSaid : Prop := bozoKnowsRow.holds Try.pinned (OpenSpec.ofChange bozoKnowsSpec)

/-- ITS FALSE NEIGHBOUR: 'it returns false'. Refute it at one input. -/
def bozoKnowsWrong : ChangeSpec := { name := "bozoKnows", fn := fun _ => fun
  | [d1, d2] => { results := [.lit (.bool false)], args := [d1, d2] }
  | _ => none }
def BozoKnowsWrongFalsely : Prop := bozoKnowsRow.holds Try.pinned (OpenSpec.ofChange bozoKnowsWrong)

/-- 'cardinglaw17.BozoBalance': WHATEVER THE INPUT: true; the input reads as it did. -/
def bozoBalanceSpec : ChangeSpec := { name := "bozoBalance", fn := fun _ => fun
  | [d] => { results := [.lit (.bool true)], args := [d] }
  | _ => none }
def bozoBalanceRow : OpenClaim := { program := "ytaickkaoglohgaa", sum := "158a58882c27f41ddda142a360b7e974f68f70d70c441dd8f2ac5b28f95e7d2d", func := "carding/cardinglaw17.BozoBalance", spec := "bozoBalance", inPlace := ["internal/bytealg.IndexByteString", "internal/bytealg.IndexString", "internal/bytealg.CountString", "internal/abi.NoEscape"], unfollowed := true, recurses := true, named := ["internal/bytealg.MaxLen"], plainKeys := false, apart := false }
def BozoBalanceSaid : Prop := bozoBalanceRow.holds Try.pinned (OpenSpec.ofChange bozoBalanceSpec)

/-- ITS FALSE NEIGHBOUR: 'it returns false'. Refute it at one input. -/
def bozoBalanceWrong : ChangeSpec := { name := "bozoBalance", fn := fun _ => fun
  | [d] => { results := [.lit (.bool false)], args := [d] }
  | _ => none }
def BozoBalanceWrongFalsely : Prop := bozoBalanceRow.holds Try.pinned (OpenSpec.ofChange bozoBalanceWrong)

/-- 'cardinglaw17.BozoClean': WHATEVER THE INPUT: true; the input reads as it did. -/
def bozoCleanSpec : ChangeSpec := { name := "bozoClean", fn := fun _ => fun
  | [d] => { results := [.lit (.bool true)], args := [d] }
  | _ => none }
def bozoCleanRow : OpenClaim := { program := "ytaickkaoglohgaa", sum := "158a58882c27f41ddda142a360b7e974f68f70d70c441dd8f2ac5b28f95e7d2d", func := "carding/cardinglaw17.BozoClean", spec := "bozoClean", inPlace := ["internal/bytealg.IndexByteString", "internal/bytealg.IndexString", "internal/bytealg.CountString", "internal/abi.NoEscape"], unfollowed := true, recurses := true, named := ["internal/bytealg.MaxLen"], plainKeys := false, apart := false }
def BozoCleanSaid : Prop := bozoCleanRow.holds Try.pinned (OpenSpec.ofChange bozoCleanSpec)

/-- ITS FALSE NEIGHBOUR: 'it returns false'. Refute it at one input. -/
def bozoCleanWrong : ChangeSpec := { name := "bozoClean", fn := fun _ => fun
  | [d] => { results := [.lit (.bool false)], args := [d] }
  | _ => none }
def BozoCleanWrongFalsely : Prop := bozoCleanRow.holds Try.pinned (OpenSpec.ofChange bozoCleanWrong)

/- THE SECOND FORM. 'bulk': how many values and letters a reading holds, each counted each time it is reached (what is shared counts as often as it is met; a slice's spare places count too). A statement '..UptoSaid' is the law's where the arguments, and the package variables that the reading takes, are together of bulk at most 1048576: NARROWER than '..Said'. Prove '..Said' where nothing that the law and all that it calls make is longer than what came in: it says more and counts as full. Else prove '..UptoSaid'. A law counts once. -/
mutual
def uptoBulk {H : Type} : DataW H → Nat
  | .lit (.string bytes) => bytes.length + 1
  | .lit _ => 1
  | .nil => 1
  | .ptr d => uptoBulk d + 1
  | .slice elems spare => uptoBulkAll elems + uptoBulkAll spare + 1
  | .agg parts => uptoBulkAll parts + 1
  | .iface _ d => uptoBulk d + 1
  | .map entries => uptoBulkEntries entries + 1
  | .held _ => 1
def uptoBulkAll {H : Type} : List (DataW H) → Nat
  | [] => 0
  | d :: r => uptoBulk d + uptoBulkAll r
def uptoBulkEntries {H : Type} : List (Lit × DataW H) → Nat
  | [] => 0
  | x :: r => uptoBulkEntry x + uptoBulkEntries r
def uptoBulkEntry {H : Type} : Lit × DataW H → Nat
  | (.string bytes, d) => bytes.length + uptoBulk d + 1
  | (_, d) => uptoBulk d + 1
 end
def uptoSmall : (H : Type) → List (DataW H) → Bool := fun _ ds => decide (uptoBulkAll ds ≤ 1048576)
def OpenSpec.upto (s : _root_.Go.ChangeSpec) : _root_.Go.OpenSpec := { _root_.Go.OpenSpec.ofChange s with cond := some uptoSmall }

/-- 'cardinglaw17.BozoKnows', WHERE WHAT IT READS IS OF BULK AT MOST 1048576: true; the input reads as it did. -/
def bozoKnowsUptoRow : OpenClaim := { program := "ytaickkaoglohgaa", sum := "158a58882c27f41ddda142a360b7e974f68f70d70c441dd8f2ac5b28f95e7d2d", func := "carding/cardinglaw17.BozoKnows", spec := "bozoKnows", inPlace := ["internal/bytealg.IndexByteString", "internal/bytealg.IndexString", "internal/bytealg.CountString", "internal/abi.NoEscape"], unfollowed := true, recurses := true, named := ["internal/bytealg.MaxLen"], plainKeys := false, apart := false, narrowed := true }
def BozoKnowsUptoSaid : Prop := bozoKnowsUptoRow.holds Try.pinned (OpenSpec.upto bozoKnowsSpec)

/-- 'cardinglaw17.BozoBalance', WHERE WHAT IT READS IS OF BULK AT MOST 1048576: true; the input reads as it did. -/
def bozoBalanceUptoRow : OpenClaim := { program := "ytaickkaoglohgaa", sum := "158a58882c27f41ddda142a360b7e974f68f70d70c441dd8f2ac5b28f95e7d2d", func := "carding/cardinglaw17.BozoBalance", spec := "bozoBalance", inPlace := ["internal/bytealg.IndexByteString", "internal/bytealg.IndexString", "internal/bytealg.CountString", "internal/abi.NoEscape"], unfollowed := true, recurses := true, named := ["internal/bytealg.MaxLen"], plainKeys := false, apart := false, narrowed := true }
def BozoBalanceUptoSaid : Prop := bozoBalanceUptoRow.holds Try.pinned (OpenSpec.upto bozoBalanceSpec)

/-- 'cardinglaw17.BozoClean', WHERE WHAT IT READS IS OF BULK AT MOST 1048576: true; the input reads as it did. -/
def bozoCleanUptoRow : OpenClaim := { program := "ytaickkaoglohgaa", sum := "158a58882c27f41ddda142a360b7e974f68f70d70c441dd8f2ac5b28f95e7d2d", func := "carding/cardinglaw17.BozoClean", spec := "bozoClean", inPlace := ["internal/bytealg.IndexByteString", "internal/bytealg.IndexString", "internal/bytealg.CountString", "internal/abi.NoEscape"], unfollowed := true, recurses := true, named := ["internal/bytealg.MaxLen"], plainKeys := false, apart := false, narrowed := true }
def BozoCleanUptoSaid : Prop := bozoCleanUptoRow.holds Try.pinned (OpenSpec.upto bozoCleanSpec)

end Rows
end Go.Proofs.Ytaickkaoglohgaa
