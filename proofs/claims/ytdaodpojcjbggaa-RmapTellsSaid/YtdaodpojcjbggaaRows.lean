/-
  No cell of these rows narrows 'for every input' (looked for: loops, veiled, ifaces, maps, wideKeys, modest, calm, conditions, laid).
  DERIVED. THE GIVEN ROWS OF THIS SEAT. 9 by the template 'for every input the law returns true; each argument reads behind the call as it read before'; 0 by the template 'total and deterministic' (their statements: YtdaodpojcjbggaaTotals.lean).
  GIVEN WITH THE SEED: the statements are not yours to turn. If you find one false, say at which input.
  Laid BY PROGRAM, IN A SANDBOX (cutbox-rows.mjs): the forced cells as the released guide's own fill.sh prints them over the translation 3a14cfec56d88afa… (all of the seat's roots in one cut). By AI agents, Wed Nov 11 2026. No macro, syntax, notation, axiom, sorry.
-/
import Derived.Test.YtdaodpojcjbggaaChecked
import GoSem.Claim
import GoSem.ClaimJoined
import GoSem.ClaimMapViews
import Derived.JoinedTies
import Derived.KernelRfl
namespace Go.Proofs.Ytdaodpojcjbggaa
/- THE CELL 'sum', in the pinned program and in every row, IS THE sha256 OF THE DUMP (.gsa) THAT YtdaodpojcjbggaaProg.lean LOADS. Nothing in Lean hashes anything: it is a label: what it is worth is what the hold of that sum in a sandbox is worth. -/
noncomputable def Try.pinned : Pinned := { name := "ytdaodpojcjbggaa", sum := "3a14cfec56d88afac3a2c14ae3e045afa19a34510efdb11af2d5a71bf13da5da", checked := Try.checked }
namespace Rows
def none {H : Type} : Left H := { results := [], args := [] }

/-- 'plaitlaw29.LineTells': WHATEVER THE INPUT: true; the input reads as it did. -/
def lineTellsSpec : ChangeSpec := { name := "lineTells", fn := fun _ => fun
  | [d] => { results := [.lit (.bool true)], args := [d] }
  | _ => none }
def lineTellsRow : OpenClaim := { program := "ytdaodpojcjbggaa", sum := "3a14cfec56d88afac3a2c14ae3e045afa19a34510efdb11af2d5a71bf13da5da", func := "plait/plaitlaw29.LineTells", spec := "lineTells", apart := false }
def LineTellsSaid : Prop := lineTellsRow.holds Try.pinned (OpenSpec.ofChange lineTellsSpec)

/-- ITS FALSE NEIGHBOUR: 'it returns false'. Refute it at one input. -/
def lineTellsWrong : ChangeSpec := { name := "lineTells", fn := fun _ => fun
  | [d] => { results := [.lit (.bool false)], args := [d] }
  | _ => none }
def LineTellsWrongFalsely : Prop := lineTellsRow.holds Try.pinned (OpenSpec.ofChange lineTellsWrong)

/-- 'plaitlaw29.LineOrder': WHATEVER THE INPUT: true; the input reads as it did. -/
def lineOrderSpec : ChangeSpec := { name := "lineOrder", fn := fun _ => fun
  | [d1, d2, d3] => { results := [.lit (.bool true)], args := [d1, d2, d3] }
  | _ => none }
def lineOrderRow : OpenClaim := { program := "ytdaodpojcjbggaa", sum := "3a14cfec56d88afac3a2c14ae3e045afa19a34510efdb11af2d5a71bf13da5da", func := "plait/plaitlaw29.LineOrder", spec := "lineOrder", apart := false }
def LineOrderSaid : Prop := lineOrderRow.holds Try.pinned (OpenSpec.ofChange lineOrderSpec)

/-- ITS FALSE NEIGHBOUR: 'it returns false'. Refute it at one input. -/
def lineOrderWrong : ChangeSpec := { name := "lineOrder", fn := fun _ => fun
  | [d1, d2, d3] => { results := [.lit (.bool false)], args := [d1, d2, d3] }
  | _ => none }
def LineOrderWrongFalsely : Prop := lineOrderRow.holds Try.pinned (OpenSpec.ofChange lineOrderWrong)

/-- 'plaitlaw29.LineTurn': WHATEVER THE INPUT: true; the input reads as it did. -/
def lineTurnSpec : ChangeSpec := { name := "lineTurn", fn := fun _ => fun
  | [d1, d2, d3] => { results := [.lit (.bool true)], args := [d1, d2, d3] }
  | _ => none }
def lineTurnRow : OpenClaim := { program := "ytdaodpojcjbggaa", sum := "3a14cfec56d88afac3a2c14ae3e045afa19a34510efdb11af2d5a71bf13da5da", func := "plait/plaitlaw29.LineTurn", spec := "lineTurn", apart := false }
def LineTurnSaid : Prop := lineTurnRow.holds Try.pinned (OpenSpec.ofChange lineTurnSpec)

/-- ITS FALSE NEIGHBOUR: 'it returns false'. Refute it at one input. -/
def lineTurnWrong : ChangeSpec := { name := "lineTurn", fn := fun _ => fun
  | [d1, d2, d3] => { results := [.lit (.bool false)], args := [d1, d2, d3] }
  | _ => none }
def LineTurnWrongFalsely : Prop := lineTurnRow.holds Try.pinned (OpenSpec.ofChange lineTurnWrong)

/-- 'plaitlaw29.LineKnown': WHATEVER THE INPUT: true; the input reads as it did. -/
def lineKnownSpec : ChangeSpec := { name := "lineKnown", fn := fun _ => fun
  | [] => { results := [.lit (.bool true)], args := [] }
  | _ => none }
def lineKnownRow : OpenClaim := { program := "ytdaodpojcjbggaa", sum := "3a14cfec56d88afac3a2c14ae3e045afa19a34510efdb11af2d5a71bf13da5da", func := "plait/plaitlaw29.LineKnown", spec := "lineKnown", apart := false }
def LineKnownSaid : Prop := lineKnownRow.holds Try.pinned (OpenSpec.ofChange lineKnownSpec)

/-- ITS FALSE NEIGHBOUR: 'it returns false'. Refute it at one input. -/
def lineKnownWrong : ChangeSpec := { name := "lineKnown", fn := fun _ => fun
  | [] => { results := [.lit (.bool false)], args := [] }
  | _ => none }
def LineKnownWrongFalsely : Prop := lineKnownRow.holds Try.pinned (OpenSpec.ofChange lineKnownWrong)

/-- 'plaitlaw18.RmapTells': WHATEVER THE INPUT: true; the input reads as it did. -/
def rmapTellsSpec : ChangeSpec := { name := "rmapTells", fn := fun _ => fun
  | [d1, d2] => { results := [.lit (.bool true)], args := [d1, d2] }
  | _ => none }
def rmapTellsRow : OpenClaim := { program := "ytdaodpojcjbggaa", sum := "3a14cfec56d88afac3a2c14ae3e045afa19a34510efdb11af2d5a71bf13da5da", func := "plait/plaitlaw18.RmapTells", spec := "rmapTells", unfollowed := true, recurses := true, apart := false }
def RmapTellsSaid : Prop := rmapTellsRow.holds Try.pinned (OpenSpec.ofChange rmapTellsSpec)

/-- ITS FALSE NEIGHBOUR: 'it returns false'. Refute it at one input. -/
def rmapTellsWrong : ChangeSpec := { name := "rmapTells", fn := fun _ => fun
  | [d1, d2] => { results := [.lit (.bool false)], args := [d1, d2] }
  | _ => none }
def RmapTellsWrongFalsely : Prop := rmapTellsRow.holds Try.pinned (OpenSpec.ofChange rmapTellsWrong)

/-- 'plaitlaw18.RmapFirst': WHATEVER THE INPUT: true; the input reads as it did. -/
def rmapFirstSpec : ChangeSpec := { name := "rmapFirst", fn := fun _ => fun
  | [d] => { results := [.lit (.bool true)], args := [d] }
  | _ => none }
def rmapFirstRow : OpenClaim := { program := "ytdaodpojcjbggaa", sum := "3a14cfec56d88afac3a2c14ae3e045afa19a34510efdb11af2d5a71bf13da5da", func := "plait/plaitlaw18.RmapFirst", spec := "rmapFirst", unfollowed := true, recurses := true, apart := false }
def RmapFirstSaid : Prop := rmapFirstRow.holds Try.pinned (OpenSpec.ofChange rmapFirstSpec)

/-- ITS FALSE NEIGHBOUR: 'it returns false'. Refute it at one input. -/
def rmapFirstWrong : ChangeSpec := { name := "rmapFirst", fn := fun _ => fun
  | [d] => { results := [.lit (.bool false)], args := [d] }
  | _ => none }
def RmapFirstWrongFalsely : Prop := rmapFirstRow.holds Try.pinned (OpenSpec.ofChange rmapFirstWrong)

/-- 'plaitlaw18.RmapOrder': WHATEVER THE INPUT: true; the input reads as it did. -/
def rmapOrderSpec : ChangeSpec := { name := "rmapOrder", fn := fun _ => fun
  | [d1, d2, d3] => { results := [.lit (.bool true)], args := [d1, d2, d3] }
  | _ => none }
def rmapOrderRow : OpenClaim := { program := "ytdaodpojcjbggaa", sum := "3a14cfec56d88afac3a2c14ae3e045afa19a34510efdb11af2d5a71bf13da5da", func := "plait/plaitlaw18.RmapOrder", spec := "rmapOrder", unfollowed := true, recurses := true, apart := false }
def RmapOrderSaid : Prop := rmapOrderRow.holds Try.pinned (OpenSpec.ofChange rmapOrderSpec)

/-- ITS FALSE NEIGHBOUR: 'it returns false'. Refute it at one input. -/
def rmapOrderWrong : ChangeSpec := { name := "rmapOrder", fn := fun _ => fun
  | [d1, d2, d3] => { results := [.lit (.bool false)], args := [d1, d2, d3] }
  | _ => none }
def RmapOrderWrongFalsely : Prop := rmapOrderRow.holds Try.pinned (OpenSpec.ofChange rmapOrderWrong)

/-- 'plaitlaw18.RmapOwn': WHATEVER THE INPUT: true; the input reads as it did. -/
def rmapOwnSpec : ChangeSpec := { name := "rmapOwn", fn := fun _ => fun
  | [d1, d2] => { results := [.lit (.bool true)], args := [d1, d2] }
  | _ => none }
def rmapOwnRow : OpenClaim := { program := "ytdaodpojcjbggaa", sum := "3a14cfec56d88afac3a2c14ae3e045afa19a34510efdb11af2d5a71bf13da5da", func := "plait/plaitlaw18.RmapOwn", spec := "rmapOwn", unfollowed := true, recurses := true, apart := false }
def RmapOwnSaid : Prop := rmapOwnRow.holds Try.pinned (OpenSpec.ofChange rmapOwnSpec)

/-- ITS FALSE NEIGHBOUR: 'it returns false'. Refute it at one input. -/
def rmapOwnWrong : ChangeSpec := { name := "rmapOwn", fn := fun _ => fun
  | [d1, d2] => { results := [.lit (.bool false)], args := [d1, d2] }
  | _ => none }
def RmapOwnWrongFalsely : Prop := rmapOwnRow.holds Try.pinned (OpenSpec.ofChange rmapOwnWrong)

/-- 'plaitlaw18.RmapKnown': WHATEVER THE INPUT: true; the input reads as it did. -/
def rmapKnownSpec : ChangeSpec := { name := "rmapKnown", fn := fun _ => fun
  | [] => { results := [.lit (.bool true)], args := [] }
  | _ => none }
def rmapKnownRow : OpenClaim := { program := "ytdaodpojcjbggaa", sum := "3a14cfec56d88afac3a2c14ae3e045afa19a34510efdb11af2d5a71bf13da5da", func := "plait/plaitlaw18.RmapKnown", spec := "rmapKnown", unfollowed := true, recurses := true, apart := false }
def RmapKnownSaid : Prop := rmapKnownRow.holds Try.pinned (OpenSpec.ofChange rmapKnownSpec)

/-- ITS FALSE NEIGHBOUR: 'it returns false'. Refute it at one input. -/
def rmapKnownWrong : ChangeSpec := { name := "rmapKnown", fn := fun _ => fun
  | [] => { results := [.lit (.bool false)], args := [] }
  | _ => none }
def RmapKnownWrongFalsely : Prop := rmapKnownRow.holds Try.pinned (OpenSpec.ofChange rmapKnownWrong)

/- THE SECOND FORM. 'bulk': how many values and letters a reading holds, each counted each time it is reached (what is shared counts as often as it is met; a slice's spare places count too). A statement '..UptoSaid' is the law's where the arguments, and the package variables that the reading takes, are together of bulk at most 1048576: NARROWER than '..Said'. Prove '..Said' where nothing that the law and all that it calls make is longer than what came in: it says more and counts as full. Else prove '..UptoSaid'. A law counts once. -/
mutual
def uptoBulk {H : Type} : DataW H → Nat
  | .lit (.string bytes) => bytes.length + 1
  | .lit _ => 1
  | .nil => 1
  | .ptr d => uptoBulk d + 1
  | .slice elems spare => uptoBulkAll elems + uptoBulkAll spare + 1
  | .agg parts => uptoBulkAll parts + 1
  | .iface _ d => uptoBulk d + 1
  | .map entries => uptoBulkEntries entries + 1
  | .held _ => 1
def uptoBulkAll {H : Type} : List (DataW H) → Nat
  | [] => 0
  | d :: r => uptoBulk d + uptoBulkAll r
def uptoBulkEntries {H : Type} : List (Lit × DataW H) → Nat
  | [] => 0
  | x :: r => uptoBulkEntry x + uptoBulkEntries r
def uptoBulkEntry {H : Type} : Lit × DataW H → Nat
  | (.string bytes, d) => bytes.length + uptoBulk d + 1
  | (_, d) => uptoBulk d + 1
 end
def uptoSmall : (H : Type) → List (DataW H) → Bool := fun _ ds => decide (uptoBulkAll ds ≤ 1048576)
def OpenSpec.upto (s : _root_.Go.ChangeSpec) : _root_.Go.OpenSpec := { _root_.Go.OpenSpec.ofChange s with cond := some uptoSmall }

/-- 'plaitlaw29.LineTells', WHERE WHAT IT READS IS OF BULK AT MOST 1048576: true; the input reads as it did. -/
def lineTellsUptoRow : OpenClaim := { program := "ytdaodpojcjbggaa", sum := "3a14cfec56d88afac3a2c14ae3e045afa19a34510efdb11af2d5a71bf13da5da", func := "plait/plaitlaw29.LineTells", spec := "lineTells", apart := false, narrowed := true }
def LineTellsUptoSaid : Prop := lineTellsUptoRow.holds Try.pinned (OpenSpec.upto lineTellsSpec)

/-- 'plaitlaw29.LineOrder', WHERE WHAT IT READS IS OF BULK AT MOST 1048576: true; the input reads as it did. -/
def lineOrderUptoRow : OpenClaim := { program := "ytdaodpojcjbggaa", sum := "3a14cfec56d88afac3a2c14ae3e045afa19a34510efdb11af2d5a71bf13da5da", func := "plait/plaitlaw29.LineOrder", spec := "lineOrder", apart := false, narrowed := true }
def LineOrderUptoSaid : Prop := lineOrderUptoRow.holds Try.pinned (OpenSpec.upto lineOrderSpec)

/-- 'plaitlaw29.LineTurn', WHERE WHAT IT READS IS OF BULK AT MOST 1048576: true; the input reads as it did. -/
def lineTurnUptoRow : OpenClaim := { program := "ytdaodpojcjbggaa", sum := "3a14cfec56d88afac3a2c14ae3e045afa19a34510efdb11af2d5a71bf13da5da", func := "plait/plaitlaw29.LineTurn", spec := "lineTurn", apart := false, narrowed := true }
def LineTurnUptoSaid : Prop := lineTurnUptoRow.holds Try.pinned (OpenSpec.upto lineTurnSpec)

/-- 'plaitlaw29.LineKnown', WHERE WHAT IT READS IS OF BULK AT MOST 1048576: true; the input reads as it did. -/
def lineKnownUptoRow : OpenClaim := { program := "ytdaodpojcjbggaa", sum := "3a14cfec56d88afac3a2c14ae3e045afa19a34510efdb11af2d5a71bf13da5da", func := "plait/plaitlaw29.LineKnown", spec := "lineKnown", apart := false, narrowed := true }
def LineKnownUptoSaid : Prop := lineKnownUptoRow.holds Try.pinned (OpenSpec.upto lineKnownSpec)

/-- 'plaitlaw18.RmapTells', WHERE WHAT IT READS IS OF BULK AT MOST 1048576: true; the input reads as it did. -/
def rmapTellsUptoRow : OpenClaim := { program := "ytdaodpojcjbggaa", sum := "3a14cfec56d88afac3a2c14ae3e045afa19a34510efdb11af2d5a71bf13da5da", func := "plait/plaitlaw18.RmapTells", spec := "rmapTells", unfollowed := true, recurses := true, apart := false, narrowed := true }
def RmapTellsUptoSaid : Prop := rmapTellsUptoRow.holds Try.pinned (OpenSpec.upto rmapTellsSpec)

/-- 'plaitlaw18.RmapFirst', WHERE WHAT IT READS IS OF BULK AT MOST 1048576: true; the input reads as it did. -/
def rmapFirstUptoRow : OpenClaim := { program := "ytdaodpojcjbggaa", sum := "3a14cfec56d88afac3a2c14ae3e045afa19a34510efdb11af2d5a71bf13da5da", func := "plait/plaitlaw18.RmapFirst", spec := "rmapFirst", unfollowed := true, recurses := true, apart := false, narrowed := true }
def RmapFirstUptoSaid : Prop := rmapFirstUptoRow.holds Try.pinned (OpenSpec.upto rmapFirstSpec)

/-- 'plaitlaw18.RmapOrder', WHERE WHAT IT READS IS OF BULK AT MOST 1048576: true; the input reads as it did. -/
def rmapOrderUptoRow : OpenClaim := { program := "ytdaodpojcjbggaa", sum := "3a14cfec56d88afac3a2c14ae3e045afa19a34510efdb11af2d5a71bf13da5da", func := "plait/plaitlaw18.RmapOrder", spec := "rmapOrder", unfollowed := true, recurses := true, apart := false, narrowed := true }
def RmapOrderUptoSaid : Prop := rmapOrderUptoRow.holds Try.pinned (OpenSpec.upto rmapOrderSpec)

/-- 'plaitlaw18.RmapOwn', WHERE WHAT IT READS IS OF BULK AT MOST 1048576: true; the input reads as it did. -/
def rmapOwnUptoRow : OpenClaim := { program := "ytdaodpojcjbggaa", sum := "3a14cfec56d88afac3a2c14ae3e045afa19a34510efdb11af2d5a71bf13da5da", func := "plait/plaitlaw18.RmapOwn", spec := "rmapOwn", unfollowed := true, recurses := true, apart := false, narrowed := true }
def RmapOwnUptoSaid : Prop := rmapOwnUptoRow.holds Try.pinned (OpenSpec.upto rmapOwnSpec)

/-- 'plaitlaw18.RmapKnown', WHERE WHAT IT READS IS OF BULK AT MOST 1048576: true; the input reads as it did. -/
def rmapKnownUptoRow : OpenClaim := { program := "ytdaodpojcjbggaa", sum := "3a14cfec56d88afac3a2c14ae3e045afa19a34510efdb11af2d5a71bf13da5da", func := "plait/plaitlaw18.RmapKnown", spec := "rmapKnown", unfollowed := true, recurses := true, apart := false, narrowed := true }
def RmapKnownUptoSaid : Prop := rmapKnownUptoRow.holds Try.pinned (OpenSpec.upto rmapKnownSpec)

end Rows
end Go.Proofs.Ytdaodpojcjbggaa
