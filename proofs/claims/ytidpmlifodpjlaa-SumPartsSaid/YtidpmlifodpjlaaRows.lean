/-
  No cell of these rows narrows 'for every input' (looked for: loops, veiled, ifaces, maps, wideKeys, modest, calm, conditions, laid).
  DERIVED. THE GIVEN ROWS OF THIS SEAT. 10 by the template 'for every input the law returns true; each argument reads behind the call as it read before'; 0 by the template 'total and deterministic' (their statements: YtidpmlifodpjlaaTotals.lean).
  GIVEN WITH THE SEED: the statements are not yours to turn. If you find one false, say at which input.
  Laid BY PROGRAM, IN A SANDBOX (cutbox-rows.mjs): the forced cells as the released guide's own fill.sh prints them over the translation aa2c0d45e6354773… (all of the seat's roots in one cut). By AI agents, Wed Nov 11 2026. No macro, syntax, notation, axiom, sorry.
-/
import Derived.Test.YtidpmlifodpjlaaChecked
import GoSem.Claim
import GoSem.ClaimJoined
import GoSem.ClaimMapViews
import Derived.JoinedTies
import Derived.KernelRfl
namespace Go.Proofs.Ytidpmlifodpjlaa
/- THE CELL 'sum', in the pinned program and in every row, IS THE sha256 OF THE DUMP (.gsa) THAT YtidpmlifodpjlaaProg.lean LOADS. Nothing in Lean hashes anything: it is a label: what it is worth is what the hold of that sum in a sandbox is worth. -/
noncomputable def Try.pinned : Pinned := { name := "ytidpmlifodpjlaa", sum := "aa2c0d45e63547736f52867b713cf59113c40bd1e8dc4c04afa3eff10585dcdd", checked := Try.checked }
namespace Rows
def none {H : Type} : Left H := { results := [], args := [] }

/-- 'plaitlaw03.SumTells': WHATEVER THE INPUT: true; the input reads as it did. -/
def sumTellsSpec : ChangeSpec := { name := "sumTells", fn := fun _ => fun
  | [d] => { results := [.lit (.bool true)], args := [d] }
  | _ => none }
def sumTellsRow : OpenClaim := { program := "ytidpmlifodpjlaa", sum := "aa2c0d45e63547736f52867b713cf59113c40bd1e8dc4c04afa3eff10585dcdd", func := "plait/plaitlaw03.SumTells", spec := "sumTells", unfollowed := true, recurses := true, apart := false }
def SumTellsSaid : Prop := sumTellsRow.holds Try.pinned (OpenSpec.ofChange sumTellsSpec)

/-- ITS FALSE NEIGHBOUR: 'it returns false'. Refute it at one input. -/
def sumTellsWrong : ChangeSpec := { name := "sumTells", fn := fun _ => fun
  | [d] => { results := [.lit (.bool false)], args := [d] }
  | _ => none }
def SumTellsWrongFalsely : Prop := sumTellsRow.holds Try.pinned (OpenSpec.ofChange sumTellsWrong)

/-- 'plaitlaw03.SumNumbers': WHATEVER THE INPUT: true; the input reads as it did. -/
def sumNumbersSpec : ChangeSpec := { name := "sumNumbers", fn := fun _ => fun
  | [d1, d2, d3, d4] => { results := [.lit (.bool true)], args := [d1, d2, d3, d4] }
  | _ => none }
def sumNumbersRow : OpenClaim := { program := "ytidpmlifodpjlaa", sum := "aa2c0d45e63547736f52867b713cf59113c40bd1e8dc4c04afa3eff10585dcdd", func := "plait/plaitlaw03.SumNumbers", spec := "sumNumbers", unfollowed := true, recurses := true, apart := false }
def SumNumbersSaid : Prop := sumNumbersRow.holds Try.pinned (OpenSpec.ofChange sumNumbersSpec)

/-- ITS FALSE NEIGHBOUR: 'it returns false'. Refute it at one input. -/
def sumNumbersWrong : ChangeSpec := { name := "sumNumbers", fn := fun _ => fun
  | [d1, d2, d3, d4] => { results := [.lit (.bool false)], args := [d1, d2, d3, d4] }
  | _ => none }
def SumNumbersWrongFalsely : Prop := sumNumbersRow.holds Try.pinned (OpenSpec.ofChange sumNumbersWrong)

/-- 'plaitlaw03.SumByte': WHATEVER THE INPUT: true; the input reads as it did. -/
def sumByteSpec : ChangeSpec := { name := "sumByte", fn := fun _ => fun
  | [d1, d2, d3] => { results := [.lit (.bool true)], args := [d1, d2, d3] }
  | _ => none }
def sumByteRow : OpenClaim := { program := "ytidpmlifodpjlaa", sum := "aa2c0d45e63547736f52867b713cf59113c40bd1e8dc4c04afa3eff10585dcdd", func := "plait/plaitlaw03.SumByte", spec := "sumByte", unfollowed := true, recurses := true, apart := false }
def SumByteSaid : Prop := sumByteRow.holds Try.pinned (OpenSpec.ofChange sumByteSpec)

/-- ITS FALSE NEIGHBOUR: 'it returns false'. Refute it at one input. -/
def sumByteWrong : ChangeSpec := { name := "sumByte", fn := fun _ => fun
  | [d1, d2, d3] => { results := [.lit (.bool false)], args := [d1, d2, d3] }
  | _ => none }
def SumByteWrongFalsely : Prop := sumByteRow.holds Try.pinned (OpenSpec.ofChange sumByteWrong)

/-- 'plaitlaw03.SumParts': WHATEVER THE INPUT: true; the input reads as it did. -/
def sumPartsSpec : ChangeSpec := { name := "sumParts", fn := fun _ => fun
  | [d1, d2, d3] => { results := [.lit (.bool true)], args := [d1, d2, d3] }
  | _ => none }
def sumPartsRow : OpenClaim := { program := "ytidpmlifodpjlaa", sum := "aa2c0d45e63547736f52867b713cf59113c40bd1e8dc4c04afa3eff10585dcdd", func := "plait/plaitlaw03.SumParts", spec := "sumParts", unfollowed := true, recurses := true, apart := false }
def SumPartsSaid : Prop := sumPartsRow.holds Try.pinned (OpenSpec.ofChange sumPartsSpec)

/-- ITS FALSE NEIGHBOUR: 'it returns false'. Refute it at one input. -/
def sumPartsWrong : ChangeSpec := { name := "sumParts", fn := fun _ => fun
  | [d1, d2, d3] => { results := [.lit (.bool false)], args := [d1, d2, d3] }
  | _ => none }
def SumPartsWrongFalsely : Prop := sumPartsRow.holds Try.pinned (OpenSpec.ofChange sumPartsWrong)

/-- 'plaitlaw03.SumTurn': WHATEVER THE INPUT: true; the input reads as it did. -/
def sumTurnSpec : ChangeSpec := { name := "sumTurn", fn := fun _ => fun
  | [d1, d2, d3] => { results := [.lit (.bool true)], args := [d1, d2, d3] }
  | _ => none }
def sumTurnRow : OpenClaim := { program := "ytidpmlifodpjlaa", sum := "aa2c0d45e63547736f52867b713cf59113c40bd1e8dc4c04afa3eff10585dcdd", func := "plait/plaitlaw03.SumTurn", spec := "sumTurn", unfollowed := true, recurses := true, apart := false }
def SumTurnSaid : Prop := sumTurnRow.holds Try.pinned (OpenSpec.ofChange sumTurnSpec)

/-- ITS FALSE NEIGHBOUR: 'it returns false'. Refute it at one input. -/
def sumTurnWrong : ChangeSpec := { name := "sumTurn", fn := fun _ => fun
  | [d1, d2, d3] => { results := [.lit (.bool false)], args := [d1, d2, d3] }
  | _ => none }
def SumTurnWrongFalsely : Prop := sumTurnRow.holds Try.pinned (OpenSpec.ofChange sumTurnWrong)

/-- 'plaitlaw03.SumKnown': WHATEVER THE INPUT: true; the input reads as it did. -/
def sumKnownSpec : ChangeSpec := { name := "sumKnown", fn := fun _ => fun
  | [] => { results := [.lit (.bool true)], args := [] }
  | _ => none }
def sumKnownRow : OpenClaim := { program := "ytidpmlifodpjlaa", sum := "aa2c0d45e63547736f52867b713cf59113c40bd1e8dc4c04afa3eff10585dcdd", func := "plait/plaitlaw03.SumKnown", spec := "sumKnown", unfollowed := true, recurses := true, apart := false }
def SumKnownSaid : Prop := sumKnownRow.holds Try.pinned (OpenSpec.ofChange sumKnownSpec)

/-- ITS FALSE NEIGHBOUR: 'it returns false'. Refute it at one input. -/
def sumKnownWrong : ChangeSpec := { name := "sumKnown", fn := fun _ => fun
  | [] => { results := [.lit (.bool false)], args := [] }
  | _ => none }
def SumKnownWrongFalsely : Prop := sumKnownRow.holds Try.pinned (OpenSpec.ofChange sumKnownWrong)

/-- 'plaitlaw19.DsumTells': WHATEVER THE INPUT: true; the input reads as it did. -/
def dsumTellsSpec : ChangeSpec := { name := "dsumTells", fn := fun _ => fun
  | [d1, d2, d3, d4, d5] => { results := [.lit (.bool true)], args := [d1, d2, d3, d4, d5] }
  | _ => none }
def dsumTellsRow : OpenClaim := { program := "ytidpmlifodpjlaa", sum := "aa2c0d45e63547736f52867b713cf59113c40bd1e8dc4c04afa3eff10585dcdd", func := "plait/plaitlaw19.DsumTells", spec := "dsumTells", unfollowed := true, recurses := true, apart := false }
def DsumTellsSaid : Prop := dsumTellsRow.holds Try.pinned (OpenSpec.ofChange dsumTellsSpec)

/-- ITS FALSE NEIGHBOUR: 'it returns false'. Refute it at one input. -/
def dsumTellsWrong : ChangeSpec := { name := "dsumTells", fn := fun _ => fun
  | [d1, d2, d3, d4, d5] => { results := [.lit (.bool false)], args := [d1, d2, d3, d4, d5] }
  | _ => none }
def DsumTellsWrongFalsely : Prop := dsumTellsRow.holds Try.pinned (OpenSpec.ofChange dsumTellsWrong)

/-- 'plaitlaw19.DsumOne': WHATEVER THE INPUT: true; the input reads as it did. -/
def dsumOneSpec : ChangeSpec := { name := "dsumOne", fn := fun _ => fun
  | [d1, d2, d3, d4, d5] => { results := [.lit (.bool true)], args := [d1, d2, d3, d4, d5] }
  | _ => none }
def dsumOneRow : OpenClaim := { program := "ytidpmlifodpjlaa", sum := "aa2c0d45e63547736f52867b713cf59113c40bd1e8dc4c04afa3eff10585dcdd", func := "plait/plaitlaw19.DsumOne", spec := "dsumOne", unfollowed := true, recurses := true, apart := false }
def DsumOneSaid : Prop := dsumOneRow.holds Try.pinned (OpenSpec.ofChange dsumOneSpec)

/-- ITS FALSE NEIGHBOUR: 'it returns false'. Refute it at one input. -/
def dsumOneWrong : ChangeSpec := { name := "dsumOne", fn := fun _ => fun
  | [d1, d2, d3, d4, d5] => { results := [.lit (.bool false)], args := [d1, d2, d3, d4, d5] }
  | _ => none }
def DsumOneWrongFalsely : Prop := dsumOneRow.holds Try.pinned (OpenSpec.ofChange dsumOneWrong)

/-- 'plaitlaw19.DsumByte': WHATEVER THE INPUT: true; the input reads as it did. -/
def dsumByteSpec : ChangeSpec := { name := "dsumByte", fn := fun _ => fun
  | [d1, d2, d3, d4, d5] => { results := [.lit (.bool true)], args := [d1, d2, d3, d4, d5] }
  | _ => none }
def dsumByteRow : OpenClaim := { program := "ytidpmlifodpjlaa", sum := "aa2c0d45e63547736f52867b713cf59113c40bd1e8dc4c04afa3eff10585dcdd", func := "plait/plaitlaw19.DsumByte", spec := "dsumByte", unfollowed := true, recurses := true, apart := false }
def DsumByteSaid : Prop := dsumByteRow.holds Try.pinned (OpenSpec.ofChange dsumByteSpec)

/-- ITS FALSE NEIGHBOUR: 'it returns false'. Refute it at one input. -/
def dsumByteWrong : ChangeSpec := { name := "dsumByte", fn := fun _ => fun
  | [d1, d2, d3, d4, d5] => { results := [.lit (.bool false)], args := [d1, d2, d3, d4, d5] }
  | _ => none }
def DsumByteWrongFalsely : Prop := dsumByteRow.holds Try.pinned (OpenSpec.ofChange dsumByteWrong)

/-- 'plaitlaw19.DsumKnown': WHATEVER THE INPUT: true; the input reads as it did. -/
def dsumKnownSpec : ChangeSpec := { name := "dsumKnown", fn := fun _ => fun
  | [] => { results := [.lit (.bool true)], args := [] }
  | _ => none }
def dsumKnownRow : OpenClaim := { program := "ytidpmlifodpjlaa", sum := "aa2c0d45e63547736f52867b713cf59113c40bd1e8dc4c04afa3eff10585dcdd", func := "plait/plaitlaw19.DsumKnown", spec := "dsumKnown", unfollowed := true, recurses := true, apart := false }
def DsumKnownSaid : Prop := dsumKnownRow.holds Try.pinned (OpenSpec.ofChange dsumKnownSpec)

/-- ITS FALSE NEIGHBOUR: 'it returns false'. Refute it at one input. -/
def dsumKnownWrong : ChangeSpec := { name := "dsumKnown", fn := fun _ => fun
  | [] => { results := [.lit (.bool false)], args := [] }
  | _ => none }
def DsumKnownWrongFalsely : Prop := dsumKnownRow.holds Try.pinned (OpenSpec.ofChange dsumKnownWrong)

/- THE SECOND FORM. 'bulk': how many values and letters a reading holds, each counted each time it is reached (what is shared counts as often as it is met; a slice's spare places count too). A statement '..UptoSaid' is the law's where the arguments, and the package variables that the reading takes, are together of bulk at most 1048576: NARROWER than '..Said'. Prove '..Said' where nothing that the law and all that it calls make is longer than what came in: it says more and counts as full. Else prove '..UptoSaid'. A law counts once. -/
mutual
def uptoBulk {H : Type} : DataW H → Nat
  | .lit (.string bytes) => bytes.length + 1
  | .lit _ => 1
  | .nil => 1
  | .ptr d => uptoBulk d + 1
  | .slice elems spare => uptoBulkAll elems + uptoBulkAll spare + 1
  | .agg parts => uptoBulkAll parts + 1
  | .iface _ d => uptoBulk d + 1
  | .map entries => uptoBulkEntries entries + 1
  | .held _ => 1
def uptoBulkAll {H : Type} : List (DataW H) → Nat
  | [] => 0
  | d :: r => uptoBulk d + uptoBulkAll r
def uptoBulkEntries {H : Type} : List (Lit × DataW H) → Nat
  | [] => 0
  | x :: r => uptoBulkEntry x + uptoBulkEntries r
def uptoBulkEntry {H : Type} : Lit × DataW H → Nat
  | (.string bytes, d) => bytes.length + uptoBulk d + 1
  | (_, d) => uptoBulk d + 1
 end
def uptoSmall : (H : Type) → List (DataW H) → Bool := fun _ ds => decide (uptoBulkAll ds ≤ 1048576)
def OpenSpec.upto (s : _root_.Go.ChangeSpec) : _root_.Go.OpenSpec := { _root_.Go.OpenSpec.ofChange s with cond := some uptoSmall }

/-- 'plaitlaw03.SumTells', WHERE WHAT IT READS IS OF BULK AT MOST 1048576: true; the input reads as it did. -/
def sumTellsUptoRow : OpenClaim := { program := "ytidpmlifodpjlaa", sum := "aa2c0d45e63547736f52867b713cf59113c40bd1e8dc4c04afa3eff10585dcdd", func := "plait/plaitlaw03.SumTells", spec := "sumTells", unfollowed := true, recurses := true, apart := false, narrowed := true }
def SumTellsUptoSaid : Prop := sumTellsUptoRow.holds Try.pinned (OpenSpec.upto sumTellsSpec)

/-- 'plaitlaw03.SumNumbers', WHERE WHAT IT READS IS OF BULK AT MOST 1048576: true; the input reads as it did. -/
def sumNumbersUptoRow : OpenClaim := { program := "ytidpmlifodpjlaa", sum := "aa2c0d45e63547736f52867b713cf59113c40bd1e8dc4c04afa3eff10585dcdd", func := "plait/plaitlaw03.SumNumbers", spec := "sumNumbers", unfollowed := true, recurses := true, apart := false, narrowed := true }
def SumNumbersUptoSaid : Prop := sumNumbersUptoRow.holds Try.pinned (OpenSpec.upto sumNumbersSpec)

/-- 'plaitlaw03.SumByte', WHERE WHAT IT READS IS OF BULK AT MOST 1048576: true; the input reads as it did. -/
def sumByteUptoRow : OpenClaim := { program := "ytidpmlifodpjlaa", sum := "aa2c0d45e63547736f52867b713cf59113c40bd1e8dc4c04afa3eff10585dcdd", func := "plait/plaitlaw03.SumByte", spec := "sumByte", unfollowed := true, recurses := true, apart := false, narrowed := true }
def SumByteUptoSaid : Prop := sumByteUptoRow.holds Try.pinned (OpenSpec.upto sumByteSpec)

/-- 'plaitlaw03.SumParts', WHERE WHAT IT READS IS OF BULK AT MOST 1048576: true; the input reads as it did. -/
def sumPartsUptoRow : OpenClaim := { program := "ytidpmlifodpjlaa", sum := "aa2c0d45e63547736f52867b713cf59113c40bd1e8dc4c04afa3eff10585dcdd", func := "plait/plaitlaw03.SumParts", spec := "sumParts", unfollowed := true, recurses := true, apart := false, narrowed := true }
def SumPartsUptoSaid : Prop := sumPartsUptoRow.holds Try.pinned (OpenSpec.upto sumPartsSpec)

/-- 'plaitlaw03.SumTurn', WHERE WHAT IT READS IS OF BULK AT MOST 1048576: true; the input reads as it did. -/
def sumTurnUptoRow : OpenClaim := { program := "ytidpmlifodpjlaa", sum := "aa2c0d45e63547736f52867b713cf59113c40bd1e8dc4c04afa3eff10585dcdd", func := "plait/plaitlaw03.SumTurn", spec := "sumTurn", unfollowed := true, recurses := true, apart := false, narrowed := true }
def SumTurnUptoSaid : Prop := sumTurnUptoRow.holds Try.pinned (OpenSpec.upto sumTurnSpec)

/-- 'plaitlaw03.SumKnown', WHERE WHAT IT READS IS OF BULK AT MOST 1048576: true; the input reads as it did. -/
def sumKnownUptoRow : OpenClaim := { program := "ytidpmlifodpjlaa", sum := "aa2c0d45e63547736f52867b713cf59113c40bd1e8dc4c04afa3eff10585dcdd", func := "plait/plaitlaw03.SumKnown", spec := "sumKnown", unfollowed := true, recurses := true, apart := false, narrowed := true }
def SumKnownUptoSaid : Prop := sumKnownUptoRow.holds Try.pinned (OpenSpec.upto sumKnownSpec)

/-- 'plaitlaw19.DsumTells', WHERE WHAT IT READS IS OF BULK AT MOST 1048576: true; the input reads as it did. -/
def dsumTellsUptoRow : OpenClaim := { program := "ytidpmlifodpjlaa", sum := "aa2c0d45e63547736f52867b713cf59113c40bd1e8dc4c04afa3eff10585dcdd", func := "plait/plaitlaw19.DsumTells", spec := "dsumTells", unfollowed := true, recurses := true, apart := false, narrowed := true }
def DsumTellsUptoSaid : Prop := dsumTellsUptoRow.holds Try.pinned (OpenSpec.upto dsumTellsSpec)

/-- 'plaitlaw19.DsumOne', WHERE WHAT IT READS IS OF BULK AT MOST 1048576: true; the input reads as it did. -/
def dsumOneUptoRow : OpenClaim := { program := "ytidpmlifodpjlaa", sum := "aa2c0d45e63547736f52867b713cf59113c40bd1e8dc4c04afa3eff10585dcdd", func := "plait/plaitlaw19.DsumOne", spec := "dsumOne", unfollowed := true, recurses := true, apart := false, narrowed := true }
def DsumOneUptoSaid : Prop := dsumOneUptoRow.holds Try.pinned (OpenSpec.upto dsumOneSpec)

/-- 'plaitlaw19.DsumByte', WHERE WHAT IT READS IS OF BULK AT MOST 1048576: true; the input reads as it did. -/
def dsumByteUptoRow : OpenClaim := { program := "ytidpmlifodpjlaa", sum := "aa2c0d45e63547736f52867b713cf59113c40bd1e8dc4c04afa3eff10585dcdd", func := "plait/plaitlaw19.DsumByte", spec := "dsumByte", unfollowed := true, recurses := true, apart := false, narrowed := true }
def DsumByteUptoSaid : Prop := dsumByteUptoRow.holds Try.pinned (OpenSpec.upto dsumByteSpec)

/-- 'plaitlaw19.DsumKnown', WHERE WHAT IT READS IS OF BULK AT MOST 1048576: true; the input reads as it did. -/
def dsumKnownUptoRow : OpenClaim := { program := "ytidpmlifodpjlaa", sum := "aa2c0d45e63547736f52867b713cf59113c40bd1e8dc4c04afa3eff10585dcdd", func := "plait/plaitlaw19.DsumKnown", spec := "dsumKnown", unfollowed := true, recurses := true, apart := false, narrowed := true }
def DsumKnownUptoSaid : Prop := dsumKnownUptoRow.holds Try.pinned (OpenSpec.upto dsumKnownSpec)

end Rows
end Go.Proofs.Ytidpmlifodpjlaa
