/-
  No cell of these rows narrows 'for every input' (looked for: loops, veiled, ifaces, maps, wideKeys, modest, calm, conditions, laid).
  DERIVED. THE GIVEN ROWS OF THIS SEAT. 11 by the template 'for every input the law returns true; each argument reads behind the call as it read before'; 0 by the template 'total and deterministic' (their statements: YtmjajepdlopkiaaTotals.lean).
  GIVEN WITH THE SEED: the statements are not yours to turn. If you find one false, say at which input.
  Laid BY PROGRAM, IN A SANDBOX (cutbox-rows.mjs): the forced cells as the released guide's own fill.sh prints them over the translation 158ec0f561c41529… (all of the seat's roots in one cut). By AI agents, Wed Nov 11 2026. No macro, syntax, notation, axiom, sorry.
-/
import Derived.Test.YtmjajepdlopkiaaChecked
import GoSem.Claim
import GoSem.ClaimJoined
import GoSem.ClaimMapViews
import Derived.JoinedTies
import Derived.KernelRfl
namespace Go.Proofs.Ytmjajepdlopkiaa
/- THE CELL 'sum', in the pinned program and in every row, IS THE sha256 OF THE DUMP (.gsa) THAT YtmjajepdlopkiaaProg.lean LOADS. Nothing in Lean hashes anything: it is a label: what it is worth is what the hold of that sum in a sandbox is worth. -/
noncomputable def Try.pinned : Pinned := { name := "ytmjajepdlopkiaa", sum := "158ec0f561c41529f933759a5e313180ad51ec36581cdb70fd4bf9c73151d632", checked := Try.checked }
namespace Rows
def none {H : Type} : Left H := { results := [], args := [] }

/-- 'plaitlaw01.SeqTells': WHATEVER THE INPUT: true; the input reads as it did. -/
def seqTellsSpec : ChangeSpec := { name := "seqTells", fn := fun _ => fun
  | [d1, d2, d3] => { results := [.lit (.bool true)], args := [d1, d2, d3] }
  | _ => none }
def seqTellsRow : OpenClaim := { program := "ytmjajepdlopkiaa", sum := "158ec0f561c41529f933759a5e313180ad51ec36581cdb70fd4bf9c73151d632", func := "plait/plaitlaw01.SeqTells", spec := "seqTells", unfollowed := true, recurses := true, apart := false }
def SeqTellsSaid : Prop := seqTellsRow.holds Try.pinned (OpenSpec.ofChange seqTellsSpec)

/-- ITS FALSE NEIGHBOUR: 'it returns false'. Refute it at one input. -/
def seqTellsWrong : ChangeSpec := { name := "seqTells", fn := fun _ => fun
  | [d1, d2, d3] => { results := [.lit (.bool false)], args := [d1, d2, d3] }
  | _ => none }
def SeqTellsWrongFalsely : Prop := seqTellsRow.holds Try.pinned (OpenSpec.ofChange seqTellsWrong)

/-- 'plaitlaw01.SeqWide': WHATEVER THE INPUT: true; the input reads as it did. -/
def seqWideSpec : ChangeSpec := { name := "seqWide", fn := fun _ => fun
  | [d1, d2, d3] => { results := [.lit (.bool true)], args := [d1, d2, d3] }
  | _ => none }
def seqWideRow : OpenClaim := { program := "ytmjajepdlopkiaa", sum := "158ec0f561c41529f933759a5e313180ad51ec36581cdb70fd4bf9c73151d632", func := "plait/plaitlaw01.SeqWide", spec := "seqWide", unfollowed := true, recurses := true, apart := false }
def SeqWideSaid : Prop := seqWideRow.holds Try.pinned (OpenSpec.ofChange seqWideSpec)

/-- ITS FALSE NEIGHBOUR: 'it returns false'. Refute it at one input. -/
def seqWideWrong : ChangeSpec := { name := "seqWide", fn := fun _ => fun
  | [d1, d2, d3] => { results := [.lit (.bool false)], args := [d1, d2, d3] }
  | _ => none }
def SeqWideWrongFalsely : Prop := seqWideRow.holds Try.pinned (OpenSpec.ofChange seqWideWrong)

/-- 'plaitlaw01.SeqOrder': WHATEVER THE INPUT: true; the input reads as it did. -/
def seqOrderSpec : ChangeSpec := { name := "seqOrder", fn := fun _ => fun
  | [d1, d2] => { results := [.lit (.bool true)], args := [d1, d2] }
  | _ => none }
def seqOrderRow : OpenClaim := { program := "ytmjajepdlopkiaa", sum := "158ec0f561c41529f933759a5e313180ad51ec36581cdb70fd4bf9c73151d632", func := "plait/plaitlaw01.SeqOrder", spec := "seqOrder", unfollowed := true, recurses := true, apart := false }
def SeqOrderSaid : Prop := seqOrderRow.holds Try.pinned (OpenSpec.ofChange seqOrderSpec)

/-- ITS FALSE NEIGHBOUR: 'it returns false'. Refute it at one input. -/
def seqOrderWrong : ChangeSpec := { name := "seqOrder", fn := fun _ => fun
  | [d1, d2] => { results := [.lit (.bool false)], args := [d1, d2] }
  | _ => none }
def SeqOrderWrongFalsely : Prop := seqOrderRow.holds Try.pinned (OpenSpec.ofChange seqOrderWrong)

/-- 'plaitlaw01.SeqBack': WHATEVER THE INPUT: true; the input reads as it did. -/
def seqBackSpec : ChangeSpec := { name := "seqBack", fn := fun _ => fun
  | [d1, d2, d3] => { results := [.lit (.bool true)], args := [d1, d2, d3] }
  | _ => none }
def seqBackRow : OpenClaim := { program := "ytmjajepdlopkiaa", sum := "158ec0f561c41529f933759a5e313180ad51ec36581cdb70fd4bf9c73151d632", func := "plait/plaitlaw01.SeqBack", spec := "seqBack", unfollowed := true, recurses := true, apart := false }
def SeqBackSaid : Prop := seqBackRow.holds Try.pinned (OpenSpec.ofChange seqBackSpec)

/-- ITS FALSE NEIGHBOUR: 'it returns false'. Refute it at one input. -/
def seqBackWrong : ChangeSpec := { name := "seqBack", fn := fun _ => fun
  | [d1, d2, d3] => { results := [.lit (.bool false)], args := [d1, d2, d3] }
  | _ => none }
def SeqBackWrongFalsely : Prop := seqBackRow.holds Try.pinned (OpenSpec.ofChange seqBackWrong)

/-- 'plaitlaw01.SeqWiden': WHATEVER THE INPUT: true; the input reads as it did. -/
def seqWidenSpec : ChangeSpec := { name := "seqWiden", fn := fun _ => fun
  | [d1, d2, d3, d4] => { results := [.lit (.bool true)], args := [d1, d2, d3, d4] }
  | _ => none }
def seqWidenRow : OpenClaim := { program := "ytmjajepdlopkiaa", sum := "158ec0f561c41529f933759a5e313180ad51ec36581cdb70fd4bf9c73151d632", func := "plait/plaitlaw01.SeqWiden", spec := "seqWiden", unfollowed := true, recurses := true, apart := false }
def SeqWidenSaid : Prop := seqWidenRow.holds Try.pinned (OpenSpec.ofChange seqWidenSpec)

/-- ITS FALSE NEIGHBOUR: 'it returns false'. Refute it at one input. -/
def seqWidenWrong : ChangeSpec := { name := "seqWiden", fn := fun _ => fun
  | [d1, d2, d3, d4] => { results := [.lit (.bool false)], args := [d1, d2, d3, d4] }
  | _ => none }
def SeqWidenWrongFalsely : Prop := seqWidenRow.holds Try.pinned (OpenSpec.ofChange seqWidenWrong)

/-- 'plaitlaw01.SeqKnown': WHATEVER THE INPUT: true; the input reads as it did. -/
def seqKnownSpec : ChangeSpec := { name := "seqKnown", fn := fun _ => fun
  | [] => { results := [.lit (.bool true)], args := [] }
  | _ => none }
def seqKnownRow : OpenClaim := { program := "ytmjajepdlopkiaa", sum := "158ec0f561c41529f933759a5e313180ad51ec36581cdb70fd4bf9c73151d632", func := "plait/plaitlaw01.SeqKnown", spec := "seqKnown", unfollowed := true, recurses := true, apart := false }
def SeqKnownSaid : Prop := seqKnownRow.holds Try.pinned (OpenSpec.ofChange seqKnownSpec)

/-- ITS FALSE NEIGHBOUR: 'it returns false'. Refute it at one input. -/
def seqKnownWrong : ChangeSpec := { name := "seqKnown", fn := fun _ => fun
  | [] => { results := [.lit (.bool false)], args := [] }
  | _ => none }
def SeqKnownWrongFalsely : Prop := seqKnownRow.holds Try.pinned (OpenSpec.ofChange seqKnownWrong)

/-- 'plaitlaw32.ShapeOrder': WHATEVER THE INPUT: true; the input reads as it did. -/
def shapeOrderSpec : ChangeSpec := { name := "shapeOrder", fn := fun _ => fun
  | [d1, d2, d3, d4] => { results := [.lit (.bool true)], args := [d1, d2, d3, d4] }
  | _ => none }
def shapeOrderRow : OpenClaim := { program := "ytmjajepdlopkiaa", sum := "158ec0f561c41529f933759a5e313180ad51ec36581cdb70fd4bf9c73151d632", func := "plait/plaitlaw32.ShapeOrder", spec := "shapeOrder", unfollowed := true, recurses := true, apart := false }
def ShapeOrderSaid : Prop := shapeOrderRow.holds Try.pinned (OpenSpec.ofChange shapeOrderSpec)

/-- ITS FALSE NEIGHBOUR: 'it returns false'. Refute it at one input. -/
def shapeOrderWrong : ChangeSpec := { name := "shapeOrder", fn := fun _ => fun
  | [d1, d2, d3, d4] => { results := [.lit (.bool false)], args := [d1, d2, d3, d4] }
  | _ => none }
def ShapeOrderWrongFalsely : Prop := shapeOrderRow.holds Try.pinned (OpenSpec.ofChange shapeOrderWrong)

/-- 'plaitlaw32.ShapeKnown': WHATEVER THE INPUT: true; the input reads as it did. -/
def shapeKnownSpec : ChangeSpec := { name := "shapeKnown", fn := fun _ => fun
  | [] => { results := [.lit (.bool true)], args := [] }
  | _ => none }
def shapeKnownRow : OpenClaim := { program := "ytmjajepdlopkiaa", sum := "158ec0f561c41529f933759a5e313180ad51ec36581cdb70fd4bf9c73151d632", func := "plait/plaitlaw32.ShapeKnown", spec := "shapeKnown", unfollowed := true, recurses := true, apart := false }
def ShapeKnownSaid : Prop := shapeKnownRow.holds Try.pinned (OpenSpec.ofChange shapeKnownSpec)

/-- ITS FALSE NEIGHBOUR: 'it returns false'. Refute it at one input. -/
def shapeKnownWrong : ChangeSpec := { name := "shapeKnown", fn := fun _ => fun
  | [] => { results := [.lit (.bool false)], args := [] }
  | _ => none }
def ShapeKnownWrongFalsely : Prop := shapeKnownRow.holds Try.pinned (OpenSpec.ofChange shapeKnownWrong)

/-- 'plaitlaw32.ShapeTells': WHATEVER THE INPUT: true; the input reads as it did. -/
def shapeTellsSpec : ChangeSpec := { name := "shapeTells", fn := fun _ => fun
  | [d1, d2, d3] => { results := [.lit (.bool true)], args := [d1, d2, d3] }
  | _ => none }
def shapeTellsRow : OpenClaim := { program := "ytmjajepdlopkiaa", sum := "158ec0f561c41529f933759a5e313180ad51ec36581cdb70fd4bf9c73151d632", func := "plait/plaitlaw32.ShapeTells", spec := "shapeTells", unfollowed := true, recurses := true, apart := false }
def ShapeTellsSaid : Prop := shapeTellsRow.holds Try.pinned (OpenSpec.ofChange shapeTellsSpec)

/-- ITS FALSE NEIGHBOUR: 'it returns false'. Refute it at one input. -/
def shapeTellsWrong : ChangeSpec := { name := "shapeTells", fn := fun _ => fun
  | [d1, d2, d3] => { results := [.lit (.bool false)], args := [d1, d2, d3] }
  | _ => none }
def ShapeTellsWrongFalsely : Prop := shapeTellsRow.holds Try.pinned (OpenSpec.ofChange shapeTellsWrong)

/-- 'plaitlaw32.ShapeOwn': WHATEVER THE INPUT: true; the input reads as it did. -/
def shapeOwnSpec : ChangeSpec := { name := "shapeOwn", fn := fun _ => fun
  | [d1, d2, d3, d4, d5] => { results := [.lit (.bool true)], args := [d1, d2, d3, d4, d5] }
  | _ => none }
def shapeOwnRow : OpenClaim := { program := "ytmjajepdlopkiaa", sum := "158ec0f561c41529f933759a5e313180ad51ec36581cdb70fd4bf9c73151d632", func := "plait/plaitlaw32.ShapeOwn", spec := "shapeOwn", unfollowed := true, recurses := true, apart := false }
def ShapeOwnSaid : Prop := shapeOwnRow.holds Try.pinned (OpenSpec.ofChange shapeOwnSpec)

/-- ITS FALSE NEIGHBOUR: 'it returns false'. Refute it at one input. -/
def shapeOwnWrong : ChangeSpec := { name := "shapeOwn", fn := fun _ => fun
  | [d1, d2, d3, d4, d5] => { results := [.lit (.bool false)], args := [d1, d2, d3, d4, d5] }
  | _ => none }
def ShapeOwnWrongFalsely : Prop := shapeOwnRow.holds Try.pinned (OpenSpec.ofChange shapeOwnWrong)

/-- 'plaitlaw32.ShapeMore': WHATEVER THE INPUT: true; the input reads as it did. -/
def shapeMoreSpec : ChangeSpec := { name := "shapeMore", fn := fun _ => fun
  | [d1, d2, d3, d4, d5] => { results := [.lit (.bool true)], args := [d1, d2, d3, d4, d5] }
  | _ => none }
def shapeMoreRow : OpenClaim := { program := "ytmjajepdlopkiaa", sum := "158ec0f561c41529f933759a5e313180ad51ec36581cdb70fd4bf9c73151d632", func := "plait/plaitlaw32.ShapeMore", spec := "shapeMore", unfollowed := true, recurses := true, apart := false }
def ShapeMoreSaid : Prop := shapeMoreRow.holds Try.pinned (OpenSpec.ofChange shapeMoreSpec)

/-- ITS FALSE NEIGHBOUR: 'it returns false'. Refute it at one input. -/
def shapeMoreWrong : ChangeSpec := { name := "shapeMore", fn := fun _ => fun
  | [d1, d2, d3, d4, d5] => { results := [.lit (.bool false)], args := [d1, d2, d3, d4, d5] }
  | _ => none }
def ShapeMoreWrongFalsely : Prop := shapeMoreRow.holds Try.pinned (OpenSpec.ofChange shapeMoreWrong)

/- THE SECOND FORM. 'bulk': how many values and letters a reading holds, each counted each time it is reached (what is shared counts as often as it is met; a slice's spare places count too). A statement '..UptoSaid' is the law's where the arguments, and the package variables that the reading takes, are together of bulk at most 1048576: NARROWER than '..Said'. Prove '..Said' where nothing that the law and all that it calls make is longer than what came in: it says more and counts as full. Else prove '..UptoSaid'. A law counts once. -/
mutual
def uptoBulk {H : Type} : DataW H → Nat
  | .lit (.string bytes) => bytes.length + 1
  | .lit _ => 1
  | .nil => 1
  | .ptr d => uptoBulk d + 1
  | .slice elems spare => uptoBulkAll elems + uptoBulkAll spare + 1
  | .agg parts => uptoBulkAll parts + 1
  | .iface _ d => uptoBulk d + 1
  | .map entries => uptoBulkEntries entries + 1
  | .held _ => 1
def uptoBulkAll {H : Type} : List (DataW H) → Nat
  | [] => 0
  | d :: r => uptoBulk d + uptoBulkAll r
def uptoBulkEntries {H : Type} : List (Lit × DataW H) → Nat
  | [] => 0
  | x :: r => uptoBulkEntry x + uptoBulkEntries r
def uptoBulkEntry {H : Type} : Lit × DataW H → Nat
  | (.string bytes, d) => bytes.length + uptoBulk d + 1
  | (_, d) => uptoBulk d + 1
 end
def uptoSmall : (H : Type) → List (DataW H) → Bool := fun _ ds => decide (uptoBulkAll ds ≤ 1048576)
def OpenSpec.upto (s : _root_.Go.ChangeSpec) : _root_.Go.OpenSpec := { _root_.Go.OpenSpec.ofChange s with cond := some uptoSmall }

/-- 'plaitlaw01.SeqTells', WHERE WHAT IT READS IS OF BULK AT MOST 1048576: true; the input reads as it did. -/
def seqTellsUptoRow : OpenClaim := { program := "ytmjajepdlopkiaa", sum := "158ec0f561c41529f933759a5e313180ad51ec36581cdb70fd4bf9c73151d632", func := "plait/plaitlaw01.SeqTells", spec := "seqTells", unfollowed := true, recurses := true, apart := false, narrowed := true }
def SeqTellsUptoSaid : Prop := seqTellsUptoRow.holds Try.pinned (OpenSpec.upto seqTellsSpec)

/-- 'plaitlaw01.SeqWide', WHERE WHAT IT READS IS OF BULK AT MOST 1048576: true; the input reads as it did. -/
def seqWideUptoRow : OpenClaim := { program := "ytmjajepdlopkiaa", sum := "158ec0f561c41529f933759a5e313180ad51ec36581cdb70fd4bf9c73151d632", func := "plait/plaitlaw01.SeqWide", spec := "seqWide", unfollowed := true, recurses := true, apart := false, narrowed := true }
def SeqWideUptoSaid : Prop := seqWideUptoRow.holds Try.pinned (OpenSpec.upto seqWideSpec)

/-- 'plaitlaw01.SeqOrder', WHERE WHAT IT READS IS OF BULK AT MOST 1048576: true; the input reads as it did. -/
def seqOrderUptoRow : OpenClaim := { program := "ytmjajepdlopkiaa", sum := "158ec0f561c41529f933759a5e313180ad51ec36581cdb70fd4bf9c73151d632", func := "plait/plaitlaw01.SeqOrder", spec := "seqOrder", unfollowed := true, recurses := true, apart := false, narrowed := true }
def SeqOrderUptoSaid : Prop := seqOrderUptoRow.holds Try.pinned (OpenSpec.upto seqOrderSpec)

/-- 'plaitlaw01.SeqBack', WHERE WHAT IT READS IS OF BULK AT MOST 1048576: true; the input reads as it did. -/
def seqBackUptoRow : OpenClaim := { program := "ytmjajepdlopkiaa", sum := "158ec0f561c41529f933759a5e313180ad51ec36581cdb70fd4bf9c73151d632", func := "plait/plaitlaw01.SeqBack", spec := "seqBack", unfollowed := true, recurses := true, apart := false, narrowed := true }
def SeqBackUptoSaid : Prop := seqBackUptoRow.holds Try.pinned (OpenSpec.upto seqBackSpec)

/-- 'plaitlaw01.SeqWiden', WHERE WHAT IT READS IS OF BULK AT MOST 1048576: true; the input reads as it did. -/
def seqWidenUptoRow : OpenClaim := { program := "ytmjajepdlopkiaa", sum := "158ec0f561c41529f933759a5e313180ad51ec36581cdb70fd4bf9c73151d632", func := "plait/plaitlaw01.SeqWiden", spec := "seqWiden", unfollowed := true, recurses := true, apart := false, narrowed := true }
def SeqWidenUptoSaid : Prop := seqWidenUptoRow.holds Try.pinned (OpenSpec.upto seqWidenSpec)

/-- 'plaitlaw01.SeqKnown', WHERE WHAT IT READS IS OF BULK AT MOST 1048576: true; the input reads as it did. -/
def seqKnownUptoRow : OpenClaim := { program := "ytmjajepdlopkiaa", sum := "158ec0f561c41529f933759a5e313180ad51ec36581cdb70fd4bf9c73151d632", func := "plait/plaitlaw01.SeqKnown", spec := "seqKnown", unfollowed := true, recurses := true, apart := false, narrowed := true }
def SeqKnownUptoSaid : Prop := seqKnownUptoRow.holds Try.pinned (OpenSpec.upto seqKnownSpec)

/-- 'plaitlaw32.ShapeOrder', WHERE WHAT IT READS IS OF BULK AT MOST 1048576: true; the input reads as it did. -/
def shapeOrderUptoRow : OpenClaim := { program := "ytmjajepdlopkiaa", sum := "158ec0f561c41529f933759a5e313180ad51ec36581cdb70fd4bf9c73151d632", func := "plait/plaitlaw32.ShapeOrder", spec := "shapeOrder", unfollowed := true, recurses := true, apart := false, narrowed := true }
def ShapeOrderUptoSaid : Prop := shapeOrderUptoRow.holds Try.pinned (OpenSpec.upto shapeOrderSpec)

/-- 'plaitlaw32.ShapeKnown', WHERE WHAT IT READS IS OF BULK AT MOST 1048576: true; the input reads as it did. -/
def shapeKnownUptoRow : OpenClaim := { program := "ytmjajepdlopkiaa", sum := "158ec0f561c41529f933759a5e313180ad51ec36581cdb70fd4bf9c73151d632", func := "plait/plaitlaw32.ShapeKnown", spec := "shapeKnown", unfollowed := true, recurses := true, apart := false, narrowed := true }
def ShapeKnownUptoSaid : Prop := shapeKnownUptoRow.holds Try.pinned (OpenSpec.upto shapeKnownSpec)

/-- 'plaitlaw32.ShapeTells', WHERE WHAT IT READS IS OF BULK AT MOST 1048576: true; the input reads as it did. -/
def shapeTellsUptoRow : OpenClaim := { program := "ytmjajepdlopkiaa", sum := "158ec0f561c41529f933759a5e313180ad51ec36581cdb70fd4bf9c73151d632", func := "plait/plaitlaw32.ShapeTells", spec := "shapeTells", unfollowed := true, recurses := true, apart := false, narrowed := true }
def ShapeTellsUptoSaid : Prop := shapeTellsUptoRow.holds Try.pinned (OpenSpec.upto shapeTellsSpec)

/-- 'plaitlaw32.ShapeOwn', WHERE WHAT IT READS IS OF BULK AT MOST 1048576: true; the input reads as it did. -/
def shapeOwnUptoRow : OpenClaim := { program := "ytmjajepdlopkiaa", sum := "158ec0f561c41529f933759a5e313180ad51ec36581cdb70fd4bf9c73151d632", func := "plait/plaitlaw32.ShapeOwn", spec := "shapeOwn", unfollowed := true, recurses := true, apart := false, narrowed := true }
def ShapeOwnUptoSaid : Prop := shapeOwnUptoRow.holds Try.pinned (OpenSpec.upto shapeOwnSpec)

/-- 'plaitlaw32.ShapeMore', WHERE WHAT IT READS IS OF BULK AT MOST 1048576: true; the input reads as it did. -/
def shapeMoreUptoRow : OpenClaim := { program := "ytmjajepdlopkiaa", sum := "158ec0f561c41529f933759a5e313180ad51ec36581cdb70fd4bf9c73151d632", func := "plait/plaitlaw32.ShapeMore", spec := "shapeMore", unfollowed := true, recurses := true, apart := false, narrowed := true }
def ShapeMoreUptoSaid : Prop := shapeMoreUptoRow.holds Try.pinned (OpenSpec.upto shapeMoreSpec)

end Rows
end Go.Proofs.Ytmjajepdlopkiaa
