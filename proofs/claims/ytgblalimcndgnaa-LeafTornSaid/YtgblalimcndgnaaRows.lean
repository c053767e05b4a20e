/-
  No cell of these rows narrows 'for every input' (looked for: loops, veiled, ifaces, maps, wideKeys, modest, calm, conditions, laid).
  DERIVED. THE GIVEN ROWS OF THIS SEAT. 11 by the template 'for every input the law returns true; each argument reads behind the call as it read before'; 0 by the template 'total and deterministic' (their statements: YtgblalimcndgnaaTotals.lean).
  GIVEN WITH THE SEED: the statements are not yours to turn. If you find one false, say at which input.
  Laid BY PROGRAM, IN A SANDBOX (cutbox-rows.mjs): the forced cells as the released guide's own fill.sh prints them over the translation c98fbdc144b1e325… (all of the seat's roots in one cut). By AI agents, Wed Nov 11 2026. No macro, syntax, notation, axiom, sorry.
-/
import Derived.Test.YtgblalimcndgnaaChecked
import GoSem.Claim
import GoSem.ClaimJoined
import GoSem.ClaimMapViews
import Derived.JoinedTies
import Derived.KernelRfl
namespace Go.Proofs.Ytgblalimcndgnaa
/- THE CELL 'sum', in the pinned program and in every row, IS THE sha256 OF THE DUMP (.gsa) THAT YtgblalimcndgnaaProg.lean LOADS. Nothing in Lean hashes anything: it is a label: what it is worth is what the hold of that sum in a sandbox is worth. -/
noncomputable def Try.pinned : Pinned := { name := "ytgblalimcndgnaa", sum := "c98fbdc144b1e325d61d93138738fa7d5553f72f91706d941a34c37e4b7a07d5", checked := Try.checked }
namespace Rows
def none {H : Type} : Left H := { results := [], args := [] }

/-- 'haberdashlaw05.CrcAll': WHATEVER THE INPUT: true; the input reads as it did. -/
def crcAllSpec : ChangeSpec := { name := "crcAll", fn := fun _ => fun
  | [d1, d2] => { results := [.lit (.bool true)], args := [d1, d2] }
  | _ => none }
def crcAllRow : OpenClaim := { program := "ytgblalimcndgnaa", sum := "c98fbdc144b1e325d61d93138738fa7d5553f72f91706d941a34c37e4b7a07d5", func := "haberdash/haberdashlaw05.CrcAll", spec := "crcAll", apart := false }
def CrcAllSaid : Prop := crcAllRow.holds Try.pinned (OpenSpec.ofChange crcAllSpec)

/-- ITS FALSE NEIGHBOUR: 'it returns false'. Refute it at one input. -/
def crcAllWrong : ChangeSpec := { name := "crcAll", fn := fun _ => fun
  | [d1, d2] => { results := [.lit (.bool false)], args := [d1, d2] }
  | _ => none }
def CrcAllWrongFalsely : Prop := crcAllRow.holds Try.pinned (OpenSpec.ofChange crcAllWrong)

/-- 'haberdashlaw05.CrcPieces': WHATEVER THE INPUT: true; the input reads as it did. -/
def crcPiecesSpec : ChangeSpec := { name := "crcPieces", fn := fun _ => fun
  | [d1, d2] => { results := [.lit (.bool true)], args := [d1, d2] }
  | _ => none }
def crcPiecesRow : OpenClaim := { program := "ytgblalimcndgnaa", sum := "c98fbdc144b1e325d61d93138738fa7d5553f72f91706d941a34c37e4b7a07d5", func := "haberdash/haberdashlaw05.CrcPieces", spec := "crcPieces", apart := false }
def CrcPiecesSaid : Prop := crcPiecesRow.holds Try.pinned (OpenSpec.ofChange crcPiecesSpec)

/-- ITS FALSE NEIGHBOUR: 'it returns false'. Refute it at one input. -/
def crcPiecesWrong : ChangeSpec := { name := "crcPieces", fn := fun _ => fun
  | [d1, d2] => { results := [.lit (.bool false)], args := [d1, d2] }
  | _ => none }
def CrcPiecesWrongFalsely : Prop := crcPiecesRow.holds Try.pinned (OpenSpec.ofChange crcPiecesWrong)

/-- 'haberdashlaw05.CrcTurned': WHATEVER THE INPUT: true; the input reads as it did. -/
def crcTurnedSpec : ChangeSpec := { name := "crcTurned", fn := fun _ => fun
  | [d1, d2, d3] => { results := [.lit (.bool true)], args := [d1, d2, d3] }
  | _ => none }
def crcTurnedRow : OpenClaim := { program := "ytgblalimcndgnaa", sum := "c98fbdc144b1e325d61d93138738fa7d5553f72f91706d941a34c37e4b7a07d5", func := "haberdash/haberdashlaw05.CrcTurned", spec := "crcTurned", apart := false }
def CrcTurnedSaid : Prop := crcTurnedRow.holds Try.pinned (OpenSpec.ofChange crcTurnedSpec)

/-- ITS FALSE NEIGHBOUR: 'it returns false'. Refute it at one input. -/
def crcTurnedWrong : ChangeSpec := { name := "crcTurned", fn := fun _ => fun
  | [d1, d2, d3] => { results := [.lit (.bool false)], args := [d1, d2, d3] }
  | _ => none }
def CrcTurnedWrongFalsely : Prop := crcTurnedRow.holds Try.pinned (OpenSpec.ofChange crcTurnedWrong)

/-- 'haberdashlaw05.CrcThree': WHATEVER THE INPUT: true; the input reads as it did. -/
def crcThreeSpec : ChangeSpec := { name := "crcThree", fn := fun _ => fun
  | [d1, d2, d3] => { results := [.lit (.bool true)], args := [d1, d2, d3] }
  | _ => none }
def crcThreeRow : OpenClaim := { program := "ytgblalimcndgnaa", sum := "c98fbdc144b1e325d61d93138738fa7d5553f72f91706d941a34c37e4b7a07d5", func := "haberdash/haberdashlaw05.CrcThree", spec := "crcThree", apart := false }
def CrcThreeSaid : Prop := crcThreeRow.holds Try.pinned (OpenSpec.ofChange crcThreeSpec)

/-- ITS FALSE NEIGHBOUR: 'it returns false'. Refute it at one input. -/
def crcThreeWrong : ChangeSpec := { name := "crcThree", fn := fun _ => fun
  | [d1, d2, d3] => { results := [.lit (.bool false)], args := [d1, d2, d3] }
  | _ => none }
def CrcThreeWrongFalsely : Prop := crcThreeRow.holds Try.pinned (OpenSpec.ofChange crcThreeWrong)

/-- 'haberdashlaw05.CrcEnds': WHATEVER THE INPUT: true; the input reads as it did. -/
def crcEndsSpec : ChangeSpec := { name := "crcEnds", fn := fun _ => fun
  | [d] => { results := [.lit (.bool true)], args := [d] }
  | _ => none }
def crcEndsRow : OpenClaim := { program := "ytgblalimcndgnaa", sum := "c98fbdc144b1e325d61d93138738fa7d5553f72f91706d941a34c37e4b7a07d5", func := "haberdash/haberdashlaw05.CrcEnds", spec := "crcEnds", apart := false }
def CrcEndsSaid : Prop := crcEndsRow.holds Try.pinned (OpenSpec.ofChange crcEndsSpec)

/-- ITS FALSE NEIGHBOUR: 'it returns false'. Refute it at one input. -/
def crcEndsWrong : ChangeSpec := { name := "crcEnds", fn := fun _ => fun
  | [d] => { results := [.lit (.bool false)], args := [d] }
  | _ => none }
def CrcEndsWrongFalsely : Prop := crcEndsRow.holds Try.pinned (OpenSpec.ofChange crcEndsWrong)

/-- 'haberdashlaw07.LeafLays': WHATEVER THE INPUT: true; the input reads as it did. -/
def leafLaysSpec : ChangeSpec := { name := "leafLays", fn := fun _ => fun
  | [d1, d2] => { results := [.lit (.bool true)], args := [d1, d2] }
  | _ => none }
def leafLaysRow : OpenClaim := { program := "ytgblalimcndgnaa", sum := "c98fbdc144b1e325d61d93138738fa7d5553f72f91706d941a34c37e4b7a07d5", func := "haberdash/haberdashlaw07.LeafLays", spec := "leafLays", unfollowed := true, recurses := true, apart := false }
def LeafLaysSaid : Prop := leafLaysRow.holds Try.pinned (OpenSpec.ofChange leafLaysSpec)

/-- ITS FALSE NEIGHBOUR: 'it returns false'. Refute it at one input. -/
def leafLaysWrong : ChangeSpec := { name := "leafLays", fn := fun _ => fun
  | [d1, d2] => { results := [.lit (.bool false)], args := [d1, d2] }
  | _ => none }
def LeafLaysWrongFalsely : Prop := leafLaysRow.holds Try.pinned (OpenSpec.ofChange leafLaysWrong)

/-- 'haberdashlaw07.LeafTurned': WHATEVER THE INPUT: true; the input reads as it did. -/
def leafTurnedSpec : ChangeSpec := { name := "leafTurned", fn := fun _ => fun
  | [d1, d2, d3] => { results := [.lit (.bool true)], args := [d1, d2, d3] }
  | _ => none }
def leafTurnedRow : OpenClaim := { program := "ytgblalimcndgnaa", sum := "c98fbdc144b1e325d61d93138738fa7d5553f72f91706d941a34c37e4b7a07d5", func := "haberdash/haberdashlaw07.LeafTurned", spec := "leafTurned", apart := false }
def LeafTurnedSaid : Prop := leafTurnedRow.holds Try.pinned (OpenSpec.ofChange leafTurnedSpec)

/-- ITS FALSE NEIGHBOUR: 'it returns false'. Refute it at one input. -/
def leafTurnedWrong : ChangeSpec := { name := "leafTurned", fn := fun _ => fun
  | [d1, d2, d3] => { results := [.lit (.bool false)], args := [d1, d2, d3] }
  | _ => none }
def LeafTurnedWrongFalsely : Prop := leafTurnedRow.holds Try.pinned (OpenSpec.ofChange leafTurnedWrong)

/-- 'haberdashlaw07.LeafRoom': WHATEVER THE INPUT: true; the input reads as it did. -/
def leafRoomSpec : ChangeSpec := { name := "leafRoom", fn := fun _ => fun
  | [d1, d2, d3, d4] => { results := [.lit (.bool true)], args := [d1, d2, d3, d4] }
  | _ => none }
def leafRoomRow : OpenClaim := { program := "ytgblalimcndgnaa", sum := "c98fbdc144b1e325d61d93138738fa7d5553f72f91706d941a34c37e4b7a07d5", func := "haberdash/haberdashlaw07.LeafRoom", spec := "leafRoom", apart := false }
def LeafRoomSaid : Prop := leafRoomRow.holds Try.pinned (OpenSpec.ofChange leafRoomSpec)

/-- ITS FALSE NEIGHBOUR: 'it returns false'. Refute it at one input. -/
def leafRoomWrong : ChangeSpec := { name := "leafRoom", fn := fun _ => fun
  | [d1, d2, d3, d4] => { results := [.lit (.bool false)], args := [d1, d2, d3, d4] }
  | _ => none }
def LeafRoomWrongFalsely : Prop := leafRoomRow.holds Try.pinned (OpenSpec.ofChange leafRoomWrong)

/-- 'haberdashlaw07.LeafTakes': WHATEVER THE INPUT: true; the input reads as it did. -/
def leafTakesSpec : ChangeSpec := { name := "leafTakes", fn := fun _ => fun
  | [d1, d2] => { results := [.lit (.bool true)], args := [d1, d2] }
  | _ => none }
def leafTakesRow : OpenClaim := { program := "ytgblalimcndgnaa", sum := "c98fbdc144b1e325d61d93138738fa7d5553f72f91706d941a34c37e4b7a07d5", func := "haberdash/haberdashlaw07.LeafTakes", spec := "leafTakes", apart := false }
def LeafTakesSaid : Prop := leafTakesRow.holds Try.pinned (OpenSpec.ofChange leafTakesSpec)

/-- ITS FALSE NEIGHBOUR: 'it returns false'. Refute it at one input. -/
def leafTakesWrong : ChangeSpec := { name := "leafTakes", fn := fun _ => fun
  | [d1, d2] => { results := [.lit (.bool false)], args := [d1, d2] }
  | _ => none }
def LeafTakesWrongFalsely : Prop := leafTakesRow.holds Try.pinned (OpenSpec.ofChange leafTakesWrong)

/-- 'haberdashlaw07.LeafBack': WHATEVER THE INPUT: true; the input reads as it did. -/
def leafBackSpec : ChangeSpec := { name := "leafBack", fn := fun _ => fun
  | [d] => { results := [.lit (.bool true)], args := [d] }
  | _ => none }
def leafBackRow : OpenClaim := { program := "ytgblalimcndgnaa", sum := "c98fbdc144b1e325d61d93138738fa7d5553f72f91706d941a34c37e4b7a07d5", func := "haberdash/haberdashlaw07.LeafBack", spec := "leafBack", apart := false }
def LeafBackSaid : Prop := leafBackRow.holds Try.pinned (OpenSpec.ofChange leafBackSpec)

/-- ITS FALSE NEIGHBOUR: 'it returns false'. Refute it at one input. -/
def leafBackWrong : ChangeSpec := { name := "leafBack", fn := fun _ => fun
  | [d] => { results := [.lit (.bool false)], args := [d] }
  | _ => none }
def LeafBackWrongFalsely : Prop := leafBackRow.holds Try.pinned (OpenSpec.ofChange leafBackWrong)

/-- 'haberdashlaw07.LeafTorn': WHATEVER THE INPUT: true; the input reads as it did. -/
def leafTornSpec : ChangeSpec := { name := "leafTorn", fn := fun _ => fun
  | [d1, d2, d3, d4] => { results := [.lit (.bool true)], args := [d1, d2, d3, d4] }
  | _ => none }
def leafTornRow : OpenClaim := { program := "ytgblalimcndgnaa", sum := "c98fbdc144b1e325d61d93138738fa7d5553f72f91706d941a34c37e4b7a07d5", func := "haberdash/haberdashlaw07.LeafTorn", spec := "leafTorn", apart := false }
def LeafTornSaid : Prop := leafTornRow.holds Try.pinned (OpenSpec.ofChange leafTornSpec)

/-- ITS FALSE NEIGHBOUR: 'it returns false'. Refute it at one input. -/
def leafTornWrong : ChangeSpec := { name := "leafTorn", fn := fun _ => fun
  | [d1, d2, d3, d4] => { results := [.lit (.bool false)], args := [d1, d2, d3, d4] }
  | _ => none }
def LeafTornWrongFalsely : Prop := leafTornRow.holds Try.pinned (OpenSpec.ofChange leafTornWrong)

/- THE SECOND FORM. 'bulk': how many values and letters a reading holds, each counted each time it is reached (what is shared counts as often as it is met; a slice's spare places count too). A statement '..UptoSaid' is the law's where the arguments, and the package variables that the reading takes, are together of bulk at most 1048576: NARROWER than '..Said'. Prove '..Said' where nothing that the law and all that it calls make is longer than what came in: it says more and counts as full. Else prove '..UptoSaid'. A law counts once. -/
mutual
def uptoBulk {H : Type} : DataW H → Nat
  | .lit (.string bytes) => bytes.length + 1
  | .lit _ => 1
  | .nil => 1
  | .ptr d => uptoBulk d + 1
  | .slice elems spare => uptoBulkAll elems + uptoBulkAll spare + 1
  | .agg parts => uptoBulkAll parts + 1
  | .iface _ d => uptoBulk d + 1
  | .map entries => uptoBulkEntries entries + 1
  | .held _ => 1
def uptoBulkAll {H : Type} : List (DataW H) → Nat
  | [] => 0
  | d :: r => uptoBulk d + uptoBulkAll r
def uptoBulkEntries {H : Type} : List (Lit × DataW H) → Nat
  | [] => 0
  | x :: r => uptoBulkEntry x + uptoBulkEntries r
def uptoBulkEntry {H : Type} : Lit × DataW H → Nat
  | (.string bytes, d) => bytes.length + uptoBulk d + 1
  | (_, d) => uptoBulk d + 1
 end
def uptoSmall : (H : Type) → List (DataW H) → Bool := fun _ ds => decide (uptoBulkAll ds ≤ 1048576)
def OpenSpec.upto (s : _root_.Go.ChangeSpec) : _root_.Go.OpenSpec := { _root_.Go.OpenSpec.ofChange s with cond := some uptoSmall }

/-- 'haberdashlaw05.CrcAll', WHERE WHAT IT READS IS OF BULK AT MOST 1048576: true; the input reads as it did. -/
def crcAllUptoRow : OpenClaim := { program := "ytgblalimcndgnaa", sum := "c98fbdc144b1e325d61d93138738fa7d5553f72f91706d941a34c37e4b7a07d5", func := "haberdash/haberdashlaw05.CrcAll", spec := "crcAll", apart := false, narrowed := true }
def CrcAllUptoSaid : Prop := crcAllUptoRow.holds Try.pinned (OpenSpec.upto crcAllSpec)

/-- 'haberdashlaw05.CrcPieces', WHERE WHAT IT READS IS OF BULK AT MOST 1048576: true; the input reads as it did. -/
def crcPiecesUptoRow : OpenClaim := { program := "ytgblalimcndgnaa", sum := "c98fbdc144b1e325d61d93138738fa7d5553f72f91706d941a34c37e4b7a07d5", func := "haberdash/haberdashlaw05.CrcPieces", spec := "crcPieces", apart := false, narrowed := true }
def CrcPiecesUptoSaid : Prop := crcPiecesUptoRow.holds Try.pinned (OpenSpec.upto crcPiecesSpec)

/-- 'haberdashlaw05.CrcTurned', WHERE WHAT IT READS IS OF BULK AT MOST 1048576: true; the input reads as it did. -/
def crcTurnedUptoRow : OpenClaim := { program := "ytgblalimcndgnaa", sum := "c98fbdc144b1e325d61d93138738fa7d5553f72f91706d941a34c37e4b7a07d5", func := "haberdash/haberdashlaw05.CrcTurned", spec := "crcTurned", apart := false, narrowed := true }
def CrcTurnedUptoSaid : Prop := crcTurnedUptoRow.holds Try.pinned (OpenSpec.upto crcTurnedSpec)

/-- 'haberdashlaw05.CrcThree', WHERE WHAT IT READS IS OF BULK AT MOST 1048576: true; the input reads as it did. -/
def crcThreeUptoRow : OpenClaim := { program := "ytgblalimcndgnaa", sum := "c98fbdc144b1e325d61d93138738fa7d5553f72f91706d941a34c37e4b7a07d5", func := "haberdash/haberdashlaw05.CrcThree", spec := "crcThree", apart := false, narrowed := true }
def CrcThreeUptoSaid : Prop := crcThreeUptoRow.holds Try.pinned (OpenSpec.upto crcThreeSpec)

/-- 'haberdashlaw05.CrcEnds', WHERE WHAT IT READS IS OF BULK AT MOST 1048576: true; the input reads as it did. -/
def crcEndsUptoRow : OpenClaim := { program := "ytgblalimcndgnaa", sum := "c98fbdc144b1e325d61d93138738fa7d5553f72f91706d941a34c37e4b7a07d5", func := "haberdash/haberdashlaw05.CrcEnds", spec := "crcEnds", apart := false, narrowed := true }
def CrcEndsUptoSaid : Prop := crcEndsUptoRow.holds Try.pinned (OpenSpec.upto crcEndsSpec)

/-- 'haberdashlaw07.LeafLays', WHERE WHAT IT READS IS OF BULK AT MOST 1048576: true; the input reads as it did. -/
def leafLaysUptoRow : OpenClaim := { program := "ytgblalimcndgnaa", sum := "c98fbdc144b1e325d61d93138738fa7d5553f72f91706d941a34c37e4b7a07d5", func := "haberdash/haberdashlaw07.LeafLays", spec := "leafLays", unfollowed := true, recurses := true, apart := false, narrowed := true }
def LeafLaysUptoSaid : Prop := leafLaysUptoRow.holds Try.pinned (OpenSpec.upto leafLaysSpec)

/-- 'haberdashlaw07.LeafTurned', WHERE WHAT IT READS IS OF BULK AT MOST 1048576: true; the input reads as it did. -/
def leafTurnedUptoRow : OpenClaim := { program := "ytgblalimcndgnaa", sum := "c98fbdc144b1e325d61d93138738fa7d5553f72f91706d941a34c37e4b7a07d5", func := "haberdash/haberdashlaw07.LeafTurned", spec := "leafTurned", apart := false, narrowed := true }
def LeafTurnedUptoSaid : Prop := leafTurnedUptoRow.holds Try.pinned (OpenSpec.upto leafTurnedSpec)

/-- 'haberdashlaw07.LeafRoom', WHERE WHAT IT READS IS OF BULK AT MOST 1048576: true; the input reads as it did. -/
def leafRoomUptoRow : OpenClaim := { program := "ytgblalimcndgnaa", sum := "c98fbdc144b1e325d61d93138738fa7d5553f72f91706d941a34c37e4b7a07d5", func := "haberdash/haberdashlaw07.LeafRoom", spec := "leafRoom", apart := false, narrowed := true }
def LeafRoomUptoSaid : Prop := leafRoomUptoRow.holds Try.pinned (OpenSpec.upto leafRoomSpec)

/-- 'haberdashlaw07.LeafTakes', WHERE WHAT IT READS IS OF BULK AT MOST 1048576: true; the input reads as it did. -/
def leafTakesUptoRow : OpenClaim := { program := "ytgblalimcndgnaa", sum := "c98fbdc144b1e325d61d93138738fa7d5553f72f91706d941a34c37e4b7a07d5", func := "haberdash/haberdashlaw07.LeafTakes", spec := "leafTakes", apart := false, narrowed := true }
def LeafTakesUptoSaid : Prop := leafTakesUptoRow.holds Try.pinned (OpenSpec.upto leafTakesSpec)

/-- 'haberdashlaw07.LeafBack', WHERE WHAT IT READS IS OF BULK AT MOST 1048576: true; the input reads as it did. -/
def leafBackUptoRow : OpenClaim := { program := "ytgblalimcndgnaa", sum := "c98fbdc144b1e325d61d93138738fa7d5553f72f91706d941a34c37e4b7a07d5", func := "haberdash/haberdashlaw07.LeafBack", spec := "leafBack", apart := false, narrowed := true }
def LeafBackUptoSaid : Prop := leafBackUptoRow.holds Try.pinned (OpenSpec.upto leafBackSpec)

/-- 'haberdashlaw07.LeafTorn', WHERE WHAT IT READS IS OF BULK AT MOST 1048576: true; the input reads as it did. -/
def leafTornUptoRow : OpenClaim := { program := "ytgblalimcndgnaa", sum := "c98fbdc144b1e325d61d93138738fa7d5553f72f91706d941a34c37e4b7a07d5", func := "haberdash/haberdashlaw07.LeafTorn", spec := "leafTorn", apart := false, narrowed := true }
def LeafTornUptoSaid : Prop := leafTornUptoRow.holds Try.pinned (OpenSpec.upto leafTornSpec)

end Rows
end Go.Proofs.Ytgblalimcndgnaa
