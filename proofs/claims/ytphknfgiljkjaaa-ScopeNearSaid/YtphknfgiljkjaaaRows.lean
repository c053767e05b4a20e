/-
  No cell of these rows narrows 'for every input' (looked for: loops, veiled, ifaces, maps, wideKeys, modest, calm, conditions, laid).
  DERIVED. THE GIVEN ROWS OF THIS SEAT. 9 by the template 'for every input the law returns true; each argument reads behind the call as it read before'; 0 by the template 'total and deterministic' (their statements: YtphknfgiljkjaaaTotals.lean).
  GIVEN WITH THE SEED: the statements are not yours to turn. If you find one false, say at which input.
  Laid BY PROGRAM, IN A SANDBOX (cutbox-rows.mjs): the forced cells as the released guide's own fill.sh prints them over the translation c4817a529874a50f… (all of the seat's roots in one cut). By AI agents, Wed Nov 11 2026. No macro, syntax, notation, axiom, sorry.
-/
import Derived.Test.YtphknfgiljkjaaaChecked
import GoSem.Claim
import GoSem.ClaimJoined
import GoSem.ClaimMapViews
import Derived.JoinedTies
import Derived.KernelRfl
namespace Go.Proofs.Ytphknfgiljkjaaa
/- THE CELL 'sum', in the pinned program and in every row, IS THE sha256 OF THE DUMP (.gsa) THAT YtphknfgiljkjaaaProg.lean LOADS. Nothing in Lean hashes anything: it is a label: what it is worth is what the hold of that sum in a sandbox is worth. -/
noncomputable def Try.pinned : Pinned := { name := "ytphknfgiljkjaaa", sum := "c4817a529874a50f4c98447ff02082515cad056fdbcfa3f4cb7ff8f40fbcdb71", checked := Try.checked }
namespace Rows
def none {H : Type} : Left H := { results := [], args := [] }

/-- 'haberdashlaw11.ScopeAll': WHATEVER THE INPUT: true; the input reads as it did. -/
def scopeAllSpec : ChangeSpec := { name := "scopeAll", fn := fun _ => fun
  | [d1, d2] => { results := [.lit (.bool true)], args := [d1, d2] }
  | _ => none }
def scopeAllRow : OpenClaim := { program := "ytphknfgiljkjaaa", sum := "c4817a529874a50f4c98447ff02082515cad056fdbcfa3f4cb7ff8f40fbcdb71", func := "haberdash/haberdashlaw11.ScopeAll", spec := "scopeAll", unfollowed := true, recurses := true, apart := false }
def ScopeAllSaid : Prop := scopeAllRow.holds Try.pinned (OpenSpec.ofChange scopeAllSpec)

/-- ITS FALSE NEIGHBOUR: 'it returns false'. Refute it at one input. -/
def scopeAllWrong : ChangeSpec := { name := "scopeAll", fn := fun _ => fun
  | [d1, d2] => { results := [.lit (.bool false)], args := [d1, d2] }
  | _ => none }
def ScopeAllWrongFalsely : Prop := scopeAllRow.holds Try.pinned (OpenSpec.ofChange scopeAllWrong)

/-- 'haberdashlaw11.ScopeWider': WHATEVER THE INPUT: true; the input reads as it did. -/
def scopeWiderSpec : ChangeSpec := { name := "scopeWider", fn := fun _ => fun
  | [d1, d2, d3, d4] => { results := [.lit (.bool true)], args := [d1, d2, d3, d4] }
  | _ => none }
def scopeWiderRow : OpenClaim := { program := "ytphknfgiljkjaaa", sum := "c4817a529874a50f4c98447ff02082515cad056fdbcfa3f4cb7ff8f40fbcdb71", func := "haberdash/haberdashlaw11.ScopeWider", spec := "scopeWider", unfollowed := true, recurses := true, apart := false }
def ScopeWiderSaid : Prop := scopeWiderRow.holds Try.pinned (OpenSpec.ofChange scopeWiderSpec)

/-- ITS FALSE NEIGHBOUR: 'it returns false'. Refute it at one input. -/
def scopeWiderWrong : ChangeSpec := { name := "scopeWider", fn := fun _ => fun
  | [d1, d2, d3, d4] => { results := [.lit (.bool false)], args := [d1, d2, d3, d4] }
  | _ => none }
def ScopeWiderWrongFalsely : Prop := scopeWiderRow.holds Try.pinned (OpenSpec.ofChange scopeWiderWrong)

/-- 'haberdashlaw11.ScopeTurned': WHATEVER THE INPUT: true; the input reads as it did. -/
def scopeTurnedSpec : ChangeSpec := { name := "scopeTurned", fn := fun _ => fun
  | [d1, d2, d3, d4] => { results := [.lit (.bool true)], args := [d1, d2, d3, d4] }
  | _ => none }
def scopeTurnedRow : OpenClaim := { program := "ytphknfgiljkjaaa", sum := "c4817a529874a50f4c98447ff02082515cad056fdbcfa3f4cb7ff8f40fbcdb71", func := "haberdash/haberdashlaw11.ScopeTurned", spec := "scopeTurned", unfollowed := true, recurses := true, apart := false }
def ScopeTurnedSaid : Prop := scopeTurnedRow.holds Try.pinned (OpenSpec.ofChange scopeTurnedSpec)

/-- ITS FALSE NEIGHBOUR: 'it returns false'. Refute it at one input. -/
def scopeTurnedWrong : ChangeSpec := { name := "scopeTurned", fn := fun _ => fun
  | [d1, d2, d3, d4] => { results := [.lit (.bool false)], args := [d1, d2, d3, d4] }
  | _ => none }
def ScopeTurnedWrongFalsely : Prop := scopeTurnedRow.holds Try.pinned (OpenSpec.ofChange scopeTurnedWrong)

/-- 'haberdashlaw11.ScopeNear': WHATEVER THE INPUT: true; the input reads as it did. -/
def scopeNearSpec : ChangeSpec := { name := "scopeNear", fn := fun _ => fun
  | [d1, d2] => { results := [.lit (.bool true)], args := [d1, d2] }
  | _ => none }
def scopeNearRow : OpenClaim := { program := "ytphknfgiljkjaaa", sum := "c4817a529874a50f4c98447ff02082515cad056fdbcfa3f4cb7ff8f40fbcdb71", func := "haberdash/haberdashlaw11.ScopeNear", spec := "scopeNear", unfollowed := true, recurses := true, apart := false }
def ScopeNearSaid : Prop := scopeNearRow.holds Try.pinned (OpenSpec.ofChange scopeNearSpec)

/-- ITS FALSE NEIGHBOUR: 'it returns false'. Refute it at one input. -/
def scopeNearWrong : ChangeSpec := { name := "scopeNear", fn := fun _ => fun
  | [d1, d2] => { results := [.lit (.bool false)], args := [d1, d2] }
  | _ => none }
def ScopeNearWrongFalsely : Prop := scopeNearRow.holds Try.pinned (OpenSpec.ofChange scopeNearWrong)

/-- 'haberdashlaw10.GoodsNames': WHATEVER THE INPUT: true; the input reads as it did. -/
def goodsNamesSpec : ChangeSpec := { name := "goodsNames", fn := fun _ => fun
  | [d1, d2, d3, d4] => { results := [.lit (.bool true)], args := [d1, d2, d3, d4] }
  | _ => none }
def goodsNamesRow : OpenClaim := { program := "ytphknfgiljkjaaa", sum := "c4817a529874a50f4c98447ff02082515cad056fdbcfa3f4cb7ff8f40fbcdb71", func := "haberdash/haberdashlaw10.GoodsNames", spec := "goodsNames", unfollowed := true, recurses := true, apart := false }
def GoodsNamesSaid : Prop := goodsNamesRow.holds Try.pinned (OpenSpec.ofChange goodsNamesSpec)

/-- ITS FALSE NEIGHBOUR: 'it returns false'. Refute it at one input. -/
def goodsNamesWrong : ChangeSpec := { name := "goodsNames", fn := fun _ => fun
  | [d1, d2, d3, d4] => { results := [.lit (.bool false)], args := [d1, d2, d3, d4] }
  | _ => none }
def GoodsNamesWrongFalsely : Prop := goodsNamesRow.holds Try.pinned (OpenSpec.ofChange goodsNamesWrong)

/-- 'haberdashlaw10.GoodsRight': WHATEVER THE INPUT: true; the input reads as it did. -/
def goodsRightSpec : ChangeSpec := { name := "goodsRight", fn := fun _ => fun
  | [d1, d2, d3] => { results := [.lit (.bool true)], args := [d1, d2, d3] }
  | _ => none }
def goodsRightRow : OpenClaim := { program := "ytphknfgiljkjaaa", sum := "c4817a529874a50f4c98447ff02082515cad056fdbcfa3f4cb7ff8f40fbcdb71", func := "haberdash/haberdashlaw10.GoodsRight", spec := "goodsRight", unfollowed := true, recurses := true, apart := false }
def GoodsRightSaid : Prop := goodsRightRow.holds Try.pinned (OpenSpec.ofChange goodsRightSpec)

/-- ITS FALSE NEIGHBOUR: 'it returns false'. Refute it at one input. -/
def goodsRightWrong : ChangeSpec := { name := "goodsRight", fn := fun _ => fun
  | [d1, d2, d3] => { results := [.lit (.bool false)], args := [d1, d2, d3] }
  | _ => none }
def GoodsRightWrongFalsely : Prop := goodsRightRow.holds Try.pinned (OpenSpec.ofChange goodsRightWrong)

/-- 'haberdashlaw10.GoodsTurned': WHATEVER THE INPUT: true; the input reads as it did. -/
def goodsTurnedSpec : ChangeSpec := { name := "goodsTurned", fn := fun _ => fun
  | [d1, d2, d3, d4, d5] => { results := [.lit (.bool true)], args := [d1, d2, d3, d4, d5] }
  | _ => none }
def goodsTurnedRow : OpenClaim := { program := "ytphknfgiljkjaaa", sum := "c4817a529874a50f4c98447ff02082515cad056fdbcfa3f4cb7ff8f40fbcdb71", func := "haberdash/haberdashlaw10.GoodsTurned", spec := "goodsTurned", unfollowed := true, recurses := true, apart := false }
def GoodsTurnedSaid : Prop := goodsTurnedRow.holds Try.pinned (OpenSpec.ofChange goodsTurnedSpec)

/-- ITS FALSE NEIGHBOUR: 'it returns false'. Refute it at one input. -/
def goodsTurnedWrong : ChangeSpec := { name := "goodsTurned", fn := fun _ => fun
  | [d1, d2, d3, d4, d5] => { results := [.lit (.bool false)], args := [d1, d2, d3, d4, d5] }
  | _ => none }
def GoodsTurnedWrongFalsely : Prop := goodsTurnedRow.holds Try.pinned (OpenSpec.ofChange goodsTurnedWrong)

/-- 'haberdashlaw10.GoodsFinds': WHATEVER THE INPUT: true; the input reads as it did. -/
def goodsFindsSpec : ChangeSpec := { name := "goodsFinds", fn := fun _ => fun
  | [d1, d2] => { results := [.lit (.bool true)], args := [d1, d2] }
  | _ => none }
def goodsFindsRow : OpenClaim := { program := "ytphknfgiljkjaaa", sum := "c4817a529874a50f4c98447ff02082515cad056fdbcfa3f4cb7ff8f40fbcdb71", func := "haberdash/haberdashlaw10.GoodsFinds", spec := "goodsFinds", unfollowed := true, recurses := true, apart := false }
def GoodsFindsSaid : Prop := goodsFindsRow.holds Try.pinned (OpenSpec.ofChange goodsFindsSpec)

/-- ITS FALSE NEIGHBOUR: 'it returns false'. Refute it at one input. -/
def goodsFindsWrong : ChangeSpec := { name := "goodsFinds", fn := fun _ => fun
  | [d1, d2] => { results := [.lit (.bool false)], args := [d1, d2] }
  | _ => none }
def GoodsFindsWrongFalsely : Prop := goodsFindsRow.holds Try.pinned (OpenSpec.ofChange goodsFindsWrong)

/-- 'haberdashlaw10.GoodsMany': WHATEVER THE INPUT: true; the input reads as it did. -/
def goodsManySpec : ChangeSpec := { name := "goodsMany", fn := fun _ => fun
  | [d1, d2] => { results := [.lit (.bool true)], args := [d1, d2] }
  | _ => none }
def goodsManyRow : OpenClaim := { program := "ytphknfgiljkjaaa", sum := "c4817a529874a50f4c98447ff02082515cad056fdbcfa3f4cb7ff8f40fbcdb71", func := "haberdash/haberdashlaw10.GoodsMany", spec := "goodsMany", unfollowed := true, recurses := true, apart := false }
def GoodsManySaid : Prop := goodsManyRow.holds Try.pinned (OpenSpec.ofChange goodsManySpec)

/-- ITS FALSE NEIGHBOUR: 'it returns false'. Refute it at one input. -/
def goodsManyWrong : ChangeSpec := { name := "goodsMany", fn := fun _ => fun
  | [d1, d2] => { results := [.lit (.bool false)], args := [d1, d2] }
  | _ => none }
def GoodsManyWrongFalsely : Prop := goodsManyRow.holds Try.pinned (OpenSpec.ofChange goodsManyWrong)

/- THE SECOND FORM. 'bulk': how many values and letters a reading holds, each counted each time it is reached (what is shared counts as often as it is met; a slice's spare places count too). A statement '..UptoSaid' is the law's where the arguments, and the package variables that the reading takes, are together of bulk at most 1048576: NARROWER than '..Said'. Prove '..Said' where nothing that the law and all that it calls make is longer than what came in: it says more and counts as full. Else prove '..UptoSaid'. A law counts once. -/
mutual
def uptoBulk {H : Type} : DataW H → Nat
  | .lit (.string bytes) => bytes.length + 1
  | .lit _ => 1
  | .nil => 1
  | .ptr d => uptoBulk d + 1
  | .slice elems spare => uptoBulkAll elems + uptoBulkAll spare + 1
  | .agg parts => uptoBulkAll parts + 1
  | .iface _ d => uptoBulk d + 1
  | .map entries => uptoBulkEntries entries + 1
  | .held _ => 1
def uptoBulkAll {H : Type} : List (DataW H) → Nat
  | [] => 0
  | d :: r => uptoBulk d + uptoBulkAll r
def uptoBulkEntries {H : Type} : List (Lit × DataW H) → Nat
  | [] => 0
  | x :: r => uptoBulkEntry x + uptoBulkEntries r
def uptoBulkEntry {H : Type} : Lit × DataW H → Nat
  | (.string bytes, d) => bytes.length + uptoBulk d + 1
  | (_, d) => uptoBulk d + 1
 end
def uptoSmall : (H : Type) → List (DataW H) → Bool := fun _ ds => decide (uptoBulkAll ds ≤ 1048576)
def OpenSpec.upto (s : _root_.Go.ChangeSpec) : _root_.Go.OpenSpec := { _root_.Go.OpenSpec.ofChange s with cond := some uptoSmall }

/-- 'haberdashlaw11.ScopeAll', WHERE WHAT IT READS IS OF BULK AT MOST 1048576: true; the input reads as it did. -/
def scopeAllUptoRow : OpenClaim := { program := "ytphknfgiljkjaaa", sum := "c4817a529874a50f4c98447ff02082515cad056fdbcfa3f4cb7ff8f40fbcdb71", func := "haberdash/haberdashlaw11.ScopeAll", spec := "scopeAll", unfollowed := true, recurses := true, apart := false, narrowed := true }
def ScopeAllUptoSaid : Prop := scopeAllUptoRow.holds Try.pinned (OpenSpec.upto scopeAllSpec)

/-- 'haberdashlaw11.ScopeWider', WHERE WHAT IT READS IS OF BULK AT MOST 1048576: true; the input reads as it did. -/
def scopeWiderUptoRow : OpenClaim := { program := "ytphknfgiljkjaaa", sum := "c4817a529874a50f4c98447ff02082515cad056fdbcfa3f4cb7ff8f40fbcdb71", func := "haberdash/haberdashlaw11.ScopeWider", spec := "scopeWider", unfollowed := true, recurses := true, apart := false, narrowed := true }
def ScopeWiderUptoSaid : Prop := scopeWiderUptoRow.holds Try.pinned (OpenSpec.upto scopeWiderSpec)

/-- 'haberdashlaw11.ScopeTurned', WHERE WHAT IT READS IS OF BULK AT MOST 1048576: true; the input reads as it did. -/
def scopeTurnedUptoRow : OpenClaim := { program := "ytphknfgiljkjaaa", sum := "c4817a529874a50f4c98447ff02082515cad056fdbcfa3f4cb7ff8f40fbcdb71", func := "haberdash/haberdashlaw11.ScopeTurned", spec := "scopeTurned", unfollowed := true, recurses := true, apart := false, narrowed := true }
def ScopeTurnedUptoSaid : Prop := scopeTurnedUptoRow.holds Try.pinned (OpenSpec.upto scopeTurnedSpec)

/-- 'haberdashlaw11.ScopeNear', WHERE WHAT IT READS IS OF BULK AT MOST 1048576: true; the input reads as it did. -/
def scopeNearUptoRow : OpenClaim := { program := "ytphknfgiljkjaaa", sum := "c4817a529874a50f4c98447ff02082515cad056fdbcfa3f4cb7ff8f40fbcdb71", func := "haberdash/haberdashlaw11.ScopeNear", spec := "scopeNear", unfollowed := true, recurses := true, apart := false, narrowed := true }
def ScopeNearUptoSaid : Prop := scopeNearUptoRow.holds Try.pinned (OpenSpec.upto scopeNearSpec)

/-- 'haberdashlaw10.GoodsNames', WHERE WHAT IT READS IS OF BULK AT MOST 1048576: true; the input reads as it did. -/
def goodsNamesUptoRow : OpenClaim := { program := "ytphknfgiljkjaaa", sum := "c4817a529874a50f4c98447ff02082515cad056fdbcfa3f4cb7ff8f40fbcdb71", func := "haberdash/haberdashlaw10.GoodsNames", spec := "goodsNames", unfollowed := true, recurses := true, apart := false, narrowed := true }
def GoodsNamesUptoSaid : Prop := goodsNamesUptoRow.holds Try.pinned (OpenSpec.upto goodsNamesSpec)

/-- 'haberdashlaw10.GoodsRight', WHERE WHAT IT READS IS OF BULK AT MOST 1048576: true; the input reads as it did. -/
def goodsRightUptoRow : OpenClaim := { program := "ytphknfgiljkjaaa", sum := "c4817a529874a50f4c98447ff02082515cad056fdbcfa3f4cb7ff8f40fbcdb71", func := "haberdash/haberdashlaw10.GoodsRight", spec := "goodsRight", unfollowed := true, recurses := true, apart := false, narrowed := true }
def GoodsRightUptoSaid : Prop := goodsRightUptoRow.holds Try.pinned (OpenSpec.upto goodsRightSpec)

/-- 'haberdashlaw10.GoodsTurned', WHERE WHAT IT READS IS OF BULK AT MOST 1048576: true; the input reads as it did. -/
def goodsTurnedUptoRow : OpenClaim := { program := "ytphknfgiljkjaaa", sum := "c4817a529874a50f4c98447ff02082515cad056fdbcfa3f4cb7ff8f40fbcdb71", func := "haberdash/haberdashlaw10.GoodsTurned", spec := "goodsTurned", unfollowed := true, recurses := true, apart := false, narrowed := true }
def GoodsTurnedUptoSaid : Prop := goodsTurnedUptoRow.holds Try.pinned (OpenSpec.upto goodsTurnedSpec)

/-- 'haberdashlaw10.GoodsFinds', WHERE WHAT IT READS IS OF BULK AT MOST 1048576: true; the input reads as it did. -/
def goodsFindsUptoRow : OpenClaim := { program := "ytphknfgiljkjaaa", sum := "c4817a529874a50f4c98447ff02082515cad056fdbcfa3f4cb7ff8f40fbcdb71", func := "haberdash/haberdashlaw10.GoodsFinds", spec := "goodsFinds", unfollowed := true, recurses := true, apart := false, narrowed := true }
def GoodsFindsUptoSaid : Prop := goodsFindsUptoRow.holds Try.pinned (OpenSpec.upto goodsFindsSpec)

/-- 'haberdashlaw10.GoodsMany', WHERE WHAT IT READS IS OF BULK AT MOST 1048576: true; the input reads as it did. -/
def goodsManyUptoRow : OpenClaim := { program := "ytphknfgiljkjaaa", sum := "c4817a529874a50f4c98447ff02082515cad056fdbcfa3f4cb7ff8f40fbcdb71", func := "haberdash/haberdashlaw10.GoodsMany", spec := "goodsMany", unfollowed := true, recurses := true, apart := false, narrowed := true }
def GoodsManyUptoSaid : Prop := goodsManyUptoRow.holds Try.pinned (OpenSpec.upto goodsManySpec)

end Rows
end Go.Proofs.Ytphknfgiljkjaaa
