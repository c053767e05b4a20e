/-
  No cell of these rows narrows 'for every input' (looked for: loops, veiled, ifaces, maps, wideKeys, modest, calm, conditions, laid).
  DERIVED. THE GIVEN ROWS OF THIS SEAT. 9 by the template 'for every input the law returns true; each argument reads behind the call as it read before'; 0 by the template 'total and deterministic' (their statements: YtikbagggffehkaaTotals.lean).
  GIVEN WITH THE SEED: the statements are not yours to turn. If you find one false, say at which input.
  Laid BY PROGRAM, IN A SANDBOX (cutbox-rows.mjs): the forced cells as the released guide's own fill.sh prints them over the translation ffee6438eb06b825… (all of the seat's roots in one cut). By AI agents, Wed Nov 11 2026. No macro, syntax, notation, axiom, sorry.
-/
import Derived.Test.YtikbagggffehkaaChecked
import GoSem.Claim
import GoSem.ClaimJoined
import GoSem.ClaimMapViews
import Derived.JoinedTies
import Derived.KernelRfl
namespace Go.Proofs.Ytikbagggffehkaa
/- THE CELL 'sum', in the pinned program and in every row, IS THE sha256 OF THE DUMP (.gsa) THAT YtikbagggffehkaaProg.lean LOADS. Nothing in Lean hashes anything: it is a label: what it is worth is what the hold of that sum in a sandbox is worth. -/
noncomputable def Try.pinned : Pinned := { name := "ytikbagggffehkaa", sum := "ffee6438eb06b825584aecb063035b8d3f7fd9f9fb8266945c0ffd62c1216351", checked := Try.checked }
namespace Rows
def none {H : Type} : Left H := { results := [], args := [] }

/-- 'haberdashlaw14.BasketRaw': WHATEVER THE INPUT: true; the input reads as it did. -/
def basketRawSpec : ChangeSpec := { name := "basketRaw", fn := fun _ => fun
  | [d1, d2] => { results := [.lit (.bool true)], args := [d1, d2] }
  | _ => none }
def basketRawRow : OpenClaim := { program := "ytikbagggffehkaa", sum := "ffee6438eb06b825584aecb063035b8d3f7fd9f9fb8266945c0ffd62c1216351", func := "haberdash/haberdashlaw14.BasketRaw", spec := "basketRaw", unfollowed := true, recurses := true, apart := false }
def BasketRawSaid : Prop := basketRawRow.holds Try.pinned (OpenSpec.ofChange basketRawSpec)

/-- ITS FALSE NEIGHBOUR: 'it returns false'. Refute it at one input. -/
def basketRawWrong : ChangeSpec := { name := "basketRaw", fn := fun _ => fun
  | [d1, d2] => { results := [.lit (.bool false)], args := [d1, d2] }
  | _ => none }
def BasketRawWrongFalsely : Prop := basketRawRow.holds Try.pinned (OpenSpec.ofChange basketRawWrong)

/-- 'haberdashlaw14.BasketNear': WHATEVER THE INPUT: true; the input reads as it did. -/
def basketNearSpec : ChangeSpec := { name := "basketNear", fn := fun _ => fun
  | [d1, d2] => { results := [.lit (.bool true)], args := [d1, d2] }
  | _ => none }
def basketNearRow : OpenClaim := { program := "ytikbagggffehkaa", sum := "ffee6438eb06b825584aecb063035b8d3f7fd9f9fb8266945c0ffd62c1216351", func := "haberdash/haberdashlaw14.BasketNear", spec := "basketNear", unfollowed := true, recurses := true, apart := false }
def BasketNearSaid : Prop := basketNearRow.holds Try.pinned (OpenSpec.ofChange basketNearSpec)

/-- ITS FALSE NEIGHBOUR: 'it returns false'. Refute it at one input. -/
def basketNearWrong : ChangeSpec := { name := "basketNear", fn := fun _ => fun
  | [d1, d2] => { results := [.lit (.bool false)], args := [d1, d2] }
  | _ => none }
def BasketNearWrongFalsely : Prop := basketNearRow.holds Try.pinned (OpenSpec.ofChange basketNearWrong)

/-- 'haberdashlaw14.BasketTurned': WHATEVER THE INPUT: true; the input reads as it did. -/
def basketTurnedSpec : ChangeSpec := { name := "basketTurned", fn := fun _ => fun
  | [d1, d2, d3, d4, d5, d6, d7] => { results := [.lit (.bool true)], args := [d1, d2, d3, d4, d5, d6, d7] }
  | _ => none }
def basketTurnedRow : OpenClaim := { program := "ytikbagggffehkaa", sum := "ffee6438eb06b825584aecb063035b8d3f7fd9f9fb8266945c0ffd62c1216351", func := "haberdash/haberdashlaw14.BasketTurned", spec := "basketTurned", unfollowed := true, recurses := true, apart := false }
def BasketTurnedSaid : Prop := basketTurnedRow.holds Try.pinned (OpenSpec.ofChange basketTurnedSpec)

/-- ITS FALSE NEIGHBOUR: 'it returns false'. Refute it at one input. -/
def basketTurnedWrong : ChangeSpec := { name := "basketTurned", fn := fun _ => fun
  | [d1, d2, d3, d4, d5, d6, d7] => { results := [.lit (.bool false)], args := [d1, d2, d3, d4, d5, d6, d7] }
  | _ => none }
def BasketTurnedWrongFalsely : Prop := basketTurnedRow.holds Try.pinned (OpenSpec.ofChange basketTurnedWrong)

/-- 'haberdashlaw14.BasketBounds': WHATEVER THE INPUT: true; the input reads as it did. -/
def basketBoundsSpec : ChangeSpec := { name := "basketBounds", fn := fun _ => fun
  | [d1, d2] => { results := [.lit (.bool true)], args := [d1, d2] }
  | _ => none }
def basketBoundsRow : OpenClaim := { program := "ytikbagggffehkaa", sum := "ffee6438eb06b825584aecb063035b8d3f7fd9f9fb8266945c0ffd62c1216351", func := "haberdash/haberdashlaw14.BasketBounds", spec := "basketBounds", unfollowed := true, recurses := true, apart := false }
def BasketBoundsSaid : Prop := basketBoundsRow.holds Try.pinned (OpenSpec.ofChange basketBoundsSpec)

/-- ITS FALSE NEIGHBOUR: 'it returns false'. Refute it at one input. -/
def basketBoundsWrong : ChangeSpec := { name := "basketBounds", fn := fun _ => fun
  | [d1, d2] => { results := [.lit (.bool false)], args := [d1, d2] }
  | _ => none }
def BasketBoundsWrongFalsely : Prop := basketBoundsRow.holds Try.pinned (OpenSpec.ofChange basketBoundsWrong)

/-- 'haberdashlaw14.BasketJoin': WHATEVER THE INPUT: true; the input reads as it did. -/
def basketJoinSpec : ChangeSpec := { name := "basketJoin", fn := fun _ => fun
  | [d1, d2] => { results := [.lit (.bool true)], args := [d1, d2] }
  | _ => none }
def basketJoinRow : OpenClaim := { program := "ytikbagggffehkaa", sum := "ffee6438eb06b825584aecb063035b8d3f7fd9f9fb8266945c0ffd62c1216351", func := "haberdash/haberdashlaw14.BasketJoin", spec := "basketJoin", unfollowed := true, recurses := true, apart := false }
def BasketJoinSaid : Prop := basketJoinRow.holds Try.pinned (OpenSpec.ofChange basketJoinSpec)

/-- ITS FALSE NEIGHBOUR: 'it returns false'. Refute it at one input. -/
def basketJoinWrong : ChangeSpec := { name := "basketJoin", fn := fun _ => fun
  | [d1, d2] => { results := [.lit (.bool false)], args := [d1, d2] }
  | _ => none }
def BasketJoinWrongFalsely : Prop := basketJoinRow.holds Try.pinned (OpenSpec.ofChange basketJoinWrong)

/-- 'haberdashlaw26.KeysRaw': WHATEVER THE INPUT: true; the input reads as it did. -/
def keysRawSpec : ChangeSpec := { name := "keysRaw", fn := fun _ => fun
  | [d1, d2, d3, d4] => { results := [.lit (.bool true)], args := [d1, d2, d3, d4] }
  | _ => none }
def keysRawRow : OpenClaim := { program := "ytikbagggffehkaa", sum := "ffee6438eb06b825584aecb063035b8d3f7fd9f9fb8266945c0ffd62c1216351", func := "haberdash/haberdashlaw26.KeysRaw", spec := "keysRaw", inPlace := ["slices.overlaps[haberdash/api.Seen]"], unfollowed := true, recurses := true, apart := false }
def KeysRawSaid : Prop := keysRawRow.holds Try.pinned (OpenSpec.ofChange keysRawSpec)

/-- ITS FALSE NEIGHBOUR: 'it returns false'. Refute it at one input. -/
def keysRawWrong : ChangeSpec := { name := "keysRaw", fn := fun _ => fun
  | [d1, d2, d3, d4] => { results := [.lit (.bool false)], args := [d1, d2, d3, d4] }
  | _ => none }
def KeysRawWrongFalsely : Prop := keysRawRow.holds Try.pinned (OpenSpec.ofChange keysRawWrong)

/-- 'haberdashlaw26.KeysPlays': WHATEVER THE INPUT: true; the input reads as it did. -/
def keysPlaysSpec : ChangeSpec := { name := "keysPlays", fn := fun _ => fun
  | [d1, d2] => { results := [.lit (.bool true)], args := [d1, d2] }
  | _ => none }
def keysPlaysRow : OpenClaim := { program := "ytikbagggffehkaa", sum := "ffee6438eb06b825584aecb063035b8d3f7fd9f9fb8266945c0ffd62c1216351", func := "haberdash/haberdashlaw26.KeysPlays", spec := "keysPlays", inPlace := ["slices.overlaps[haberdash/api.Seen]"], unfollowed := true, recurses := true, apart := false }
def KeysPlaysSaid : Prop := keysPlaysRow.holds Try.pinned (OpenSpec.ofChange keysPlaysSpec)

/-- ITS FALSE NEIGHBOUR: 'it returns false'. Refute it at one input. -/
def keysPlaysWrong : ChangeSpec := { name := "keysPlays", fn := fun _ => fun
  | [d1, d2] => { results := [.lit (.bool false)], args := [d1, d2] }
  | _ => none }
def KeysPlaysWrongFalsely : Prop := keysPlaysRow.holds Try.pinned (OpenSpec.ofChange keysPlaysWrong)

/-- 'haberdashlaw26.KeysStay': WHATEVER THE INPUT: true; the input reads as it did. -/
def keysStaySpec : ChangeSpec := { name := "keysStay", fn := fun _ => fun
  | [d1, d2, d3] => { results := [.lit (.bool true)], args := [d1, d2, d3] }
  | _ => none }
def keysStayRow : OpenClaim := { program := "ytikbagggffehkaa", sum := "ffee6438eb06b825584aecb063035b8d3f7fd9f9fb8266945c0ffd62c1216351", func := "haberdash/haberdashlaw26.KeysStay", spec := "keysStay", inPlace := ["slices.overlaps[haberdash/api.Seen]"], unfollowed := true, recurses := true, apart := false }
def KeysStaySaid : Prop := keysStayRow.holds Try.pinned (OpenSpec.ofChange keysStaySpec)

/-- ITS FALSE NEIGHBOUR: 'it returns false'. Refute it at one input. -/
def keysStayWrong : ChangeSpec := { name := "keysStay", fn := fun _ => fun
  | [d1, d2, d3] => { results := [.lit (.bool false)], args := [d1, d2, d3] }
  | _ => none }
def KeysStayWrongFalsely : Prop := keysStayRow.holds Try.pinned (OpenSpec.ofChange keysStayWrong)

/-- 'haberdashlaw26.KeysErrors': WHATEVER THE INPUT: true; the input reads as it did. -/
def keysErrorsSpec : ChangeSpec := { name := "keysErrors", fn := fun _ => fun
  | [d1, d2] => { results := [.lit (.bool true)], args := [d1, d2] }
  | _ => none }
def keysErrorsRow : OpenClaim := { program := "ytikbagggffehkaa", sum := "ffee6438eb06b825584aecb063035b8d3f7fd9f9fb8266945c0ffd62c1216351", func := "haberdash/haberdashlaw26.KeysErrors", spec := "keysErrors", inPlace := ["slices.overlaps[haberdash/api.Seen]"], unfollowed := true, recurses := true, apart := false }
def KeysErrorsSaid : Prop := keysErrorsRow.holds Try.pinned (OpenSpec.ofChange keysErrorsSpec)

/-- ITS FALSE NEIGHBOUR: 'it returns false'. Refute it at one input. -/
def keysErrorsWrong : ChangeSpec := { name := "keysErrors", fn := fun _ => fun
  | [d1, d2] => { results := [.lit (.bool false)], args := [d1, d2] }
  | _ => none }
def KeysErrorsWrongFalsely : Prop := keysErrorsRow.holds Try.pinned (OpenSpec.ofChange keysErrorsWrong)

/- THE SECOND FORM. 'bulk': how many values and letters a reading holds, each counted each time it is reached (what is shared counts as often as it is met; a slice's spare places count too). A statement '..UptoSaid' is the law's where the arguments, and the package variables that the reading takes, are together of bulk at most 1048576: NARROWER than '..Said'. Prove '..Said' where nothing that the law and all that it calls make is longer than what came in: it says more and counts as full. Else prove '..UptoSaid'. A law counts once. -/
mutual
def uptoBulk {H : Type} : DataW H → Nat
  | .lit (.string bytes) => bytes.length + 1
  | .lit _ => 1
  | .nil => 1
  | .ptr d => uptoBulk d + 1
  | .slice elems spare => uptoBulkAll elems + uptoBulkAll spare + 1
  | .agg parts => uptoBulkAll parts + 1
  | .iface _ d => uptoBulk d + 1
  | .map entries => uptoBulkEntries entries + 1
  | .held _ => 1
def uptoBulkAll {H : Type} : List (DataW H) → Nat
  | [] => 0
  | d :: r => uptoBulk d + uptoBulkAll r
def uptoBulkEntries {H : Type} : List (Lit × DataW H) → Nat
  | [] => 0
  | x :: r => uptoBulkEntry x + uptoBulkEntries r
def uptoBulkEntry {H : Type} : Lit × DataW H → Nat
  | (.string bytes, d) => bytes.length + uptoBulk d + 1
  | (_, d) => uptoBulk d + 1
 end
def uptoSmall : (H : Type) → List (DataW H) → Bool := fun _ ds => decide (uptoBulkAll ds ≤ 1048576)
def OpenSpec.upto (s : _root_.Go.ChangeSpec) : _root_.Go.OpenSpec := { _root_.Go.OpenSpec.ofChange s with cond := some uptoSmall }

/-- 'haberdashlaw14.BasketRaw', WHERE WHAT IT READS IS OF BULK AT MOST 1048576: true; the input reads as it did. -/
def basketRawUptoRow : OpenClaim := { program := "ytikbagggffehkaa", sum := "ffee6438eb06b825584aecb063035b8d3f7fd9f9fb8266945c0ffd62c1216351", func := "haberdash/haberdashlaw14.BasketRaw", spec := "basketRaw", unfollowed := true, recurses := true, apart := false, narrowed := true }
def BasketRawUptoSaid : Prop := basketRawUptoRow.holds Try.pinned (OpenSpec.upto basketRawSpec)

/-- 'haberdashlaw14.BasketNear', WHERE WHAT IT READS IS OF BULK AT MOST 1048576: true; the input reads as it did. -/
def basketNearUptoRow : OpenClaim := { program := "ytikbagggffehkaa", sum := "ffee6438eb06b825584aecb063035b8d3f7fd9f9fb8266945c0ffd62c1216351", func := "haberdash/haberdashlaw14.BasketNear", spec := "basketNear", unfollowed := true, recurses := true, apart := false, narrowed := true }
def BasketNearUptoSaid : Prop := basketNearUptoRow.holds Try.pinned (OpenSpec.upto basketNearSpec)

/-- 'haberdashlaw14.BasketTurned', WHERE WHAT IT READS IS OF BULK AT MOST 1048576: true; the input reads as it did. -/
def basketTurnedUptoRow : OpenClaim := { program := "ytikbagggffehkaa", sum := "ffee6438eb06b825584aecb063035b8d3f7fd9f9fb8266945c0ffd62c1216351", func := "haberdash/haberdashlaw14.BasketTurned", spec := "basketTurned", unfollowed := true, recurses := true, apart := false, narrowed := true }
def BasketTurnedUptoSaid : Prop := basketTurnedUptoRow.holds Try.pinned (OpenSpec.upto basketTurnedSpec)

/-- 'haberdashlaw14.BasketBounds', WHERE WHAT IT READS IS OF BULK AT MOST 1048576: true; the input reads as it did. -/
def basketBoundsUptoRow : OpenClaim := { program := "ytikbagggffehkaa", sum := "ffee6438eb06b825584aecb063035b8d3f7fd9f9fb8266945c0ffd62c1216351", func := "haberdash/haberdashlaw14.BasketBounds", spec := "basketBounds", unfollowed := true, recurses := true, apart := false, narrowed := true }
def BasketBoundsUptoSaid : Prop := basketBoundsUptoRow.holds Try.pinned (OpenSpec.upto basketBoundsSpec)

/-- 'haberdashlaw14.BasketJoin', WHERE WHAT IT READS IS OF BULK AT MOST 1048576: true; the input reads as it did. -/
def basketJoinUptoRow : OpenClaim := { program := "ytikbagggffehkaa", sum := "ffee6438eb06b825584aecb063035b8d3f7fd9f9fb8266945c0ffd62c1216351", func := "haberdash/haberdashlaw14.BasketJoin", spec := "basketJoin", unfollowed := true, recurses := true, apart := false, narrowed := true }
def BasketJoinUptoSaid : Prop := basketJoinUptoRow.holds Try.pinned (OpenSpec.upto basketJoinSpec)

/-- 'haberdashlaw26.KeysRaw', WHERE WHAT IT READS IS OF BULK AT MOST 1048576: true; the input reads as it did. -/
def keysRawUptoRow : OpenClaim := { program := "ytikbagggffehkaa", sum := "ffee6438eb06b825584aecb063035b8d3f7fd9f9fb8266945c0ffd62c1216351", func := "haberdash/haberdashlaw26.KeysRaw", spec := "keysRaw", inPlace := ["slices.overlaps[haberdash/api.Seen]"], unfollowed := true, recurses := true, apart := false, narrowed := true }
def KeysRawUptoSaid : Prop := keysRawUptoRow.holds Try.pinned (OpenSpec.upto keysRawSpec)

/-- 'haberdashlaw26.KeysPlays', WHERE WHAT IT READS IS OF BULK AT MOST 1048576: true; the input reads as it did. -/
def keysPlaysUptoRow : OpenClaim := { program := "ytikbagggffehkaa", sum := "ffee6438eb06b825584aecb063035b8d3f7fd9f9fb8266945c0ffd62c1216351", func := "haberdash/haberdashlaw26.KeysPlays", spec := "keysPlays", inPlace := ["slices.overlaps[haberdash/api.Seen]"], unfollowed := true, recurses := true, apart := false, narrowed := true }
def KeysPlaysUptoSaid : Prop := keysPlaysUptoRow.holds Try.pinned (OpenSpec.upto keysPlaysSpec)

/-- 'haberdashlaw26.KeysStay', WHERE WHAT IT READS IS OF BULK AT MOST 1048576: true; the input reads as it did. -/
def keysStayUptoRow : OpenClaim := { program := "ytikbagggffehkaa", sum := "ffee6438eb06b825584aecb063035b8d3f7fd9f9fb8266945c0ffd62c1216351", func := "haberdash/haberdashlaw26.KeysStay", spec := "keysStay", inPlace := ["slices.overlaps[haberdash/api.Seen]"], unfollowed := true, recurses := true, apart := false, narrowed := true }
def KeysStayUptoSaid : Prop := keysStayUptoRow.holds Try.pinned (OpenSpec.upto keysStaySpec)

/-- 'haberdashlaw26.KeysErrors', WHERE WHAT IT READS IS OF BULK AT MOST 1048576: true; the input reads as it did. -/
def keysErrorsUptoRow : OpenClaim := { program := "ytikbagggffehkaa", sum := "ffee6438eb06b825584aecb063035b8d3f7fd9f9fb8266945c0ffd62c1216351", func := "haberdash/haberdashlaw26.KeysErrors", spec := "keysErrors", inPlace := ["slices.overlaps[haberdash/api.Seen]"], unfollowed := true, recurses := true, apart := false, narrowed := true }
def KeysErrorsUptoSaid : Prop := keysErrorsUptoRow.holds Try.pinned (OpenSpec.upto keysErrorsSpec)

end Rows
end Go.Proofs.Ytikbagggffehkaa
