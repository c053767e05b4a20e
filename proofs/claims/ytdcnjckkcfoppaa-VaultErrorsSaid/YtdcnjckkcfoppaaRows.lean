/-
  No cell of these rows narrows 'for every input' (looked for: loops, veiled, ifaces, maps, wideKeys, modest, calm, conditions, laid).
  DERIVED. THE GIVEN ROWS OF THIS SEAT. 11 by the template 'for every input the law returns true; each argument reads behind the call as it read before'; 0 by the template 'total and deterministic' (their statements: YtdcnjckkcfoppaaTotals.lean).
  GIVEN WITH THE SEED: the statements are not yours to turn. If you find one false, say at which input.
  Laid BY PROGRAM, IN A SANDBOX (cutbox-rows.mjs): the forced cells as the released guide's own fill.sh prints them over the translation ae09102ff5215110… (all of the seat's roots in one cut). By AI agents, Wed Nov 11 2026. No macro, syntax, notation, axiom, sorry.
-/
import Derived.Test.YtdcnjckkcfoppaaChecked
import GoSem.Claim
import GoSem.ClaimJoined
import GoSem.ClaimMapViews
import Derived.JoinedTies
import Derived.KernelRfl
namespace Go.Proofs.Ytdcnjckkcfoppaa
/- THE CELL 'sum', in the pinned program and in every row, IS THE sha256 OF THE DUMP (.gsa) THAT YtdcnjckkcfoppaaProg.lean LOADS. Nothing in Lean hashes anything: it is a label: what it is worth is what the hold of that sum in a sandbox is worth. -/
noncomputable def Try.pinned : Pinned := { name := "ytdcnjckkcfoppaa", sum := "ae09102ff5215110bb7ac39117e6f6d9c13bd2b69aa83ea53db0516b3a938e17", checked := Try.checked }
namespace Rows
def none {H : Type} : Left H := { results := [], args := [] }

/-- 'haberdashlaw08.JournalNeeds': WHATEVER THE INPUT: true; the input reads as it did. -/
def journalNeedsSpec : ChangeSpec := { name := "journalNeeds", fn := fun _ => fun
  | [d1, d2] => { results := [.lit (.bool true)], args := [d1, d2] }
  | _ => none }
def journalNeedsRow : OpenClaim := { program := "ytdcnjckkcfoppaa", sum := "ae09102ff5215110bb7ac39117e6f6d9c13bd2b69aa83ea53db0516b3a938e17", func := "haberdash/haberdashlaw08.JournalNeeds", spec := "journalNeeds", apart := false }
def JournalNeedsSaid : Prop := journalNeedsRow.holds Try.pinned (OpenSpec.ofChange journalNeedsSpec)

/-- ITS FALSE NEIGHBOUR: 'it returns false'. Refute it at one input. -/
def journalNeedsWrong : ChangeSpec := { name := "journalNeeds", fn := fun _ => fun
  | [d1, d2] => { results := [.lit (.bool false)], args := [d1, d2] }
  | _ => none }
def JournalNeedsWrongFalsely : Prop := journalNeedsRow.holds Try.pinned (OpenSpec.ofChange journalNeedsWrong)

/-- 'haberdashlaw08.JournalOwn': WHATEVER THE INPUT: true; the input reads as it did. -/
def journalOwnSpec : ChangeSpec := { name := "journalOwn", fn := fun _ => fun
  | [d] => { results := [.lit (.bool true)], args := [d] }
  | _ => none }
def journalOwnRow : OpenClaim := { program := "ytdcnjckkcfoppaa", sum := "ae09102ff5215110bb7ac39117e6f6d9c13bd2b69aa83ea53db0516b3a938e17", func := "haberdash/haberdashlaw08.JournalOwn", spec := "journalOwn", unfollowed := true, recurses := true, apart := false }
def JournalOwnSaid : Prop := journalOwnRow.holds Try.pinned (OpenSpec.ofChange journalOwnSpec)

/-- ITS FALSE NEIGHBOUR: 'it returns false'. Refute it at one input. -/
def journalOwnWrong : ChangeSpec := { name := "journalOwn", fn := fun _ => fun
  | [d] => { results := [.lit (.bool false)], args := [d] }
  | _ => none }
def JournalOwnWrongFalsely : Prop := journalOwnRow.holds Try.pinned (OpenSpec.ofChange journalOwnWrong)

/-- 'haberdashlaw08.JournalSkips': WHATEVER THE INPUT: true; the input reads as it did. -/
def journalSkipsSpec : ChangeSpec := { name := "journalSkips", fn := fun _ => fun
  | [d1, d2] => { results := [.lit (.bool true)], args := [d1, d2] }
  | _ => none }
def journalSkipsRow : OpenClaim := { program := "ytdcnjckkcfoppaa", sum := "ae09102ff5215110bb7ac39117e6f6d9c13bd2b69aa83ea53db0516b3a938e17", func := "haberdash/haberdashlaw08.JournalSkips", spec := "journalSkips", unfollowed := true, recurses := true, apart := false }
def JournalSkipsSaid : Prop := journalSkipsRow.holds Try.pinned (OpenSpec.ofChange journalSkipsSpec)

/-- ITS FALSE NEIGHBOUR: 'it returns false'. Refute it at one input. -/
def journalSkipsWrong : ChangeSpec := { name := "journalSkips", fn := fun _ => fun
  | [d1, d2] => { results := [.lit (.bool false)], args := [d1, d2] }
  | _ => none }
def JournalSkipsWrongFalsely : Prop := journalSkipsRow.holds Try.pinned (OpenSpec.ofChange journalSkipsWrong)

/-- 'haberdashlaw08.JournalErrors': WHATEVER THE INPUT: true; the input reads as it did. -/
def journalErrorsSpec : ChangeSpec := { name := "journalErrors", fn := fun _ => fun
  | [d1, d2, d3, d4] => { results := [.lit (.bool true)], args := [d1, d2, d3, d4] }
  | _ => none }
def journalErrorsRow : OpenClaim := { program := "ytdcnjckkcfoppaa", sum := "ae09102ff5215110bb7ac39117e6f6d9c13bd2b69aa83ea53db0516b3a938e17", func := "haberdash/haberdashlaw08.JournalErrors", spec := "journalErrors", unfollowed := true, recurses := true, apart := false }
def JournalErrorsSaid : Prop := journalErrorsRow.holds Try.pinned (OpenSpec.ofChange journalErrorsSpec)

/-- ITS FALSE NEIGHBOUR: 'it returns false'. Refute it at one input. -/
def journalErrorsWrong : ChangeSpec := { name := "journalErrors", fn := fun _ => fun
  | [d1, d2, d3, d4] => { results := [.lit (.bool false)], args := [d1, d2, d3, d4] }
  | _ => none }
def JournalErrorsWrongFalsely : Prop := journalErrorsRow.holds Try.pinned (OpenSpec.ofChange journalErrorsWrong)

/-- 'haberdashlaw08.JournalPlays': WHATEVER THE INPUT: true; the input reads as it did. -/
def journalPlaysSpec : ChangeSpec := { name := "journalPlays", fn := fun _ => fun
  | [d1, d2, d3] => { results := [.lit (.bool true)], args := [d1, d2, d3] }
  | _ => none }
def journalPlaysRow : OpenClaim := { program := "ytdcnjckkcfoppaa", sum := "ae09102ff5215110bb7ac39117e6f6d9c13bd2b69aa83ea53db0516b3a938e17", func := "haberdash/haberdashlaw08.JournalPlays", spec := "journalPlays", unfollowed := true, recurses := true, apart := false }
def JournalPlaysSaid : Prop := journalPlaysRow.holds Try.pinned (OpenSpec.ofChange journalPlaysSpec)

/-- ITS FALSE NEIGHBOUR: 'it returns false'. Refute it at one input. -/
def journalPlaysWrong : ChangeSpec := { name := "journalPlays", fn := fun _ => fun
  | [d1, d2, d3] => { results := [.lit (.bool false)], args := [d1, d2, d3] }
  | _ => none }
def JournalPlaysWrongFalsely : Prop := journalPlaysRow.holds Try.pinned (OpenSpec.ofChange journalPlaysWrong)

/-- 'haberdashlaw08.JournalKeeps': WHATEVER THE INPUT: true; the input reads as it did. -/
def journalKeepsSpec : ChangeSpec := { name := "journalKeeps", fn := fun _ => fun
  | [d1, d2, d3, d4, d5, d6] => { results := [.lit (.bool true)], args := [d1, d2, d3, d4, d5, d6] }
  | _ => none }
def journalKeepsRow : OpenClaim := { program := "ytdcnjckkcfoppaa", sum := "ae09102ff5215110bb7ac39117e6f6d9c13bd2b69aa83ea53db0516b3a938e17", func := "haberdash/haberdashlaw08.JournalKeeps", spec := "journalKeeps", unfollowed := true, recurses := true, apart := false }
def JournalKeepsSaid : Prop := journalKeepsRow.holds Try.pinned (OpenSpec.ofChange journalKeepsSpec)

/-- ITS FALSE NEIGHBOUR: 'it returns false'. Refute it at one input. -/
def journalKeepsWrong : ChangeSpec := { name := "journalKeeps", fn := fun _ => fun
  | [d1, d2, d3, d4, d5, d6] => { results := [.lit (.bool false)], args := [d1, d2, d3, d4, d5, d6] }
  | _ => none }
def JournalKeepsWrongFalsely : Prop := journalKeepsRow.holds Try.pinned (OpenSpec.ofChange journalKeepsWrong)

/-- 'haberdashlaw09.VaultFull': WHATEVER THE INPUT: true; the input reads as it did. -/
def vaultFullSpec : ChangeSpec := { name := "vaultFull", fn := fun _ => fun
  | [d1, d2, d3] => { results := [.lit (.bool true)], args := [d1, d2, d3] }
  | _ => none }
def vaultFullRow : OpenClaim := { program := "ytdcnjckkcfoppaa", sum := "ae09102ff5215110bb7ac39117e6f6d9c13bd2b69aa83ea53db0516b3a938e17", func := "haberdash/haberdashlaw09.VaultFull", spec := "vaultFull", unfollowed := true, recurses := true, apart := false }
def VaultFullSaid : Prop := vaultFullRow.holds Try.pinned (OpenSpec.ofChange vaultFullSpec)

/-- ITS FALSE NEIGHBOUR: 'it returns false'. Refute it at one input. -/
def vaultFullWrong : ChangeSpec := { name := "vaultFull", fn := fun _ => fun
  | [d1, d2, d3] => { results := [.lit (.bool false)], args := [d1, d2, d3] }
  | _ => none }
def VaultFullWrongFalsely : Prop := vaultFullRow.holds Try.pinned (OpenSpec.ofChange vaultFullWrong)

/-- 'haberdashlaw09.VaultTurns': WHATEVER THE INPUT: true; the input reads as it did. -/
def vaultTurnsSpec : ChangeSpec := { name := "vaultTurns", fn := fun _ => fun
  | [d] => { results := [.lit (.bool true)], args := [d] }
  | _ => none }
def vaultTurnsRow : OpenClaim := { program := "ytdcnjckkcfoppaa", sum := "ae09102ff5215110bb7ac39117e6f6d9c13bd2b69aa83ea53db0516b3a938e17", func := "haberdash/haberdashlaw09.VaultTurns", spec := "vaultTurns", unfollowed := true, recurses := true, apart := false }
def VaultTurnsSaid : Prop := vaultTurnsRow.holds Try.pinned (OpenSpec.ofChange vaultTurnsSpec)

/-- ITS FALSE NEIGHBOUR: 'it returns false'. Refute it at one input. -/
def vaultTurnsWrong : ChangeSpec := { name := "vaultTurns", fn := fun _ => fun
  | [d] => { results := [.lit (.bool false)], args := [d] }
  | _ => none }
def VaultTurnsWrongFalsely : Prop := vaultTurnsRow.holds Try.pinned (OpenSpec.ofChange vaultTurnsWrong)

/-- 'haberdashlaw09.VaultErrors': WHATEVER THE INPUT: true; the input reads as it did. -/
def vaultErrorsSpec : ChangeSpec := { name := "vaultErrors", fn := fun _ => fun
  | [d1, d2, d3, d4] => { results := [.lit (.bool true)], args := [d1, d2, d3, d4] }
  | _ => none }
def vaultErrorsRow : OpenClaim := { program := "ytdcnjckkcfoppaa", sum := "ae09102ff5215110bb7ac39117e6f6d9c13bd2b69aa83ea53db0516b3a938e17", func := "haberdash/haberdashlaw09.VaultErrors", spec := "vaultErrors", unfollowed := true, recurses := true, apart := false }
def VaultErrorsSaid : Prop := vaultErrorsRow.holds Try.pinned (OpenSpec.ofChange vaultErrorsSpec)

/-- ITS FALSE NEIGHBOUR: 'it returns false'. Refute it at one input. -/
def vaultErrorsWrong : ChangeSpec := { name := "vaultErrors", fn := fun _ => fun
  | [d1, d2, d3, d4] => { results := [.lit (.bool false)], args := [d1, d2, d3, d4] }
  | _ => none }
def VaultErrorsWrongFalsely : Prop := vaultErrorsRow.holds Try.pinned (OpenSpec.ofChange vaultErrorsWrong)

/-- 'haberdashlaw09.VaultKeeps': WHATEVER THE INPUT: true; the input reads as it did. -/
def vaultKeepsSpec : ChangeSpec := { name := "vaultKeeps", fn := fun _ => fun
  | [d1, d2, d3, d4] => { results := [.lit (.bool true)], args := [d1, d2, d3, d4] }
  | _ => none }
def vaultKeepsRow : OpenClaim := { program := "ytdcnjckkcfoppaa", sum := "ae09102ff5215110bb7ac39117e6f6d9c13bd2b69aa83ea53db0516b3a938e17", func := "haberdash/haberdashlaw09.VaultKeeps", spec := "vaultKeeps", unfollowed := true, recurses := true, apart := false }
def VaultKeepsSaid : Prop := vaultKeepsRow.holds Try.pinned (OpenSpec.ofChange vaultKeepsSpec)

/-- ITS FALSE NEIGHBOUR: 'it returns false'. Refute it at one input. -/
def vaultKeepsWrong : ChangeSpec := { name := "vaultKeeps", fn := fun _ => fun
  | [d1, d2, d3, d4] => { results := [.lit (.bool false)], args := [d1, d2, d3, d4] }
  | _ => none }
def VaultKeepsWrongFalsely : Prop := vaultKeepsRow.holds Try.pinned (OpenSpec.ofChange vaultKeepsWrong)

/-- 'haberdashlaw09.VaultPlays': WHATEVER THE INPUT: true; the input reads as it did. -/
def vaultPlaysSpec : ChangeSpec := { name := "vaultPlays", fn := fun _ => fun
  | [d1, d2] => { results := [.lit (.bool true)], args := [d1, d2] }
  | _ => none }
def vaultPlaysRow : OpenClaim := { program := "ytdcnjckkcfoppaa", sum := "ae09102ff5215110bb7ac39117e6f6d9c13bd2b69aa83ea53db0516b3a938e17", func := "haberdash/haberdashlaw09.VaultPlays", spec := "vaultPlays", unfollowed := true, recurses := true, apart := false }
def VaultPlaysSaid : Prop := vaultPlaysRow.holds Try.pinned (OpenSpec.ofChange vaultPlaysSpec)

/-- ITS FALSE NEIGHBOUR: 'it returns false'. Refute it at one input. -/
def vaultPlaysWrong : ChangeSpec := { name := "vaultPlays", fn := fun _ => fun
  | [d1, d2] => { results := [.lit (.bool false)], args := [d1, d2] }
  | _ => none }
def VaultPlaysWrongFalsely : Prop := vaultPlaysRow.holds Try.pinned (OpenSpec.ofChange vaultPlaysWrong)

/- THE SECOND FORM. 'bulk': how many values and letters a reading holds, each counted each time it is reached (what is shared counts as often as it is met; a slice's spare places count too). A statement '..UptoSaid' is the law's where the arguments, and the package variables that the reading takes, are together of bulk at most 1048576: NARROWER than '..Said'. Prove '..Said' where nothing that the law and all that it calls make is longer than what came in: it says more and counts as full. Else prove '..UptoSaid'. A law counts once. -/
mutual
def uptoBulk {H : Type} : DataW H → Nat
  | .lit (.string bytes) => bytes.length + 1
  | .lit _ => 1
  | .nil => 1
  | .ptr d => uptoBulk d + 1
  | .slice elems spare => uptoBulkAll elems + uptoBulkAll spare + 1
  | .agg parts => uptoBulkAll parts + 1
  | .iface _ d => uptoBulk d + 1
  | .map entries => uptoBulkEntries entries + 1
  | .held _ => 1
def uptoBulkAll {H : Type} : List (DataW H) → Nat
  | [] => 0
  | d :: r => uptoBulk d + uptoBulkAll r
def uptoBulkEntries {H : Type} : List (Lit × DataW H) → Nat
  | [] => 0
  | x :: r => uptoBulkEntry x + uptoBulkEntries r
def uptoBulkEntry {H : Type} : Lit × DataW H → Nat
  | (.string bytes, d) => bytes.length + uptoBulk d + 1
  | (_, d) => uptoBulk d + 1
 end
def uptoSmall : (H : Type) → List (DataW H) → Bool := fun _ ds => decide (uptoBulkAll ds ≤ 1048576)
def OpenSpec.upto (s : _root_.Go.ChangeSpec) : _root_.Go.OpenSpec := { _root_.Go.OpenSpec.ofChange s with cond := some uptoSmall }

/-- 'haberdashlaw08.JournalNeeds', WHERE WHAT IT READS IS OF BULK AT MOST 1048576: true; the input reads as it did. -/
def journalNeedsUptoRow : OpenClaim := { program := "ytdcnjckkcfoppaa", sum := "ae09102ff5215110bb7ac39117e6f6d9c13bd2b69aa83ea53db0516b3a938e17", func := "haberdash/haberdashlaw08.JournalNeeds", spec := "journalNeeds", apart := false, narrowed := true }
def JournalNeedsUptoSaid : Prop := journalNeedsUptoRow.holds Try.pinned (OpenSpec.upto journalNeedsSpec)

/-- 'haberdashlaw08.JournalOwn', WHERE WHAT IT READS IS OF BULK AT MOST 1048576: true; the input reads as it did. -/
def journalOwnUptoRow : OpenClaim := { program := "ytdcnjckkcfoppaa", sum := "ae09102ff5215110bb7ac39117e6f6d9c13bd2b69aa83ea53db0516b3a938e17", func := "haberdash/haberdashlaw08.JournalOwn", spec := "journalOwn", unfollowed := true, recurses := true, apart := false, narrowed := true }
def JournalOwnUptoSaid : Prop := journalOwnUptoRow.holds Try.pinned (OpenSpec.upto journalOwnSpec)

/-- 'haberdashlaw08.JournalSkips', WHERE WHAT IT READS IS OF BULK AT MOST 1048576: true; the input reads as it did. -/
def journalSkipsUptoRow : OpenClaim := { program := "ytdcnjckkcfoppaa", sum := "ae09102ff5215110bb7ac39117e6f6d9c13bd2b69aa83ea53db0516b3a938e17", func := "haberdash/haberdashlaw08.JournalSkips", spec := "journalSkips", unfollowed := true, recurses := true, apart := false, narrowed := true }
def JournalSkipsUptoSaid : Prop := journalSkipsUptoRow.holds Try.pinned (OpenSpec.upto journalSkipsSpec)

/-- 'haberdashlaw08.JournalErrors', WHERE WHAT IT READS IS OF BULK AT MOST 1048576: true; the input reads as it did. -/
def journalErrorsUptoRow : OpenClaim := { program := "ytdcnjckkcfoppaa", sum := "ae09102ff5215110bb7ac39117e6f6d9c13bd2b69aa83ea53db0516b3a938e17", func := "haberdash/haberdashlaw08.JournalErrors", spec := "journalErrors", unfollowed := true, recurses := true, apart := false, narrowed := true }
def JournalErrorsUptoSaid : Prop := journalErrorsUptoRow.holds Try.pinned (OpenSpec.upto journalErrorsSpec)

/-- 'haberdashlaw08.JournalPlays', WHERE WHAT IT READS IS OF BULK AT MOST 1048576: true; the input reads as it did. -/
def journalPlaysUptoRow : OpenClaim := { program := "ytdcnjckkcfoppaa", sum := "ae09102ff5215110bb7ac39117e6f6d9c13bd2b69aa83ea53db0516b3a938e17", func := "haberdash/haberdashlaw08.JournalPlays", spec := "journalPlays", unfollowed := true, recurses := true, apart := false, narrowed := true }
def JournalPlaysUptoSaid : Prop := journalPlaysUptoRow.holds Try.pinned (OpenSpec.upto journalPlaysSpec)

/-- 'haberdashlaw08.JournalKeeps', WHERE WHAT IT READS IS OF BULK AT MOST 1048576: true; the input reads as it did. -/
def journalKeepsUptoRow : OpenClaim := { program := "ytdcnjckkcfoppaa", sum := "ae09102ff5215110bb7ac39117e6f6d9c13bd2b69aa83ea53db0516b3a938e17", func := "haberdash/haberdashlaw08.JournalKeeps", spec := "journalKeeps", unfollowed := true, recurses := true, apart := false, narrowed := true }
def JournalKeepsUptoSaid : Prop := journalKeepsUptoRow.holds Try.pinned (OpenSpec.upto journalKeepsSpec)

/-- 'haberdashlaw09.VaultFull', WHERE WHAT IT READS IS OF BULK AT MOST 1048576: true; the input reads as it did. -/
def vaultFullUptoRow : OpenClaim := { program := "ytdcnjckkcfoppaa", sum := "ae09102ff5215110bb7ac39117e6f6d9c13bd2b69aa83ea53db0516b3a938e17", func := "haberdash/haberdashlaw09.VaultFull", spec := "vaultFull", unfollowed := true, recurses := true, apart := false, narrowed := true }
def VaultFullUptoSaid : Prop := vaultFullUptoRow.holds Try.pinned (OpenSpec.upto vaultFullSpec)

/-- 'haberdashlaw09.VaultTurns', WHERE WHAT IT READS IS OF BULK AT MOST 1048576: true; the input reads as it did. -/
def vaultTurnsUptoRow : OpenClaim := { program := "ytdcnjckkcfoppaa", sum := "ae09102ff5215110bb7ac39117e6f6d9c13bd2b69aa83ea53db0516b3a938e17", func := "haberdash/haberdashlaw09.VaultTurns", spec := "vaultTurns", unfollowed := true, recurses := true, apart := false, narrowed := true }
def VaultTurnsUptoSaid : Prop := vaultTurnsUptoRow.holds Try.pinned (OpenSpec.upto vaultTurnsSpec)

/-- 'haberdashlaw09.VaultErrors', WHERE WHAT IT READS IS OF BULK AT MOST 1048576: true; the input reads as it did. -/
def vaultErrorsUptoRow : OpenClaim := { program := "ytdcnjckkcfoppaa", sum := "ae09102ff5215110bb7ac39117e6f6d9c13bd2b69aa83ea53db0516b3a938e17", func := "haberdash/haberdashlaw09.VaultErrors", spec := "vaultErrors", unfollowed := true, recurses := true, apart := false, narrowed := true }
def VaultErrorsUptoSaid : Prop := vaultErrorsUptoRow.holds Try.pinned (OpenSpec.upto vaultErrorsSpec)

/-- 'haberdashlaw09.VaultKeeps', WHERE WHAT IT READS IS OF BULK AT MOST 1048576: true; the input reads as it did. -/
def vaultKeepsUptoRow : OpenClaim := { program := "ytdcnjckkcfoppaa", sum := "ae09102ff5215110bb7ac39117e6f6d9c13bd2b69aa83ea53db0516b3a938e17", func := "haberdash/haberdashlaw09.VaultKeeps", spec := "vaultKeeps", unfollowed := true, recurses := true, apart := false, narrowed := true }
def VaultKeepsUptoSaid : Prop := vaultKeepsUptoRow.holds Try.pinned (OpenSpec.upto vaultKeepsSpec)

/-- 'haberdashlaw09.VaultPlays', WHERE WHAT IT READS IS OF BULK AT MOST 1048576: true; the input reads as it did. -/
def vaultPlaysUptoRow : OpenClaim := { program := "ytdcnjckkcfoppaa", sum := "ae09102ff5215110bb7ac39117e6f6d9c13bd2b69aa83ea53db0516b3a938e17", func := "haberdash/haberdashlaw09.VaultPlays", spec := "vaultPlays", unfollowed := true, recurses := true, apart := false, narrowed := true }
def VaultPlaysUptoSaid : Prop := vaultPlaysUptoRow.holds Try.pinned (OpenSpec.upto vaultPlaysSpec)

end Rows
end Go.Proofs.Ytdcnjckkcfoppaa
