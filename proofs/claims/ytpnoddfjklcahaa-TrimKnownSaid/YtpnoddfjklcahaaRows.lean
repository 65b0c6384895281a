/-
  No cell of these rows narrows 'for every input' (looked for: loops, veiled, ifaces, maps, wideKeys, modest, calm, conditions, laid).
  DERIVED. THE GIVEN ROWS OF THIS SEAT. 12 by the template 'for every input the law returns true; each argument reads behind the call as it read before'; 0 by the template 'total and deterministic' (their statements: YtpnoddfjklcahaaTotals.lean).
  GIVEN WITH THE SEED: the statements are not yours to turn. If you find one false, say at which input.
  Laid BY PROGRAM, IN A SANDBOX (cutbox-rows.mjs): the forced cells as the released guide's own fill.sh prints them over the translation 7c11915de67bd4d9… (all of the seat's roots in one cut). By AI agents, Wed Nov 11 2026. No macro, syntax, notation, axiom, sorry.
-/
import Derived.Test.YtpnoddfjklcahaaChecked
import GoSem.Claim
import GoSem.ClaimJoined
import GoSem.ClaimMapViews
import Derived.JoinedTies
import Derived.KernelRfl
namespace Go.Proofs.Ytpnoddfjklcahaa
/- THE CELL 'sum', in the pinned program and in every row, IS THE sha256 OF THE DUMP (.gsa) THAT YtpnoddfjklcahaaProg.lean LOADS. Nothing in Lean hashes anything: it is a label: what it is worth is what the hold of that sum in a sandbox is worth. -/
noncomputable def Try.pinned : Pinned := { name := "ytpnoddfjklcahaa", sum := "7c11915de67bd4d9d11ae1bdc181024e1f7642fd63a0007d3cdea33701e7f0c4", checked := Try.checked }
namespace Rows
def none {H : Type} : Left H := { results := [], args := [] }

/-- 'shoallaw13.DockOrder': WHATEVER THE INPUT: true; the input reads as it did. -/
def dockOrderSpec : ChangeSpec := { name := "dockOrder", fn := fun _ => fun
  | [d1, d2, d3] => { results := [.lit (.bool true)], args := [d1, d2, d3] }
  | _ => none }
def dockOrderRow : OpenClaim := { program := "ytpnoddfjklcahaa", sum := "7c11915de67bd4d9d11ae1bdc181024e1f7642fd63a0007d3cdea33701e7f0c4", func := "shoal/shoallaw13.DockOrder", spec := "dockOrder", unfollowed := true, recurses := true, apart := false }
def DockOrderSaid : Prop := dockOrderRow.holds Try.pinned (OpenSpec.ofChange dockOrderSpec)

/-- ITS FALSE NEIGHBOUR: 'it returns false'. Refute it at one input. -/
def dockOrderWrong : ChangeSpec := { name := "dockOrder", fn := fun _ => fun
  | [d1, d2, d3] => { results := [.lit (.bool false)], args := [d1, d2, d3] }
  | _ => none }
def DockOrderWrongFalsely : Prop := dockOrderRow.holds Try.pinned (OpenSpec.ofChange dockOrderWrong)

/-- 'shoallaw13.DockAll': WHATEVER THE INPUT: true; the input reads as it did. -/
def dockAllSpec : ChangeSpec := { name := "dockAll", fn := fun _ => fun
  | [d1, d2] => { results := [.lit (.bool true)], args := [d1, d2] }
  | _ => none }
def dockAllRow : OpenClaim := { program := "ytpnoddfjklcahaa", sum := "7c11915de67bd4d9d11ae1bdc181024e1f7642fd63a0007d3cdea33701e7f0c4", func := "shoal/shoallaw13.DockAll", spec := "dockAll", unfollowed := true, recurses := true, apart := false }
def DockAllSaid : Prop := dockAllRow.holds Try.pinned (OpenSpec.ofChange dockAllSpec)

/-- ITS FALSE NEIGHBOUR: 'it returns false'. Refute it at one input. -/
def dockAllWrong : ChangeSpec := { name := "dockAll", fn := fun _ => fun
  | [d1, d2] => { results := [.lit (.bool false)], args := [d1, d2] }
  | _ => none }
def DockAllWrongFalsely : Prop := dockAllRow.holds Try.pinned (OpenSpec.ofChange dockAllWrong)

/-- 'shoallaw18.TrimJoins': WHATEVER THE INPUT: true; the input reads as it did. -/
def trimJoinsSpec : ChangeSpec := { name := "trimJoins", fn := fun _ => fun
  | [d1, d2] => { results := [.lit (.bool true)], args := [d1, d2] }
  | _ => none }
def trimJoinsRow : OpenClaim := { program := "ytpnoddfjklcahaa", sum := "7c11915de67bd4d9d11ae1bdc181024e1f7642fd63a0007d3cdea33701e7f0c4", func := "shoal/shoallaw18.TrimJoins", spec := "trimJoins", unfollowed := true, recurses := true, apart := false }
def TrimJoinsSaid : Prop := trimJoinsRow.holds Try.pinned (OpenSpec.ofChange trimJoinsSpec)

/-- ITS FALSE NEIGHBOUR: 'it returns false'. Refute it at one input. -/
def trimJoinsWrong : ChangeSpec := { name := "trimJoins", fn := fun _ => fun
  | [d1, d2] => { results := [.lit (.bool false)], args := [d1, d2] }
  | _ => none }
def TrimJoinsWrongFalsely : Prop := trimJoinsRow.holds Try.pinned (OpenSpec.ofChange trimJoinsWrong)

/-- 'shoallaw18.TrimPurges': WHATEVER THE INPUT: true; the input reads as it did. -/
def trimPurgesSpec : ChangeSpec := { name := "trimPurges", fn := fun _ => fun
  | [d] => { results := [.lit (.bool true)], args := [d] }
  | _ => none }
def trimPurgesRow : OpenClaim := { program := "ytpnoddfjklcahaa", sum := "7c11915de67bd4d9d11ae1bdc181024e1f7642fd63a0007d3cdea33701e7f0c4", func := "shoal/shoallaw18.TrimPurges", spec := "trimPurges", unfollowed := true, recurses := true, apart := false }
def TrimPurgesSaid : Prop := trimPurgesRow.holds Try.pinned (OpenSpec.ofChange trimPurgesSpec)

/-- ITS FALSE NEIGHBOUR: 'it returns false'. Refute it at one input. -/
def trimPurgesWrong : ChangeSpec := { name := "trimPurges", fn := fun _ => fun
  | [d] => { results := [.lit (.bool false)], args := [d] }
  | _ => none }
def TrimPurgesWrongFalsely : Prop := trimPurgesRow.holds Try.pinned (OpenSpec.ofChange trimPurgesWrong)

/-- 'shoallaw18.TrimLess': WHATEVER THE INPUT: true; the input reads as it did. -/
def trimLessSpec : ChangeSpec := { name := "trimLess", fn := fun _ => fun
  | [d1, d2, d3] => { results := [.lit (.bool true)], args := [d1, d2, d3] }
  | _ => none }
def trimLessRow : OpenClaim := { program := "ytpnoddfjklcahaa", sum := "7c11915de67bd4d9d11ae1bdc181024e1f7642fd63a0007d3cdea33701e7f0c4", func := "shoal/shoallaw18.TrimLess", spec := "trimLess", unfollowed := true, recurses := true, apart := false }
def TrimLessSaid : Prop := trimLessRow.holds Try.pinned (OpenSpec.ofChange trimLessSpec)

/-- ITS FALSE NEIGHBOUR: 'it returns false'. Refute it at one input. -/
def trimLessWrong : ChangeSpec := { name := "trimLess", fn := fun _ => fun
  | [d1, d2, d3] => { results := [.lit (.bool false)], args := [d1, d2, d3] }
  | _ => none }
def TrimLessWrongFalsely : Prop := trimLessRow.holds Try.pinned (OpenSpec.ofChange trimLessWrong)

/-- 'shoallaw18.TrimBytes': WHATEVER THE INPUT: true; the input reads as it did. -/
def trimBytesSpec : ChangeSpec := { name := "trimBytes", fn := fun _ => fun
  | [d1, d2] => { results := [.lit (.bool true)], args := [d1, d2] }
  | _ => none }
def trimBytesRow : OpenClaim := { program := "ytpnoddfjklcahaa", sum := "7c11915de67bd4d9d11ae1bdc181024e1f7642fd63a0007d3cdea33701e7f0c4", func := "shoal/shoallaw18.TrimBytes", spec := "trimBytes", unfollowed := true, recurses := true, apart := false }
def TrimBytesSaid : Prop := trimBytesRow.holds Try.pinned (OpenSpec.ofChange trimBytesSpec)

/-- ITS FALSE NEIGHBOUR: 'it returns false'. Refute it at one input. -/
def trimBytesWrong : ChangeSpec := { name := "trimBytes", fn := fun _ => fun
  | [d1, d2] => { results := [.lit (.bool false)], args := [d1, d2] }
  | _ => none }
def TrimBytesWrongFalsely : Prop := trimBytesRow.holds Try.pinned (OpenSpec.ofChange trimBytesWrong)

/-- 'shoallaw18.TrimSays': WHATEVER THE INPUT: true; the input reads as it did. -/
def trimSaysSpec : ChangeSpec := { name := "trimSays", fn := fun _ => fun
  | [d1, d2, d3, d4, d5] => { results := [.lit (.bool true)], args := [d1, d2, d3, d4, d5] }
  | _ => none }
def trimSaysRow : OpenClaim := { program := "ytpnoddfjklcahaa", sum := "7c11915de67bd4d9d11ae1bdc181024e1f7642fd63a0007d3cdea33701e7f0c4", func := "shoal/shoallaw18.TrimSays", spec := "trimSays", inPlace := ["slices.overlaps[shoal/trim.Entry]"], unfollowed := true, recurses := true, apart := false }
def TrimSaysSaid : Prop := trimSaysRow.holds Try.pinned (OpenSpec.ofChange trimSaysSpec)

/-- ITS FALSE NEIGHBOUR: 'it returns false'. Refute it at one input. -/
def trimSaysWrong : ChangeSpec := { name := "trimSays", fn := fun _ => fun
  | [d1, d2, d3, d4, d5] => { results := [.lit (.bool false)], args := [d1, d2, d3, d4, d5] }
  | _ => none }
def TrimSaysWrongFalsely : Prop := trimSaysRow.holds Try.pinned (OpenSpec.ofChange trimSaysWrong)

/-- 'shoallaw14.TieKnown': WHATEVER THE INPUT: true; the input reads as it did. -/
def tieKnownSpec : ChangeSpec := { name := "tieKnown", fn := fun _ => fun
  | [] => { results := [.lit (.bool true)], args := [] }
  | _ => none }
def tieKnownRow : OpenClaim := { program := "ytpnoddfjklcahaa", sum := "7c11915de67bd4d9d11ae1bdc181024e1f7642fd63a0007d3cdea33701e7f0c4", func := "shoal/shoallaw14.TieKnown", spec := "tieKnown", unfollowed := true, recurses := true, apart := false }
def TieKnownSaid : Prop := tieKnownRow.holds Try.pinned (OpenSpec.ofChange tieKnownSpec)

/-- ITS FALSE NEIGHBOUR: 'it returns false'. Refute it at one input. -/
def tieKnownWrong : ChangeSpec := { name := "tieKnown", fn := fun _ => fun
  | [] => { results := [.lit (.bool false)], args := [] }
  | _ => none }
def TieKnownWrongFalsely : Prop := tieKnownRow.holds Try.pinned (OpenSpec.ofChange tieKnownWrong)

/-- 'shoallaw14.TieBoth': WHATEVER THE INPUT: true; the input reads as it did. -/
def tieBothSpec : ChangeSpec := { name := "tieBoth", fn := fun _ => fun
  | [d1, d2] => { results := [.lit (.bool true)], args := [d1, d2] }
  | _ => none }
def tieBothRow : OpenClaim := { program := "ytpnoddfjklcahaa", sum := "7c11915de67bd4d9d11ae1bdc181024e1f7642fd63a0007d3cdea33701e7f0c4", func := "shoal/shoallaw14.TieBoth", spec := "tieBoth", unfollowed := true, recurses := true, apart := false }
def TieBothSaid : Prop := tieBothRow.holds Try.pinned (OpenSpec.ofChange tieBothSpec)

/-- ITS FALSE NEIGHBOUR: 'it returns false'. Refute it at one input. -/
def tieBothWrong : ChangeSpec := { name := "tieBoth", fn := fun _ => fun
  | [d1, d2] => { results := [.lit (.bool false)], args := [d1, d2] }
  | _ => none }
def TieBothWrongFalsely : Prop := tieBothRow.holds Try.pinned (OpenSpec.ofChange tieBothWrong)

/-- 'shoallaw14.TieCarries': WHATEVER THE INPUT: true; the input reads as it did. -/
def tieCarriesSpec : ChangeSpec := { name := "tieCarries", fn := fun _ => fun
  | [d1, d2, d3, d4] => { results := [.lit (.bool true)], args := [d1, d2, d3, d4] }
  | _ => none }
def tieCarriesRow : OpenClaim := { program := "ytpnoddfjklcahaa", sum := "7c11915de67bd4d9d11ae1bdc181024e1f7642fd63a0007d3cdea33701e7f0c4", func := "shoal/shoallaw14.TieCarries", spec := "tieCarries", unfollowed := true, recurses := true, apart := false }
def TieCarriesSaid : Prop := tieCarriesRow.holds Try.pinned (OpenSpec.ofChange tieCarriesSpec)

/-- ITS FALSE NEIGHBOUR: 'it returns false'. Refute it at one input. -/
def tieCarriesWrong : ChangeSpec := { name := "tieCarries", fn := fun _ => fun
  | [d1, d2, d3, d4] => { results := [.lit (.bool false)], args := [d1, d2, d3, d4] }
  | _ => none }
def TieCarriesWrongFalsely : Prop := tieCarriesRow.holds Try.pinned (OpenSpec.ofChange tieCarriesWrong)

/-- 'shoallaw14.TiePlays': WHATEVER THE INPUT: true; the input reads as it did. -/
def tiePlaysSpec : ChangeSpec := { name := "tiePlays", fn := fun _ => fun
  | [d1, d2, d3] => { results := [.lit (.bool true)], args := [d1, d2, d3] }
  | _ => none }
def tiePlaysRow : OpenClaim := { program := "ytpnoddfjklcahaa", sum := "7c11915de67bd4d9d11ae1bdc181024e1f7642fd63a0007d3cdea33701e7f0c4", func := "shoal/shoallaw14.TiePlays", spec := "tiePlays", unfollowed := true, recurses := true, apart := false }
def TiePlaysSaid : Prop := tiePlaysRow.holds Try.pinned (OpenSpec.ofChange tiePlaysSpec)

/-- ITS FALSE NEIGHBOUR: 'it returns false'. Refute it at one input. -/
def tiePlaysWrong : ChangeSpec := { name := "tiePlays", fn := fun _ => fun
  | [d1, d2, d3] => { results := [.lit (.bool false)], args := [d1, d2, d3] }
  | _ => none }
def TiePlaysWrongFalsely : Prop := tiePlaysRow.holds Try.pinned (OpenSpec.ofChange tiePlaysWrong)

/-- 'shoallaw18.TrimKnown': WHATEVER THE INPUT: true; the input reads as it did. -/
def trimKnownSpec : ChangeSpec := { name := "trimKnown", fn := fun _ => fun
  | [] => { results := [.lit (.bool true)], args := [] }
  | _ => none }
def trimKnownRow : OpenClaim := { program := "ytpnoddfjklcahaa", sum := "7c11915de67bd4d9d11ae1bdc181024e1f7642fd63a0007d3cdea33701e7f0c4", func := "shoal/shoallaw18.TrimKnown", spec := "trimKnown", inPlace := ["slices.overlaps[shoal/trim.Entry]"], unfollowed := true, recurses := true, apart := false }
def TrimKnownSaid : Prop := trimKnownRow.holds Try.pinned (OpenSpec.ofChange trimKnownSpec)

/-- ITS FALSE NEIGHBOUR: 'it returns false'. Refute it at one input. -/
def trimKnownWrong : ChangeSpec := { name := "trimKnown", fn := fun _ => fun
  | [] => { results := [.lit (.bool false)], args := [] }
  | _ => none }
def TrimKnownWrongFalsely : Prop := trimKnownRow.holds Try.pinned (OpenSpec.ofChange trimKnownWrong)

/- THE SECOND FORM. 'bulk': how many values and letters a reading holds, each counted each time it is reached (what is shared counts as often as it is met; a slice's spare places count too). A statement '..UptoSaid' is the law's where the arguments, and the package variables that the reading takes, are together of bulk at most 1048576: NARROWER than '..Said'. Prove '..Said' where nothing that the law and all that it calls make is longer than what came in: it says more and counts as full. Else prove '..UptoSaid'. A law counts once. -/
mutual
def uptoBulk {H : Type} : DataW H → Nat
  | .lit (.string bytes) => bytes.length + 1
  | .lit _ => 1
  | .nil => 1
  | .ptr d => uptoBulk d + 1
  | .slice elems spare => uptoBulkAll elems + uptoBulkAll spare + 1
  | .agg parts => uptoBulkAll parts + 1
  | .iface _ d => uptoBulk d + 1
  | .map entries => uptoBulkEntries entries + 1
  | .held _ => 1
def uptoBulkAll {H : Type} : List (DataW H) → Nat
  | [] => 0
  | d :: r => uptoBulk d + uptoBulkAll r
def uptoBulkEntries {H : Type} : List (Lit × DataW H) → Nat
  | [] => 0
  | x :: r => uptoBulkEntry x + uptoBulkEntries r
def uptoBulkEntry {H : Type} : Lit × DataW H → Nat
  | (.string bytes, d) => bytes.length + uptoBulk d + 1
  | (_, d) => uptoBulk d + 1
 end
def uptoSmall : (H : Type) → List (DataW H) → Bool := fun _ ds => decide (uptoBulkAll ds ≤ 1048576)
def OpenSpec.upto (s : _root_.Go.ChangeSpec) : _root_.Go.OpenSpec := { _root_.Go.OpenSpec.ofChange s with cond := some uptoSmall }

/-- 'shoallaw13.DockOrder', WHERE WHAT IT READS IS OF BULK AT MOST 1048576: true; the input reads as it did. -/
def dockOrderUptoRow : OpenClaim := { program := "ytpnoddfjklcahaa", sum := "7c11915de67bd4d9d11ae1bdc181024e1f7642fd63a0007d3cdea33701e7f0c4", func := "shoal/shoallaw13.DockOrder", spec := "dockOrder", unfollowed := true, recurses := true, apart := false, narrowed := true }
def DockOrderUptoSaid : Prop := dockOrderUptoRow.holds Try.pinned (OpenSpec.upto dockOrderSpec)

/-- 'shoallaw13.DockAll', WHERE WHAT IT READS IS OF BULK AT MOST 1048576: true; the input reads as it did. -/
def dockAllUptoRow : OpenClaim := { program := "ytpnoddfjklcahaa", sum := "7c11915de67bd4d9d11ae1bdc181024e1f7642fd63a0007d3cdea33701e7f0c4", func := "shoal/shoallaw13.DockAll", spec := "dockAll", unfollowed := true, recurses := true, apart := false, narrowed := true }
def DockAllUptoSaid : Prop := dockAllUptoRow.holds Try.pinned (OpenSpec.upto dockAllSpec)

/-- 'shoallaw18.TrimJoins', WHERE WHAT IT READS IS OF BULK AT MOST 1048576: true; the input reads as it did. -/
def trimJoinsUptoRow : OpenClaim := { program := "ytpnoddfjklcahaa", sum := "7c11915de67bd4d9d11ae1bdc181024e1f7642fd63a0007d3cdea33701e7f0c4", func := "shoal/shoallaw18.TrimJoins", spec := "trimJoins", unfollowed := true, recurses := true, apart := false, narrowed := true }
def TrimJoinsUptoSaid : Prop := trimJoinsUptoRow.holds Try.pinned (OpenSpec.upto trimJoinsSpec)

/-- 'shoallaw18.TrimPurges', WHERE WHAT IT READS IS OF BULK AT MOST 1048576: true; the input reads as it did. -/
def trimPurgesUptoRow : OpenClaim := { program := "ytpnoddfjklcahaa", sum := "7c11915de67bd4d9d11ae1bdc181024e1f7642fd63a0007d3cdea33701e7f0c4", func := "shoal/shoallaw18.TrimPurges", spec := "trimPurges", unfollowed := true, recurses := true, apart := false, narrowed := true }
def TrimPurgesUptoSaid : Prop := trimPurgesUptoRow.holds Try.pinned (OpenSpec.upto trimPurgesSpec)

/-- 'shoallaw18.TrimLess', WHERE WHAT IT READS IS OF BULK AT MOST 1048576: true; the input reads as it did. -/
def trimLessUptoRow : OpenClaim := { program := "ytpnoddfjklcahaa", sum := "7c11915de67bd4d9d11ae1bdc181024e1f7642fd63a0007d3cdea33701e7f0c4", func := "shoal/shoallaw18.TrimLess", spec := "trimLess", unfollowed := true, recurses := true, apart := false, narrowed := true }
def TrimLessUptoSaid : Prop := trimLessUptoRow.holds Try.pinned (OpenSpec.upto trimLessSpec)

/-- 'shoallaw18.TrimBytes', WHERE WHAT IT READS IS OF BULK AT MOST 1048576: true; the input reads as it did. -/
def trimBytesUptoRow : OpenClaim := { program := "ytpnoddfjklcahaa", sum := "7c11915de67bd4d9d11ae1bdc181024e1f7642fd63a0007d3cdea33701e7f0c4", func := "shoal/shoallaw18.TrimBytes", spec := "trimBytes", unfollowed := true, recurses := true, apart := false, narrowed := true }
def TrimBytesUptoSaid : Prop := trimBytesUptoRow.holds Try.pinned (OpenSpec.upto trimBytesSpec)

/-- 'shoallaw18.TrimSays', WHERE WHAT IT READS IS OF BULK AT MOST 1048576: true; the input reads as it did. -/
def trimSaysUptoRow : OpenClaim := { program := "ytpnoddfjklcahaa", sum := "7c11915de67bd4d9d11ae1bdc181024e1f7642fd63a0007d3cdea33701e7f0c4", func := "shoal/shoallaw18.TrimSays", spec := "trimSays", inPlace := ["slices.overlaps[shoal/trim.Entry]"], unfollowed := true, recurses := true, apart := false, narrowed := true }
def TrimSaysUptoSaid : Prop := trimSaysUptoRow.holds Try.pinned (OpenSpec.upto trimSaysSpec)

/-- 'shoallaw14.TieKnown', WHERE WHAT IT READS IS OF BULK AT MOST 1048576: true; the input reads as it did. -/
def tieKnownUptoRow : OpenClaim := { program := "ytpnoddfjklcahaa", sum := "7c11915de67bd4d9d11ae1bdc181024e1f7642fd63a0007d3cdea33701e7f0c4", func := "shoal/shoallaw14.TieKnown", spec := "tieKnown", unfollowed := true, recurses := true, apart := false, narrowed := true }
def TieKnownUptoSaid : Prop := tieKnownUptoRow.holds Try.pinned (OpenSpec.upto tieKnownSpec)

/-- 'shoallaw14.TieBoth', WHERE WHAT IT READS IS OF BULK AT MOST 1048576: true; the input reads as it did. -/
def tieBothUptoRow : OpenClaim := { program := "ytpnoddfjklcahaa", sum := "7c11915de67bd4d9d11ae1bdc181024e1f7642fd63a0007d3cdea33701e7f0c4", func := "shoal/shoallaw14.TieBoth", spec := "tieBoth", unfollowed := true, recurses := true, apart := false, narrowed := true }
def TieBothUptoSaid : Prop := tieBothUptoRow.holds Try.pinned (OpenSpec.upto tieBothSpec)

/-- 'shoallaw14.TieCarries', WHERE WHAT IT READS IS OF BULK AT MOST 1048576: true; the input reads as it did. -/
def tieCarriesUptoRow : OpenClaim := { program := "ytpnoddfjklcahaa", sum := "7c11915de67bd4d9d11ae1bdc181024e1f7642fd63a0007d3cdea33701e7f0c4", func := "shoal/shoallaw14.TieCarries", spec := "tieCarries", unfollowed := true, recurses := true, apart := false, narrowed := true }
def TieCarriesUptoSaid : Prop := tieCarriesUptoRow.holds Try.pinned (OpenSpec.upto tieCarriesSpec)

/-- 'shoallaw14.TiePlays', WHERE WHAT IT READS IS OF BULK AT MOST 1048576: true; the input reads as it did. -/
def tiePlaysUptoRow : OpenClaim := { program := "ytpnoddfjklcahaa", sum := "7c11915de67bd4d9d11ae1bdc181024e1f7642fd63a0007d3cdea33701e7f0c4", func := "shoal/shoallaw14.TiePlays", spec := "tiePlays", unfollowed := true, recurses := true, apart := false, narrowed := true }
def TiePlaysUptoSaid : Prop := tiePlaysUptoRow.holds Try.pinned (OpenSpec.upto tiePlaysSpec)

/-- 'shoallaw18.TrimKnown', WHERE WHAT IT READS IS OF BULK AT MOST 1048576: true; the input reads as it did. -/
def trimKnownUptoRow : OpenClaim := { program := "ytpnoddfjklcahaa", sum := "7c11915de67bd4d9d11ae1bdc181024e1f7642fd63a0007d3cdea33701e7f0c4", func := "shoal/shoallaw18.TrimKnown", spec := "trimKnown", inPlace := ["slices.overlaps[shoal/trim.Entry]"], unfollowed := true, recurses := true, apart := false, narrowed := true }
def TrimKnownUptoSaid : Prop := trimKnownUptoRow.holds Try.pinned (OpenSpec.upto trimKnownSpec)

end Rows
end Go.Proofs.Ytpnoddfjklcahaa
