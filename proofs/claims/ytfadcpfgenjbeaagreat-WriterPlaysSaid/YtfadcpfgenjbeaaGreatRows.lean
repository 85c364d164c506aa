/-
  No cell of these rows narrows 'for every input' (looked for: loops, veiled, ifaces, maps, wideKeys, modest, calm, conditions, laid).
  DERIVED. THE GIVEN ROWS OF THIS SEAT. 5 by the template 'for every input the law returns true; each argument reads behind the call as it read before'; 0 by the template 'total and deterministic' (their statements: YtfadcpfgenjbeaaGreatTotals.lean).
  GIVEN WITH THE SEED: the statements are not yours to turn. If you find one false, say at which input.
  Laid BY PROGRAM, IN A SANDBOX (cutbox-rows.mjs): the forced cells as the released guide's own fill.sh prints them over the translation 461d1b340b9b9f32… (all of the seat's roots in one cut). By AI agents, Wed Nov 11 2026. No macro, syntax, notation, axiom, sorry.
-/
import Derived.Test.YtfadcpfgenjbeaaGreatChecked
import GoSem.Claim
import GoSem.ClaimJoined
import GoSem.ClaimMapViews
import Derived.JoinedTies
import Derived.KernelRfl
namespace Go.Proofs.YtfadcpfgenjbeaaGreat
/- THE CELL 'sum', in the pinned program and in every row, IS THE sha256 OF THE DUMP (.gsa) THAT YtfadcpfgenjbeaaGreatProg.lean LOADS. Nothing in Lean hashes anything: it is a label: what it is worth is what the hold of that sum in a sandbox is worth. -/
noncomputable def Tryz.pinned : Pinned := { name := "ytfadcpfgenjbeaagreat", sum := "461d1b340b9b9f32c54a889ebe5106a83a12348355c53e3891e90a6366714a39", checked := Tryz.checked }
namespace Rows
def none {H : Type} : Left H := { results := [], args := [] }

/-- 'diurnallaw13.WriterPlays': WHATEVER THE INPUT: true; the input reads as it did. -/
def writerPlaysSpec : ChangeSpec := { name := "writerPlays", fn := fun _ => fun
  | [d1, d2, d3, d4] => { results := [.lit (.bool true)], args := [d1, d2, d3, d4] }
  | _ => none }
def writerPlaysRow : OpenClaim := { program := "ytfadcpfgenjbeaagreat", sum := "461d1b340b9b9f32c54a889ebe5106a83a12348355c53e3891e90a6366714a39", func := "diurnal/diurnallaw13.WriterPlays", spec := "writerPlays", unfollowed := true, recurses := true, apart := false }
def WriterPlaysSaid : Prop := writerPlaysRow.holds Tryz.pinned (OpenSpec.ofChange writerPlaysSpec)

/-- ITS FALSE NEIGHBOUR: 'it returns false'. Refute it at one input. -/
def writerPlaysWrong : ChangeSpec := { name := "writerPlays", fn := fun _ => fun
  | [d1, d2, d3, d4] => { results := [.lit (.bool false)], args := [d1, d2, d3, d4] }
  | _ => none }
def WriterPlaysWrongFalsely : Prop := writerPlaysRow.holds Tryz.pinned (OpenSpec.ofChange writerPlaysWrong)

/-- 'diurnallaw13.WriterNames': WHATEVER THE INPUT: true; the input reads as it did. -/
def writerNamesSpec : ChangeSpec := { name := "writerNames", fn := fun _ => fun
  | [d1, d2] => { results := [.lit (.bool true)], args := [d1, d2] }
  | _ => none }
def writerNamesRow : OpenClaim := { program := "ytfadcpfgenjbeaagreat", sum := "461d1b340b9b9f32c54a889ebe5106a83a12348355c53e3891e90a6366714a39", func := "diurnal/diurnallaw13.WriterNames", spec := "writerNames", unfollowed := true, recurses := true, apart := false }
def WriterNamesSaid : Prop := writerNamesRow.holds Tryz.pinned (OpenSpec.ofChange writerNamesSpec)

/-- ITS FALSE NEIGHBOUR: 'it returns false'. Refute it at one input. -/
def writerNamesWrong : ChangeSpec := { name := "writerNames", fn := fun _ => fun
  | [d1, d2] => { results := [.lit (.bool false)], args := [d1, d2] }
  | _ => none }
def WriterNamesWrongFalsely : Prop := writerNamesRow.holds Tryz.pinned (OpenSpec.ofChange writerNamesWrong)

/-- 'diurnallaw13.WriterMakes': WHATEVER THE INPUT: true; the input reads as it did. -/
def writerMakesSpec : ChangeSpec := { name := "writerMakes", fn := fun _ => fun
  | [d1, d2, d3, d4] => { results := [.lit (.bool true)], args := [d1, d2, d3, d4] }
  | _ => none }
def writerMakesRow : OpenClaim := { program := "ytfadcpfgenjbeaagreat", sum := "461d1b340b9b9f32c54a889ebe5106a83a12348355c53e3891e90a6366714a39", func := "diurnal/diurnallaw13.WriterMakes", spec := "writerMakes", unfollowed := true, recurses := true, apart := false }
def WriterMakesSaid : Prop := writerMakesRow.holds Tryz.pinned (OpenSpec.ofChange writerMakesSpec)

/-- ITS FALSE NEIGHBOUR: 'it returns false'. Refute it at one input. -/
def writerMakesWrong : ChangeSpec := { name := "writerMakes", fn := fun _ => fun
  | [d1, d2, d3, d4] => { results := [.lit (.bool false)], args := [d1, d2, d3, d4] }
  | _ => none }
def WriterMakesWrongFalsely : Prop := writerMakesRow.holds Tryz.pinned (OpenSpec.ofChange writerMakesWrong)

/-- 'diurnallaw13.WriterFalls': WHATEVER THE INPUT: true; the input reads as it did. -/
def writerFallsSpec : ChangeSpec := { name := "writerFalls", fn := fun _ => fun
  | [d1, d2, d3, d4, d5, d6] => { results := [.lit (.bool true)], args := [d1, d2, d3, d4, d5, d6] }
  | _ => none }
def writerFallsRow : OpenClaim := { program := "ytfadcpfgenjbeaagreat", sum := "461d1b340b9b9f32c54a889ebe5106a83a12348355c53e3891e90a6366714a39", func := "diurnal/diurnallaw13.WriterFalls", spec := "writerFalls", unfollowed := true, recurses := true, apart := false }
def WriterFallsSaid : Prop := writerFallsRow.holds Tryz.pinned (OpenSpec.ofChange writerFallsSpec)

/-- ITS FALSE NEIGHBOUR: 'it returns false'. Refute it at one input. -/
def writerFallsWrong : ChangeSpec := { name := "writerFalls", fn := fun _ => fun
  | [d1, d2, d3, d4, d5, d6] => { results := [.lit (.bool false)], args := [d1, d2, d3, d4, d5, d6] }
  | _ => none }
def WriterFallsWrongFalsely : Prop := writerFallsRow.holds Tryz.pinned (OpenSpec.ofChange writerFallsWrong)

/-- 'diurnallaw13.WriterFull': WHATEVER THE INPUT: true; the input reads as it did. -/
def writerFullSpec : ChangeSpec := { name := "writerFull", fn := fun _ => fun
  | [d1, d2] => { results := [.lit (.bool true)], args := [d1, d2] }
  | _ => none }
def writerFullRow : OpenClaim := { program := "ytfadcpfgenjbeaagreat", sum := "461d1b340b9b9f32c54a889ebe5106a83a12348355c53e3891e90a6366714a39", func := "diurnal/diurnallaw13.WriterFull", spec := "writerFull", unfollowed := true, recurses := true, apart := false }
def WriterFullSaid : Prop := writerFullRow.holds Tryz.pinned (OpenSpec.ofChange writerFullSpec)

/-- ITS FALSE NEIGHBOUR: 'it returns false'. Refute it at one input. -/
def writerFullWrong : ChangeSpec := { name := "writerFull", fn := fun _ => fun
  | [d1, d2] => { results := [.lit (.bool false)], args := [d1, d2] }
  | _ => none }
def WriterFullWrongFalsely : Prop := writerFullRow.holds Tryz.pinned (OpenSpec.ofChange writerFullWrong)

/- THE SECOND FORM. 'bulk': how many values and letters a reading holds, each counted each time it is reached (what is shared counts as often as it is met; a slice's spare places count too). A statement '..UptoSaid' is the law's where the arguments, and the package variables that the reading takes, are together of bulk at most 1048576: NARROWER than '..Said'. Prove '..Said' where nothing that the law and all that it calls make is longer than what came in: it says more and counts as full. Else prove '..UptoSaid'. A law counts once. -/
mutual
def uptoBulk {H : Type} : DataW H → Nat
  | .lit (.string bytes) => bytes.length + 1
  | .lit _ => 1
  | .nil => 1
  | .ptr d => uptoBulk d + 1
  | .slice elems spare => uptoBulkAll elems + uptoBulkAll spare + 1
  | .agg parts => uptoBulkAll parts + 1
  | .iface _ d => uptoBulk d + 1
  | .map entries => uptoBulkEntries entries + 1
  | .held _ => 1
def uptoBulkAll {H : Type} : List (DataW H) → Nat
  | [] => 0
  | d :: r => uptoBulk d + uptoBulkAll r
def uptoBulkEntries {H : Type} : List (Lit × DataW H) → Nat
  | [] => 0
  | x :: r => uptoBulkEntry x + uptoBulkEntries r
def uptoBulkEntry {H : Type} : Lit × DataW H → Nat
  | (.string bytes, d) => bytes.length + uptoBulk d + 1
  | (_, d) => uptoBulk d + 1
 end
def uptoSmall : (H : Type) → List (DataW H) → Bool := fun _ ds => decide (uptoBulkAll ds ≤ 1048576)
def OpenSpec.upto (s : _root_.Go.ChangeSpec) : _root_.Go.OpenSpec := { _root_.Go.OpenSpec.ofChange s with cond := some uptoSmall }

/-- 'diurnallaw13.WriterPlays', WHERE WHAT IT READS IS OF BULK AT MOST 1048576: true; the input reads as it did. -/
def writerPlaysUptoRow : OpenClaim := { program := "ytfadcpfgenjbeaagreat", sum := "461d1b340b9b9f32c54a889ebe5106a83a12348355c53e3891e90a6366714a39", func := "diurnal/diurnallaw13.WriterPlays", spec := "writerPlays", unfollowed := true, recurses := true, apart := false, narrowed := true }
def WriterPlaysUptoSaid : Prop := writerPlaysUptoRow.holds Tryz.pinned (OpenSpec.upto writerPlaysSpec)

/-- 'diurnallaw13.WriterNames', WHERE WHAT IT READS IS OF BULK AT MOST 1048576: true; the input reads as it did. -/
def writerNamesUptoRow : OpenClaim := { program := "ytfadcpfgenjbeaagreat", sum := "461d1b340b9b9f32c54a889ebe5106a83a12348355c53e3891e90a6366714a39", func := "diurnal/diurnallaw13.WriterNames", spec := "writerNames", unfollowed := true, recurses := true, apart := false, narrowed := true }
def WriterNamesUptoSaid : Prop := writerNamesUptoRow.holds Tryz.pinned (OpenSpec.upto writerNamesSpec)

/-- 'diurnallaw13.WriterMakes', WHERE WHAT IT READS IS OF BULK AT MOST 1048576: true; the input reads as it did. -/
def writerMakesUptoRow : OpenClaim := { program := "ytfadcpfgenjbeaagreat", sum := "461d1b340b9b9f32c54a889ebe5106a83a12348355c53e3891e90a6366714a39", func := "diurnal/diurnallaw13.WriterMakes", spec := "writerMakes", unfollowed := true, recurses := true, apart := false, narrowed := true }
def WriterMakesUptoSaid : Prop := writerMakesUptoRow.holds Tryz.pinned (OpenSpec.upto writerMakesSpec)

/-- 'diurnallaw13.WriterFalls', WHERE WHAT IT READS IS OF BULK AT MOST 1048576: true; the input reads as it did. -/
def writerFallsUptoRow : OpenClaim := { program := "ytfadcpfgenjbeaagreat", sum := "461d1b340b9b9f32c54a889ebe5106a83a12348355c53e3891e90a6366714a39", func := "diurnal/diurnallaw13.WriterFalls", spec := "writerFalls", unfollowed := true, recurses := true, apart := false, narrowed := true }
def WriterFallsUptoSaid : Prop := writerFallsUptoRow.holds Tryz.pinned (OpenSpec.upto writerFallsSpec)

/-- 'diurnallaw13.WriterFull', WHERE WHAT IT READS IS OF BULK AT MOST 1048576: true; the input reads as it did. -/
def writerFullUptoRow : OpenClaim := { program := "ytfadcpfgenjbeaagreat", sum := "461d1b340b9b9f32c54a889ebe5106a83a12348355c53e3891e90a6366714a39", func := "diurnal/diurnallaw13.WriterFull", spec := "writerFull", unfollowed := true, recurses := true, apart := false, narrowed := true }
def WriterFullUptoSaid : Prop := writerFullUptoRow.holds Tryz.pinned (OpenSpec.upto writerFullSpec)

end Rows
end Go.Proofs.YtfadcpfgenjbeaaGreat
