/-
  No cell of these rows narrows 'for every input' (looked for: loops, veiled, ifaces, maps, wideKeys, modest, calm, conditions, laid).
  DERIVED. THE GIVEN ROWS OF THIS SEAT. 10 by the template 'for every input the law returns true; each argument reads behind the call as it read before'; 0 by the template 'total and deterministic' (their statements: YtimakajeggeebaaTotals.lean).
  GIVEN WITH THE SEED: the statements are not yours to turn. If you find one false, say at which input.
  Laid BY PROGRAM, IN A SANDBOX (cutbox-rows.mjs): the forced cells as the released guide's own fill.sh prints them over the translation 433290ffe4e453b1… (all of the seat's roots in one cut). By AI agents, Wed Nov 11 2026. No macro, syntax, notation, axiom, sorry.
-/
import Derived.Test.YtimakajeggeebaaChecked
import GoSem.Claim
import GoSem.ClaimJoined
import GoSem.ClaimMapViews
import Derived.JoinedTies
import Derived.KernelRfl
namespace Go.Proofs.Ytimakajeggeebaa
/- THE CELL 'sum', in the pinned program and in every row, IS THE sha256 OF THE DUMP (.gsa) THAT YtimakajeggeebaaProg.lean LOADS. Nothing in Lean hashes anything: it is a label: what it is worth is what the hold of that sum in a sandbox is worth. -/
noncomputable def Try.pinned : Pinned := { name := "ytimakajeggeebaa", sum := "433290ffe4e453b1007888080c3a38bed2645470ddf9dacf1594095d2903f2a0", checked := Try.checked }
namespace Rows
def none {H : Type} : Left H := { results := [], args := [] }

/-- 'diurnallaw2.HashLengths': WHATEVER THE INPUT: true; the input reads as it did. -/
def hashLengthsSpec : ChangeSpec := { name := "hashLengths", fn := fun _ => fun
  | [d1, d2, d3] => { results := [.lit (.bool true)], args := [d1, d2, d3] }
  | _ => none }
def hashLengthsRow : OpenClaim := { program := "ytimakajeggeebaa", sum := "433290ffe4e453b1007888080c3a38bed2645470ddf9dacf1594095d2903f2a0", func := "diurnal/diurnallaw2.HashLengths", spec := "hashLengths", apart := false }
def HashLengthsSaid : Prop := hashLengthsRow.holds Try.pinned (OpenSpec.ofChange hashLengthsSpec)

/-- ITS FALSE NEIGHBOUR: 'it returns false'. Refute it at one input. -/
def hashLengthsWrong : ChangeSpec := { name := "hashLengths", fn := fun _ => fun
  | [d1, d2, d3] => { results := [.lit (.bool false)], args := [d1, d2, d3] }
  | _ => none }
def HashLengthsWrongFalsely : Prop := hashLengthsRow.holds Try.pinned (OpenSpec.ofChange hashLengthsWrong)

/-- 'diurnallaw2.HashSays': WHATEVER THE INPUT: true; the input reads as it did. -/
def hashSaysSpec : ChangeSpec := { name := "hashSays", fn := fun _ => fun
  | [d1, d2, d3] => { results := [.lit (.bool true)], args := [d1, d2, d3] }
  | _ => none }
def hashSaysRow : OpenClaim := { program := "ytimakajeggeebaa", sum := "433290ffe4e453b1007888080c3a38bed2645470ddf9dacf1594095d2903f2a0", func := "diurnal/diurnallaw2.HashSays", spec := "hashSays", apart := false }
def HashSaysSaid : Prop := hashSaysRow.holds Try.pinned (OpenSpec.ofChange hashSaysSpec)

/-- ITS FALSE NEIGHBOUR: 'it returns false'. Refute it at one input. -/
def hashSaysWrong : ChangeSpec := { name := "hashSays", fn := fun _ => fun
  | [d1, d2, d3] => { results := [.lit (.bool false)], args := [d1, d2, d3] }
  | _ => none }
def HashSaysWrongFalsely : Prop := hashSaysRow.holds Try.pinned (OpenSpec.ofChange hashSaysWrong)

/-- 'diurnallaw2.HashPieces': WHATEVER THE INPUT: true; the input reads as it did. -/
def hashPiecesSpec : ChangeSpec := { name := "hashPieces", fn := fun _ => fun
  | [d1, d2] => { results := [.lit (.bool true)], args := [d1, d2] }
  | _ => none }
def hashPiecesRow : OpenClaim := { program := "ytimakajeggeebaa", sum := "433290ffe4e453b1007888080c3a38bed2645470ddf9dacf1594095d2903f2a0", func := "diurnal/diurnallaw2.HashPieces", spec := "hashPieces", apart := false }
def HashPiecesSaid : Prop := hashPiecesRow.holds Try.pinned (OpenSpec.ofChange hashPiecesSpec)

/-- ITS FALSE NEIGHBOUR: 'it returns false'. Refute it at one input. -/
def hashPiecesWrong : ChangeSpec := { name := "hashPieces", fn := fun _ => fun
  | [d1, d2] => { results := [.lit (.bool false)], args := [d1, d2] }
  | _ => none }
def HashPiecesWrongFalsely : Prop := hashPiecesRow.holds Try.pinned (OpenSpec.ofChange hashPiecesWrong)

/-- 'diurnallaw2.HashApart': WHATEVER THE INPUT: true; the input reads as it did. -/
def hashApartSpec : ChangeSpec := { name := "hashApart", fn := fun _ => fun
  | [d1, d2, d3] => { results := [.lit (.bool true)], args := [d1, d2, d3] }
  | _ => none }
def hashApartRow : OpenClaim := { program := "ytimakajeggeebaa", sum := "433290ffe4e453b1007888080c3a38bed2645470ddf9dacf1594095d2903f2a0", func := "diurnal/diurnallaw2.HashApart", spec := "hashApart", apart := false }
def HashApartSaid : Prop := hashApartRow.holds Try.pinned (OpenSpec.ofChange hashApartSpec)

/-- ITS FALSE NEIGHBOUR: 'it returns false'. Refute it at one input. -/
def hashApartWrong : ChangeSpec := { name := "hashApart", fn := fun _ => fun
  | [d1, d2, d3] => { results := [.lit (.bool false)], args := [d1, d2, d3] }
  | _ => none }
def HashApartWrongFalsely : Prop := hashApartRow.holds Try.pinned (OpenSpec.ofChange hashApartWrong)

/-- 'diurnallaw10.ArenaGuards': WHATEVER THE INPUT: true; the input reads as it did. -/
def arenaGuardsSpec : ChangeSpec := { name := "arenaGuards", fn := fun _ => fun
  | [d1, d2] => { results := [.lit (.bool true)], args := [d1, d2] }
  | _ => none }
def arenaGuardsRow : OpenClaim := { program := "ytimakajeggeebaa", sum := "433290ffe4e453b1007888080c3a38bed2645470ddf9dacf1594095d2903f2a0", func := "diurnal/diurnallaw10.ArenaGuards", spec := "arenaGuards", unfollowed := true, recurses := true, apart := false }
def ArenaGuardsSaid : Prop := arenaGuardsRow.holds Try.pinned (OpenSpec.ofChange arenaGuardsSpec)

/-- ITS FALSE NEIGHBOUR: 'it returns false'. Refute it at one input. -/
def arenaGuardsWrong : ChangeSpec := { name := "arenaGuards", fn := fun _ => fun
  | [d1, d2] => { results := [.lit (.bool false)], args := [d1, d2] }
  | _ => none }
def ArenaGuardsWrongFalsely : Prop := arenaGuardsRow.holds Try.pinned (OpenSpec.ofChange arenaGuardsWrong)

/-- 'diurnallaw4.FieldBack': WHATEVER THE INPUT: true; the input reads as it did. -/
def fieldBackSpec : ChangeSpec := { name := "fieldBack", fn := fun _ => fun
  | [d1, d2] => { results := [.lit (.bool true)], args := [d1, d2] }
  | _ => none }
def fieldBackRow : OpenClaim := { program := "ytimakajeggeebaa", sum := "433290ffe4e453b1007888080c3a38bed2645470ddf9dacf1594095d2903f2a0", func := "diurnal/diurnallaw4.FieldBack", spec := "fieldBack", inPlace := ["internal/bytealg.IndexByte", "internal/bytealg.Index"], named := ["internal/bytealg.MaxLen"], apart := false }
def FieldBackSaid : Prop := fieldBackRow.holds Try.pinned (OpenSpec.ofChange fieldBackSpec)

/-- ITS FALSE NEIGHBOUR: 'it returns false'. Refute it at one input. -/
def fieldBackWrong : ChangeSpec := { name := "fieldBack", fn := fun _ => fun
  | [d1, d2] => { results := [.lit (.bool false)], args := [d1, d2] }
  | _ => none }
def FieldBackWrongFalsely : Prop := fieldBackRow.holds Try.pinned (OpenSpec.ofChange fieldBackWrong)

/-- 'diurnallaw4.FieldOrder': WHATEVER THE INPUT: true; the input reads as it did. -/
def fieldOrderSpec : ChangeSpec := { name := "fieldOrder", fn := fun _ => fun
  | [d] => { results := [.lit (.bool true)], args := [d] }
  | _ => none }
def fieldOrderRow : OpenClaim := { program := "ytimakajeggeebaa", sum := "433290ffe4e453b1007888080c3a38bed2645470ddf9dacf1594095d2903f2a0", func := "diurnal/diurnallaw4.FieldOrder", spec := "fieldOrder", inPlace := ["internal/bytealg.IndexByte", "internal/bytealg.Index"], named := ["internal/bytealg.MaxLen"], apart := false }
def FieldOrderSaid : Prop := fieldOrderRow.holds Try.pinned (OpenSpec.ofChange fieldOrderSpec)

/-- ITS FALSE NEIGHBOUR: 'it returns false'. Refute it at one input. -/
def fieldOrderWrong : ChangeSpec := { name := "fieldOrder", fn := fun _ => fun
  | [d] => { results := [.lit (.bool false)], args := [d] }
  | _ => none }
def FieldOrderWrongFalsely : Prop := fieldOrderRow.holds Try.pinned (OpenSpec.ofChange fieldOrderWrong)

/-- 'diurnallaw4.FieldSays': WHATEVER THE INPUT: true; the input reads as it did. -/
def fieldSaysSpec : ChangeSpec := { name := "fieldSays", fn := fun _ => fun
  | [d1, d2, d3] => { results := [.lit (.bool true)], args := [d1, d2, d3] }
  | _ => none }
def fieldSaysRow : OpenClaim := { program := "ytimakajeggeebaa", sum := "433290ffe4e453b1007888080c3a38bed2645470ddf9dacf1594095d2903f2a0", func := "diurnal/diurnallaw4.FieldSays", spec := "fieldSays", inPlace := ["internal/bytealg.IndexByte", "internal/bytealg.Index"], named := ["internal/bytealg.MaxLen"], apart := false }
def FieldSaysSaid : Prop := fieldSaysRow.holds Try.pinned (OpenSpec.ofChange fieldSaysSpec)

/-- ITS FALSE NEIGHBOUR: 'it returns false'. Refute it at one input. -/
def fieldSaysWrong : ChangeSpec := { name := "fieldSays", fn := fun _ => fun
  | [d1, d2, d3] => { results := [.lit (.bool false)], args := [d1, d2, d3] }
  | _ => none }
def FieldSaysWrongFalsely : Prop := fieldSaysRow.holds Try.pinned (OpenSpec.ofChange fieldSaysWrong)

/-- 'diurnallaw4.FieldNormal': WHATEVER THE INPUT: true; the input reads as it did. -/
def fieldNormalSpec : ChangeSpec := { name := "fieldNormal", fn := fun _ => fun
  | [d] => { results := [.lit (.bool true)], args := [d] }
  | _ => none }
def fieldNormalRow : OpenClaim := { program := "ytimakajeggeebaa", sum := "433290ffe4e453b1007888080c3a38bed2645470ddf9dacf1594095d2903f2a0", func := "diurnal/diurnallaw4.FieldNormal", spec := "fieldNormal", inPlace := ["internal/bytealg.IndexByte", "internal/bytealg.Index"], unfollowed := true, recurses := true, named := ["internal/bytealg.MaxLen"], apart := false }
def FieldNormalSaid : Prop := fieldNormalRow.holds Try.pinned (OpenSpec.ofChange fieldNormalSpec)

/-- ITS FALSE NEIGHBOUR: 'it returns false'. Refute it at one input. -/
def fieldNormalWrong : ChangeSpec := { name := "fieldNormal", fn := fun _ => fun
  | [d] => { results := [.lit (.bool false)], args := [d] }
  | _ => none }
def FieldNormalWrongFalsely : Prop := fieldNormalRow.holds Try.pinned (OpenSpec.ofChange fieldNormalWrong)

/-- 'diurnallaw4.FieldLists': WHATEVER THE INPUT: true; the input reads as it did. -/
def fieldListsSpec : ChangeSpec := { name := "fieldLists", fn := fun _ => fun
  | [d1, d2, d3] => { results := [.lit (.bool true)], args := [d1, d2, d3] }
  | _ => none }
def fieldListsRow : OpenClaim := { program := "ytimakajeggeebaa", sum := "433290ffe4e453b1007888080c3a38bed2645470ddf9dacf1594095d2903f2a0", func := "diurnal/diurnallaw4.FieldLists", spec := "fieldLists", inPlace := ["internal/bytealg.IndexByte", "internal/bytealg.Index"], unfollowed := true, recurses := true, named := ["internal/bytealg.MaxLen"], apart := false }
def FieldListsSaid : Prop := fieldListsRow.holds Try.pinned (OpenSpec.ofChange fieldListsSpec)

/-- ITS FALSE NEIGHBOUR: 'it returns false'. Refute it at one input. -/
def fieldListsWrong : ChangeSpec := { name := "fieldLists", fn := fun _ => fun
  | [d1, d2, d3] => { results := [.lit (.bool false)], args := [d1, d2, d3] }
  | _ => none }
def FieldListsWrongFalsely : Prop := fieldListsRow.holds Try.pinned (OpenSpec.ofChange fieldListsWrong)

/- THE SECOND FORM. 'bulk': how many values and letters a reading holds, each counted each time it is reached (what is shared counts as often as it is met; a slice's spare places count too). A statement '..UptoSaid' is the law's where the arguments, and the package variables that the reading takes, are together of bulk at most 1048576: NARROWER than '..Said'. Prove '..Said' where nothing that the law and all that it calls make is longer than what came in: it says more and counts as full. Else prove '..UptoSaid'. A law counts once. -/
mutual
def uptoBulk {H : Type} : DataW H → Nat
  | .lit (.string bytes) => bytes.length + 1
  | .lit _ => 1
  | .nil => 1
  | .ptr d => uptoBulk d + 1
  | .slice elems spare => uptoBulkAll elems + uptoBulkAll spare + 1
  | .agg parts => uptoBulkAll parts + 1
  | .iface _ d => uptoBulk d + 1
  | .map entries => uptoBulkEntries entries + 1
  | .held _ => 1
def uptoBulkAll {H : Type} : List (DataW H) → Nat
  | [] => 0
  | d :: r => uptoBulk d + uptoBulkAll r
def uptoBulkEntries {H : Type} : List (Lit × DataW H) → Nat
  | [] => 0
  | x :: r => uptoBulkEntry x + uptoBulkEntries r
def uptoBulkEntry {H : Type} : Lit × DataW H → Nat
  | (.string bytes, d) => bytes.length + uptoBulk d + 1
  | (_, d) => uptoBulk d + 1
 end
def uptoSmall : (H : Type) → List (DataW H) → Bool := fun _ ds => decide (uptoBulkAll ds ≤ 1048576)
def OpenSpec.upto (s : _root_.Go.ChangeSpec) : _root_.Go.OpenSpec := { _root_.Go.OpenSpec.ofChange s with cond := some uptoSmall }

/-- 'diurnallaw2.HashLengths', WHERE WHAT IT READS IS OF BULK AT MOST 1048576: true; the input reads as it did. -/
def hashLengthsUptoRow : OpenClaim := { program := "ytimakajeggeebaa", sum := "433290ffe4e453b1007888080c3a38bed2645470ddf9dacf1594095d2903f2a0", func := "diurnal/diurnallaw2.HashLengths", spec := "hashLengths", apart := false, narrowed := true }
def HashLengthsUptoSaid : Prop := hashLengthsUptoRow.holds Try.pinned (OpenSpec.upto hashLengthsSpec)

/-- 'diurnallaw2.HashSays', WHERE WHAT IT READS IS OF BULK AT MOST 1048576: true; the input reads as it did. -/
def hashSaysUptoRow : OpenClaim := { program := "ytimakajeggeebaa", sum := "433290ffe4e453b1007888080c3a38bed2645470ddf9dacf1594095d2903f2a0", func := "diurnal/diurnallaw2.HashSays", spec := "hashSays", apart := false, narrowed := true }
def HashSaysUptoSaid : Prop := hashSaysUptoRow.holds Try.pinned (OpenSpec.upto hashSaysSpec)

/-- 'diurnallaw2.HashPieces', WHERE WHAT IT READS IS OF BULK AT MOST 1048576: true; the input reads as it did. -/
def hashPiecesUptoRow : OpenClaim := { program := "ytimakajeggeebaa", sum := "433290ffe4e453b1007888080c3a38bed2645470ddf9dacf1594095d2903f2a0", func := "diurnal/diurnallaw2.HashPieces", spec := "hashPieces", apart := false, narrowed := true }
def HashPiecesUptoSaid : Prop := hashPiecesUptoRow.holds Try.pinned (OpenSpec.upto hashPiecesSpec)

/-- 'diurnallaw2.HashApart', WHERE WHAT IT READS IS OF BULK AT MOST 1048576: true; the input reads as it did. -/
def hashApartUptoRow : OpenClaim := { program := "ytimakajeggeebaa", sum := "433290ffe4e453b1007888080c3a38bed2645470ddf9dacf1594095d2903f2a0", func := "diurnal/diurnallaw2.HashApart", spec := "hashApart", apart := false, narrowed := true }
def HashApartUptoSaid : Prop := hashApartUptoRow.holds Try.pinned (OpenSpec.upto hashApartSpec)

/-- 'diurnallaw10.ArenaGuards', WHERE WHAT IT READS IS OF BULK AT MOST 1048576: true; the input reads as it did. -/
def arenaGuardsUptoRow : OpenClaim := { program := "ytimakajeggeebaa", sum := "433290ffe4e453b1007888080c3a38bed2645470ddf9dacf1594095d2903f2a0", func := "diurnal/diurnallaw10.ArenaGuards", spec := "arenaGuards", unfollowed := true, recurses := true, apart := false, narrowed := true }
def ArenaGuardsUptoSaid : Prop := arenaGuardsUptoRow.holds Try.pinned (OpenSpec.upto arenaGuardsSpec)

/-- 'diurnallaw4.FieldBack', WHERE WHAT IT READS IS OF BULK AT MOST 1048576: true; the input reads as it did. -/
def fieldBackUptoRow : OpenClaim := { program := "ytimakajeggeebaa", sum := "433290ffe4e453b1007888080c3a38bed2645470ddf9dacf1594095d2903f2a0", func := "diurnal/diurnallaw4.FieldBack", spec := "fieldBack", inPlace := ["internal/bytealg.IndexByte", "internal/bytealg.Index"], named := ["internal/bytealg.MaxLen"], apart := false, narrowed := true }
def FieldBackUptoSaid : Prop := fieldBackUptoRow.holds Try.pinned (OpenSpec.upto fieldBackSpec)

/-- 'diurnallaw4.FieldOrder', WHERE WHAT IT READS IS OF BULK AT MOST 1048576: true; the input reads as it did. -/
def fieldOrderUptoRow : OpenClaim := { program := "ytimakajeggeebaa", sum := "433290ffe4e453b1007888080c3a38bed2645470ddf9dacf1594095d2903f2a0", func := "diurnal/diurnallaw4.FieldOrder", spec := "fieldOrder", inPlace := ["internal/bytealg.IndexByte", "internal/bytealg.Index"], named := ["internal/bytealg.MaxLen"], apart := false, narrowed := true }
def FieldOrderUptoSaid : Prop := fieldOrderUptoRow.holds Try.pinned (OpenSpec.upto fieldOrderSpec)

/-- 'diurnallaw4.FieldSays', WHERE WHAT IT READS IS OF BULK AT MOST 1048576: true; the input reads as it did. -/
def fieldSaysUptoRow : OpenClaim := { program := "ytimakajeggeebaa", sum := "433290ffe4e453b1007888080c3a38bed2645470ddf9dacf1594095d2903f2a0", func := "diurnal/diurnallaw4.FieldSays", spec := "fieldSays", inPlace := ["internal/bytealg.IndexByte", "internal/bytealg.Index"], named := ["internal/bytealg.MaxLen"], apart := false, narrowed := true }
def FieldSaysUptoSaid : Prop := fieldSaysUptoRow.holds Try.pinned (OpenSpec.upto fieldSaysSpec)

/-- 'diurnallaw4.FieldNormal', WHERE WHAT IT READS IS OF BULK AT MOST 1048576: true; the input reads as it did. -/
def fieldNormalUptoRow : OpenClaim := { program := "ytimakajeggeebaa", sum := "433290ffe4e453b1007888080c3a38bed2645470ddf9dacf1594095d2903f2a0", func := "diurnal/diurnallaw4.FieldNormal", spec := "fieldNormal", inPlace := ["internal/bytealg.IndexByte", "internal/bytealg.Index"], unfollowed := true, recurses := true, named := ["internal/bytealg.MaxLen"], apart := false, narrowed := true }
def FieldNormalUptoSaid : Prop := fieldNormalUptoRow.holds Try.pinned (OpenSpec.upto fieldNormalSpec)

/-- 'diurnallaw4.FieldLists', WHERE WHAT IT READS IS OF BULK AT MOST 1048576: true; the input reads as it did. -/
def fieldListsUptoRow : OpenClaim := { program := "ytimakajeggeebaa", sum := "433290ffe4e453b1007888080c3a38bed2645470ddf9dacf1594095d2903f2a0", func := "diurnal/diurnallaw4.FieldLists", spec := "fieldLists", inPlace := ["internal/bytealg.IndexByte", "internal/bytealg.Index"], unfollowed := true, recurses := true, named := ["internal/bytealg.MaxLen"], apart := false, narrowed := true }
def FieldListsUptoSaid : Prop := fieldListsUptoRow.holds Try.pinned (OpenSpec.upto fieldListsSpec)

end Rows
end Go.Proofs.Ytimakajeggeebaa
