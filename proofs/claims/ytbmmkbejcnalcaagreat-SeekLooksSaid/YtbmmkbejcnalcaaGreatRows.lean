/-
  No cell of these rows narrows 'for every input' (looked for: loops, veiled, ifaces, maps, wideKeys, modest, calm, conditions, laid).
  DERIVED. THE GIVEN ROWS OF THIS SEAT. 3 by the template 'for every input the law returns true; each argument reads behind the call as it read before'; 0 by the template 'total and deterministic' (their statements: YtbmmkbejcnalcaaGreatTotals.lean).
  GIVEN WITH THE SEED: the statements are not yours to turn. If you find one false, say at which input.
  Laid BY PROGRAM, IN A SANDBOX (cutbox-rows.mjs): the forced cells as the released guide's own fill.sh prints them over the translation 8bc69137d11fb6ab… (all of the seat's roots in one cut). By AI agents, Wed Nov 11 2026. No macro, syntax, notation, axiom, sorry.
-/
import Derived.Test.YtbmmkbejcnalcaaGreatChecked
import GoSem.Claim
import GoSem.ClaimJoined
import GoSem.ClaimMapViews
import Derived.JoinedTies
import Derived.KernelRfl
namespace Go.Proofs.YtbmmkbejcnalcaaGreat
/- THE CELL 'sum', in the pinned program and in every row, IS THE sha256 OF THE DUMP (.gsa) THAT YtbmmkbejcnalcaaGreatProg.lean LOADS. Nothing in Lean hashes anything: it is a label: what it is worth is what the hold of that sum in a sandbox is worth. -/
noncomputable def Tryz.pinned : Pinned := { name := "ytbmmkbejcnalcaagreat", sum := "8bc69137d11fb6ab2cd61397338cbfafd2e63c2b25795261643223ed5ffae478", checked := Tryz.checked }
namespace Rows
def none {H : Type} : Left H := { results := [], args := [] }

/-- 'diurnallaw15.JfileSpoilt': WHATEVER THE INPUT: true; the input reads as it did. -/
def jfileSpoiltSpec : ChangeSpec := { name := "jfileSpoilt", fn := fun _ => fun
  | [d1, d2, d3, d4] => { results := [.lit (.bool true)], args := [d1, d2, d3, d4] }
  | _ => none }
def jfileSpoiltRow : OpenClaim := { program := "ytbmmkbejcnalcaagreat", sum := "8bc69137d11fb6ab2cd61397338cbfafd2e63c2b25795261643223ed5ffae478", func := "diurnal/diurnallaw15.JfileSpoilt", spec := "jfileSpoilt", inPlace := ["internal/bytealg.IndexByte", "internal/bytealg.Index"], unfollowed := true, recurses := true, named := ["internal/bytealg.MaxLen"], apart := false }
def JfileSpoiltSaid : Prop := jfileSpoiltRow.holds Tryz.pinned (OpenSpec.ofChange jfileSpoiltSpec)

/-- ITS FALSE NEIGHBOUR: 'it returns false'. Refute it at one input. -/
def jfileSpoiltWrong : ChangeSpec := { name := "jfileSpoilt", fn := fun _ => fun
  | [d1, d2, d3, d4] => { results := [.lit (.bool false)], args := [d1, d2, d3, d4] }
  | _ => none }
def JfileSpoiltWrongFalsely : Prop := jfileSpoiltRow.holds Tryz.pinned (OpenSpec.ofChange jfileSpoiltWrong)

/-- 'diurnallaw16.SeekLooks': WHATEVER THE INPUT: true; the input reads as it did. -/
def seekLooksSpec : ChangeSpec := { name := "seekLooks", fn := fun _ => fun
  | [d1, d2] => { results := [.lit (.bool true)], args := [d1, d2] }
  | _ => none }
def seekLooksRow : OpenClaim := { program := "ytbmmkbejcnalcaagreat", sum := "8bc69137d11fb6ab2cd61397338cbfafd2e63c2b25795261643223ed5ffae478", func := "diurnal/diurnallaw16.SeekLooks", spec := "seekLooks", inPlace := ["internal/bytealg.IndexByte", "internal/bytealg.Index"], unfollowed := true, recurses := true, named := ["internal/bytealg.MaxLen"], apart := false }
def SeekLooksSaid : Prop := seekLooksRow.holds Tryz.pinned (OpenSpec.ofChange seekLooksSpec)

/-- ITS FALSE NEIGHBOUR: 'it returns false'. Refute it at one input. -/
def seekLooksWrong : ChangeSpec := { name := "seekLooks", fn := fun _ => fun
  | [d1, d2] => { results := [.lit (.bool false)], args := [d1, d2] }
  | _ => none }
def SeekLooksWrongFalsely : Prop := seekLooksRow.holds Tryz.pinned (OpenSpec.ofChange seekLooksWrong)

/-- 'diurnallaw16.SeekRecords': WHATEVER THE INPUT: true; the input reads as it did. -/
def seekRecordsSpec : ChangeSpec := { name := "seekRecords", fn := fun _ => fun
  | [d1, d2] => { results := [.lit (.bool true)], args := [d1, d2] }
  | _ => none }
def seekRecordsRow : OpenClaim := { program := "ytbmmkbejcnalcaagreat", sum := "8bc69137d11fb6ab2cd61397338cbfafd2e63c2b25795261643223ed5ffae478", func := "diurnal/diurnallaw16.SeekRecords", spec := "seekRecords", inPlace := ["internal/bytealg.IndexByte", "internal/bytealg.Index"], unfollowed := true, recurses := true, named := ["internal/bytealg.MaxLen"], apart := false }
def SeekRecordsSaid : Prop := seekRecordsRow.holds Tryz.pinned (OpenSpec.ofChange seekRecordsSpec)

/-- ITS FALSE NEIGHBOUR: 'it returns false'. Refute it at one input. -/
def seekRecordsWrong : ChangeSpec := { name := "seekRecords", fn := fun _ => fun
  | [d1, d2] => { results := [.lit (.bool false)], args := [d1, d2] }
  | _ => none }
def SeekRecordsWrongFalsely : Prop := seekRecordsRow.holds Tryz.pinned (OpenSpec.ofChange seekRecordsWrong)

/- THE SECOND FORM. 'bulk': how many values and letters a reading holds, each counted each time it is reached (what is shared counts as often as it is met; a slice's spare places count too). A statement '..UptoSaid' is the law's where the arguments, and the package variables that the reading takes, are together of bulk at most 1048576: NARROWER than '..Said'. Prove '..Said' where nothing that the law and all that it calls make is longer than what came in: it says more and counts as full. Else prove '..UptoSaid'. A law counts once. -/
mutual
def uptoBulk {H : Type} : DataW H → Nat
  | .lit (.string bytes) => bytes.length + 1
  | .lit _ => 1
  | .nil => 1
  | .ptr d => uptoBulk d + 1
  | .slice elems spare => uptoBulkAll elems + uptoBulkAll spare + 1
  | .agg parts => uptoBulkAll parts + 1
  | .iface _ d => uptoBulk d + 1
  | .map entries => uptoBulkEntries entries + 1
  | .held _ => 1
def uptoBulkAll {H : Type} : List (DataW H) → Nat
  | [] => 0
  | d :: r => uptoBulk d + uptoBulkAll r
def uptoBulkEntries {H : Type} : List (Lit × DataW H) → Nat
  | [] => 0
  | x :: r => uptoBulkEntry x + uptoBulkEntries r
def uptoBulkEntry {H : Type} : Lit × DataW H → Nat
  | (.string bytes, d) => bytes.length + uptoBulk d + 1
  | (_, d) => uptoBulk d + 1
 end
def uptoSmall : (H : Type) → List (DataW H) → Bool := fun _ ds => decide (uptoBulkAll ds ≤ 1048576)
def OpenSpec.upto (s : _root_.Go.ChangeSpec) : _root_.Go.OpenSpec := { _root_.Go.OpenSpec.ofChange s with cond := some uptoSmall }

/-- 'diurnallaw15.JfileSpoilt', WHERE WHAT IT READS IS OF BULK AT MOST 1048576: true; the input reads as it did. -/
def jfileSpoiltUptoRow : OpenClaim := { program := "ytbmmkbejcnalcaagreat", sum := "8bc69137d11fb6ab2cd61397338cbfafd2e63c2b25795261643223ed5ffae478", func := "diurnal/diurnallaw15.JfileSpoilt", spec := "jfileSpoilt", inPlace := ["internal/bytealg.IndexByte", "internal/bytealg.Index"], unfollowed := true, recurses := true, named := ["internal/bytealg.MaxLen"], apart := false, narrowed := true }
def JfileSpoiltUptoSaid : Prop := jfileSpoiltUptoRow.holds Tryz.pinned (OpenSpec.upto jfileSpoiltSpec)

/-- 'diurnallaw16.SeekLooks', WHERE WHAT IT READS IS OF BULK AT MOST 1048576: true; the input reads as it did. -/
def seekLooksUptoRow : OpenClaim := { program := "ytbmmkbejcnalcaagreat", sum := "8bc69137d11fb6ab2cd61397338cbfafd2e63c2b25795261643223ed5ffae478", func := "diurnal/diurnallaw16.SeekLooks", spec := "seekLooks", inPlace := ["internal/bytealg.IndexByte", "internal/bytealg.Index"], unfollowed := true, recurses := true, named := ["internal/bytealg.MaxLen"], apart := false, narrowed := true }
def SeekLooksUptoSaid : Prop := seekLooksUptoRow.holds Tryz.pinned (OpenSpec.upto seekLooksSpec)

/-- 'diurnallaw16.SeekRecords', WHERE WHAT IT READS IS OF BULK AT MOST 1048576: true; the input reads as it did. -/
def seekRecordsUptoRow : OpenClaim := { program := "ytbmmkbejcnalcaagreat", sum := "8bc69137d11fb6ab2cd61397338cbfafd2e63c2b25795261643223ed5ffae478", func := "diurnal/diurnallaw16.SeekRecords", spec := "seekRecords", inPlace := ["internal/bytealg.IndexByte", "internal/bytealg.Index"], unfollowed := true, recurses := true, named := ["internal/bytealg.MaxLen"], apart := false, narrowed := true }
def SeekRecordsUptoSaid : Prop := seekRecordsUptoRow.holds Tryz.pinned (OpenSpec.upto seekRecordsSpec)

end Rows
end Go.Proofs.YtbmmkbejcnalcaaGreat
