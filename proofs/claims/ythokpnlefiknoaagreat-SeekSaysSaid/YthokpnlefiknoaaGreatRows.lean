/-
  No cell of these rows narrows 'for every input' (looked for: loops, veiled, ifaces, maps, wideKeys, modest, calm, conditions, laid).
  DERIVED. THE GIVEN ROWS OF THIS SEAT. 5 by the template 'for every input the law returns true; each argument reads behind the call as it read before'; 0 by the template 'total and deterministic' (their statements: YthokpnlefiknoaaGreatTotals.lean).
  GIVEN WITH THE SEED: the statements are not yours to turn. If you find one false, say at which input.
  Laid BY PROGRAM, IN A SANDBOX (cutbox-rows.mjs): the forced cells as the released guide's own fill.sh prints them over the translation 29404775f98e88ed… (all of the seat's roots in one cut). By AI agents, Wed Nov 11 2026. No macro, syntax, notation, axiom, sorry.
-/
import Derived.Test.YthokpnlefiknoaaGreatChecked
import GoSem.Claim
import GoSem.ClaimJoined
import GoSem.ClaimMapViews
import Derived.JoinedTies
import Derived.KernelRfl
namespace Go.Proofs.YthokpnlefiknoaaGreat
/- THE CELL 'sum', in the pinned program and in every row, IS THE sha256 OF THE DUMP (.gsa) THAT YthokpnlefiknoaaGreatProg.lean LOADS. Nothing in Lean hashes anything: it is a label: what it is worth is what the hold of that sum in a sandbox is worth. -/
noncomputable def Tryz.pinned : Pinned := { name := "ythokpnlefiknoaagreat", sum := "29404775f98e88ed707159771e4f458d6bd1ae9860b5c6fd8f2c8b68c74c90a3", checked := Tryz.checked }
namespace Rows
def none {H : Type} : Left H := { results := [], args := [] }

/-- 'diurnallaw15.JfileSays': WHATEVER THE INPUT: true; the input reads as it did. -/
def jfileSaysSpec : ChangeSpec := { name := "jfileSays", fn := fun _ => fun
  | [d1, d2, d3, d4] => { results := [.lit (.bool true)], args := [d1, d2, d3, d4] }
  | _ => none }
def jfileSaysRow : OpenClaim := { program := "ythokpnlefiknoaagreat", sum := "29404775f98e88ed707159771e4f458d6bd1ae9860b5c6fd8f2c8b68c74c90a3", func := "diurnal/diurnallaw15.JfileSays", spec := "jfileSays", inPlace := ["internal/bytealg.IndexByte", "internal/bytealg.Index"], unfollowed := true, recurses := true, named := ["internal/bytealg.MaxLen"], apart := false }
def JfileSaysSaid : Prop := jfileSaysRow.holds Tryz.pinned (OpenSpec.ofChange jfileSaysSpec)

/-- ITS FALSE NEIGHBOUR: 'it returns false'. Refute it at one input. -/
def jfileSaysWrong : ChangeSpec := { name := "jfileSays", fn := fun _ => fun
  | [d1, d2, d3, d4] => { results := [.lit (.bool false)], args := [d1, d2, d3, d4] }
  | _ => none }
def JfileSaysWrongFalsely : Prop := jfileSaysRow.holds Tryz.pinned (OpenSpec.ofChange jfileSaysWrong)

/-- 'diurnallaw16.SeekSays': WHATEVER THE INPUT: true; the input reads as it did. -/
def seekSaysSpec : ChangeSpec := { name := "seekSays", fn := fun _ => fun
  | [d1, d2, d3, d4, d5, d6, d7] => { results := [.lit (.bool true)], args := [d1, d2, d3, d4, d5, d6, d7] }
  | _ => none }
def seekSaysRow : OpenClaim := { program := "ythokpnlefiknoaagreat", sum := "29404775f98e88ed707159771e4f458d6bd1ae9860b5c6fd8f2c8b68c74c90a3", func := "diurnal/diurnallaw16.SeekSays", spec := "seekSays", inPlace := ["internal/bytealg.IndexByte", "internal/bytealg.Index"], unfollowed := true, recurses := true, named := ["internal/bytealg.MaxLen"], apart := false }
def SeekSaysSaid : Prop := seekSaysRow.holds Tryz.pinned (OpenSpec.ofChange seekSaysSpec)

/-- ITS FALSE NEIGHBOUR: 'it returns false'. Refute it at one input. -/
def seekSaysWrong : ChangeSpec := { name := "seekSays", fn := fun _ => fun
  | [d1, d2, d3, d4, d5, d6, d7] => { results := [.lit (.bool false)], args := [d1, d2, d3, d4, d5, d6, d7] }
  | _ => none }
def SeekSaysWrongFalsely : Prop := seekSaysRow.holds Tryz.pinned (OpenSpec.ofChange seekSaysWrong)

/-- 'diurnallaw16.SeekRecords': WHATEVER THE INPUT: true; the input reads as it did. -/
def seekRecordsSpec : ChangeSpec := { name := "seekRecords", fn := fun _ => fun
  | [d1, d2] => { results := [.lit (.bool true)], args := [d1, d2] }
  | _ => none }
def seekRecordsRow : OpenClaim := { program := "ythokpnlefiknoaagreat", sum := "29404775f98e88ed707159771e4f458d6bd1ae9860b5c6fd8f2c8b68c74c90a3", func := "diurnal/diurnallaw16.SeekRecords", spec := "seekRecords", inPlace := ["internal/bytealg.IndexByte", "internal/bytealg.Index"], unfollowed := true, recurses := true, named := ["internal/bytealg.MaxLen"], apart := false }
def SeekRecordsSaid : Prop := seekRecordsRow.holds Tryz.pinned (OpenSpec.ofChange seekRecordsSpec)

/-- ITS FALSE NEIGHBOUR: 'it returns false'. Refute it at one input. -/
def seekRecordsWrong : ChangeSpec := { name := "seekRecords", fn := fun _ => fun
  | [d1, d2] => { results := [.lit (.bool false)], args := [d1, d2] }
  | _ => none }
def SeekRecordsWrongFalsely : Prop := seekRecordsRow.holds Tryz.pinned (OpenSpec.ofChange seekRecordsWrong)

/-- 'diurnallaw16.SeekLooks': WHATEVER THE INPUT: true; the input reads as it did. -/
def seekLooksSpec : ChangeSpec := { name := "seekLooks", fn := fun _ => fun
  | [d1, d2] => { results := [.lit (.bool true)], args := [d1, d2] }
  | _ => none }
def seekLooksRow : OpenClaim := { program := "ythokpnlefiknoaagreat", sum := "29404775f98e88ed707159771e4f458d6bd1ae9860b5c6fd8f2c8b68c74c90a3", func := "diurnal/diurnallaw16.SeekLooks", spec := "seekLooks", inPlace := ["internal/bytealg.IndexByte", "internal/bytealg.Index"], unfollowed := true, recurses := true, named := ["internal/bytealg.MaxLen"], apart := false }
def SeekLooksSaid : Prop := seekLooksRow.holds Tryz.pinned (OpenSpec.ofChange seekLooksSpec)

/-- ITS FALSE NEIGHBOUR: 'it returns false'. Refute it at one input. -/
def seekLooksWrong : ChangeSpec := { name := "seekLooks", fn := fun _ => fun
  | [d1, d2] => { results := [.lit (.bool false)], args := [d1, d2] }
  | _ => none }
def SeekLooksWrongFalsely : Prop := seekLooksRow.holds Tryz.pinned (OpenSpec.ofChange seekLooksWrong)

/-- 'diurnallaw15.JfileSpoilt': WHATEVER THE INPUT: true; the input reads as it did. -/
def jfileSpoiltSpec : ChangeSpec := { name := "jfileSpoilt", fn := fun _ => fun
  | [d1, d2, d3, d4] => { results := [.lit (.bool true)], args := [d1, d2, d3, d4] }
  | _ => none }
def jfileSpoiltRow : OpenClaim := { program := "ythokpnlefiknoaagreat", sum := "29404775f98e88ed707159771e4f458d6bd1ae9860b5c6fd8f2c8b68c74c90a3", func := "diurnal/diurnallaw15.JfileSpoilt", spec := "jfileSpoilt", inPlace := ["internal/bytealg.IndexByte", "internal/bytealg.Index"], unfollowed := true, recurses := true, named := ["internal/bytealg.MaxLen"], apart := false }
def JfileSpoiltSaid : Prop := jfileSpoiltRow.holds Tryz.pinned (OpenSpec.ofChange jfileSpoiltSpec)

/-- ITS FALSE NEIGHBOUR: 'it returns false'. Refute it at one input. -/
def jfileSpoiltWrong : ChangeSpec := { name := "jfileSpoilt", fn := fun _ => fun
  | [d1, d2, d3, d4] => { results := [.lit (.bool false)], args := [d1, d2, d3, d4] }
  | _ => none }
def JfileSpoiltWrongFalsely : Prop := jfileSpoiltRow.holds Tryz.pinned (OpenSpec.ofChange jfileSpoiltWrong)

/- THE SECOND FORM. 'bulk': how many values and letters a reading holds, each counted each time it is reached (what is shared counts as often as it is met; a slice's spare places count too). A statement '..UptoSaid' is the law's where the arguments, and the package variables that the reading takes, are together of bulk at most 1048576: NARROWER than '..Said'. Prove '..Said' where nothing that the law and all that it calls make is longer than what came in: it says more and counts as full. Else prove '..UptoSaid'. A law counts once. -/
mutual
def uptoBulk {H : Type} : DataW H → Nat
  | .lit (.string bytes) => bytes.length + 1
  | .lit _ => 1
  | .nil => 1
  | .ptr d => uptoBulk d + 1
  | .slice elems spare => uptoBulkAll elems + uptoBulkAll spare + 1
  | .agg parts => uptoBulkAll parts + 1
  | .iface _ d => uptoBulk d + 1
  | .map entries => uptoBulkEntries entries + 1
  | .held _ => 1
def uptoBulkAll {H : Type} : List (DataW H) → Nat
  | [] => 0
  | d :: r => uptoBulk d + uptoBulkAll r
def uptoBulkEntries {H : Type} : List (Lit × DataW H) → Nat
  | [] => 0
  | x :: r => uptoBulkEntry x + uptoBulkEntries r
def uptoBulkEntry {H : Type} : Lit × DataW H → Nat
  | (.string bytes, d) => bytes.length + uptoBulk d + 1
  | (_, d) => uptoBulk d + 1
 end
def uptoSmall : (H : Type) → List (DataW H) → Bool := fun _ ds => decide (uptoBulkAll ds ≤ 1048576)
def OpenSpec.upto (s : _root_.Go.ChangeSpec) : _root_.Go.OpenSpec := { _root_.Go.OpenSpec.ofChange s with cond := some uptoSmall }

/-- 'diurnallaw15.JfileSays', WHERE WHAT IT READS IS OF BULK AT MOST 1048576: true; the input reads as it did. -/
def jfileSaysUptoRow : OpenClaim := { program := "ythokpnlefiknoaagreat", sum := "29404775f98e88ed707159771e4f458d6bd1ae9860b5c6fd8f2c8b68c74c90a3", func := "diurnal/diurnallaw15.JfileSays", spec := "jfileSays", inPlace := ["internal/bytealg.IndexByte", "internal/bytealg.Index"], unfollowed := true, recurses := true, named := ["internal/bytealg.MaxLen"], apart := false, narrowed := true }
def JfileSaysUptoSaid : Prop := jfileSaysUptoRow.holds Tryz.pinned (OpenSpec.upto jfileSaysSpec)

/-- 'diurnallaw16.SeekSays', WHERE WHAT IT READS IS OF BULK AT MOST 1048576: true; the input reads as it did. -/
def seekSaysUptoRow : OpenClaim := { program := "ythokpnlefiknoaagreat", sum := "29404775f98e88ed707159771e4f458d6bd1ae9860b5c6fd8f2c8b68c74c90a3", func := "diurnal/diurnallaw16.SeekSays", spec := "seekSays", inPlace := ["internal/bytealg.IndexByte", "internal/bytealg.Index"], unfollowed := true, recurses := true, named := ["internal/bytealg.MaxLen"], apart := false, narrowed := true }
def SeekSaysUptoSaid : Prop := seekSaysUptoRow.holds Tryz.pinned (OpenSpec.upto seekSaysSpec)

/-- 'diurnallaw16.SeekRecords', WHERE WHAT IT READS IS OF BULK AT MOST 1048576: true; the input reads as it did. -/
def seekRecordsUptoRow : OpenClaim := { program := "ythokpnlefiknoaagreat", sum := "29404775f98e88ed707159771e4f458d6bd1ae9860b5c6fd8f2c8b68c74c90a3", func := "diurnal/diurnallaw16.SeekRecords", spec := "seekRecords", inPlace := ["internal/bytealg.IndexByte", "internal/bytealg.Index"], unfollowed := true, recurses := true, named := ["internal/bytealg.MaxLen"], apart := false, narrowed := true }
def SeekRecordsUptoSaid : Prop := seekRecordsUptoRow.holds Tryz.pinned (OpenSpec.upto seekRecordsSpec)

/-- 'diurnallaw16.SeekLooks', WHERE WHAT IT READS IS OF BULK AT MOST 1048576: true; the input reads as it did. -/
def seekLooksUptoRow : OpenClaim := { program := "ythokpnlefiknoaagreat", sum := "29404775f98e88ed707159771e4f458d6bd1ae9860b5c6fd8f2c8b68c74c90a3", func := "diurnal/diurnallaw16.SeekLooks", spec := "seekLooks", inPlace := ["internal/bytealg.IndexByte", "internal/bytealg.Index"], unfollowed := true, recurses := true, named := ["internal/bytealg.MaxLen"], apart := false, narrowed := true }
def SeekLooksUptoSaid : Prop := seekLooksUptoRow.holds Tryz.pinned (OpenSpec.upto seekLooksSpec)

/-- 'diurnallaw15.JfileSpoilt', WHERE WHAT IT READS IS OF BULK AT MOST 1048576: true; the input reads as it did. -/
def jfileSpoiltUptoRow : OpenClaim := { program := "ythokpnlefiknoaagreat", sum := "29404775f98e88ed707159771e4f458d6bd1ae9860b5c6fd8f2c8b68c74c90a3", func := "diurnal/diurnallaw15.JfileSpoilt", spec := "jfileSpoilt", inPlace := ["internal/bytealg.IndexByte", "internal/bytealg.Index"], unfollowed := true, recurses := true, named := ["internal/bytealg.MaxLen"], apart := false, narrowed := true }
def JfileSpoiltUptoSaid : Prop := jfileSpoiltUptoRow.holds Tryz.pinned (OpenSpec.upto jfileSpoiltSpec)

end Rows
end Go.Proofs.YthokpnlefiknoaaGreat
