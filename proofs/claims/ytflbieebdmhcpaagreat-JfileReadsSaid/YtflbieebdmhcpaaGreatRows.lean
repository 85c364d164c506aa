/-
  No cell of these rows narrows 'for every input' (looked for: loops, veiled, ifaces, maps, wideKeys, modest, calm, conditions, laid).
  DERIVED. THE GIVEN ROWS OF THIS SEAT. 6 by the template 'for every input the law returns true; each argument reads behind the call as it read before'; 0 by the template 'total and deterministic' (their statements: YtflbieebdmhcpaaGreatTotals.lean).
  GIVEN WITH THE SEED: the statements are not yours to turn. If you find one false, say at which input.
  Laid BY PROGRAM, IN A SANDBOX (cutbox-rows.mjs): the forced cells as the released guide's own fill.sh prints them over the translation 1ad1811d1f829eb0… (all of the seat's roots in one cut). By AI agents, Wed Nov 11 2026. No macro, syntax, notation, axiom, sorry.
-/
import Derived.Test.YtflbieebdmhcpaaGreatChecked
import GoSem.Claim
import GoSem.ClaimJoined
import GoSem.ClaimMapViews
import Derived.JoinedTies
import Derived.KernelRfl
namespace Go.Proofs.YtflbieebdmhcpaaGreat
/- THE CELL 'sum', in the pinned program and in every row, IS THE sha256 OF THE DUMP (.gsa) THAT YtflbieebdmhcpaaGreatProg.lean LOADS. Nothing in Lean hashes anything: it is a label: what it is worth is what the hold of that sum in a sandbox is worth. -/
noncomputable def Tryz.pinned : Pinned := { name := "ytflbieebdmhcpaagreat", sum := "1ad1811d1f829eb006aedb79f7c1b5b05cd71aad785edbed26b38061065bf555", checked := Tryz.checked }
namespace Rows
def none {H : Type} : Left H := { results := [], args := [] }

/-- 'diurnallaw15.JfileElder': WHATEVER THE INPUT: true; the input reads as it did. -/
def jfileElderSpec : ChangeSpec := { name := "jfileElder", fn := fun _ => fun
  | [d1, d2] => { results := [.lit (.bool true)], args := [d1, d2] }
  | _ => none }
def jfileElderRow : OpenClaim := { program := "ytflbieebdmhcpaagreat", sum := "1ad1811d1f829eb006aedb79f7c1b5b05cd71aad785edbed26b38061065bf555", func := "diurnal/diurnallaw15.JfileElder", spec := "jfileElder", inPlace := ["internal/bytealg.IndexByte", "internal/bytealg.Index"], unfollowed := true, recurses := true, named := ["internal/bytealg.MaxLen"], apart := false }
def JfileElderSaid : Prop := jfileElderRow.holds Tryz.pinned (OpenSpec.ofChange jfileElderSpec)

/-- ITS FALSE NEIGHBOUR: 'it returns false'. Refute it at one input. -/
def jfileElderWrong : ChangeSpec := { name := "jfileElder", fn := fun _ => fun
  | [d1, d2] => { results := [.lit (.bool false)], args := [d1, d2] }
  | _ => none }
def JfileElderWrongFalsely : Prop := jfileElderRow.holds Tryz.pinned (OpenSpec.ofChange jfileElderWrong)

/-- 'diurnallaw15.JfileRises': WHATEVER THE INPUT: true; the input reads as it did. -/
def jfileRisesSpec : ChangeSpec := { name := "jfileRises", fn := fun _ => fun
  | [d1, d2, d3] => { results := [.lit (.bool true)], args := [d1, d2, d3] }
  | _ => none }
def jfileRisesRow : OpenClaim := { program := "ytflbieebdmhcpaagreat", sum := "1ad1811d1f829eb006aedb79f7c1b5b05cd71aad785edbed26b38061065bf555", func := "diurnal/diurnallaw15.JfileRises", spec := "jfileRises", inPlace := ["internal/bytealg.IndexByte", "internal/bytealg.Index"], unfollowed := true, recurses := true, named := ["internal/bytealg.MaxLen"], apart := false }
def JfileRisesSaid : Prop := jfileRisesRow.holds Tryz.pinned (OpenSpec.ofChange jfileRisesSpec)

/-- ITS FALSE NEIGHBOUR: 'it returns false'. Refute it at one input. -/
def jfileRisesWrong : ChangeSpec := { name := "jfileRises", fn := fun _ => fun
  | [d1, d2, d3] => { results := [.lit (.bool false)], args := [d1, d2, d3] }
  | _ => none }
def JfileRisesWrongFalsely : Prop := jfileRisesRow.holds Tryz.pinned (OpenSpec.ofChange jfileRisesWrong)

/-- 'diurnallaw15.JfileReads': WHATEVER THE INPUT: true; the input reads as it did. -/
def jfileReadsSpec : ChangeSpec := { name := "jfileReads", fn := fun _ => fun
  | [d1, d2] => { results := [.lit (.bool true)], args := [d1, d2] }
  | _ => none }
def jfileReadsRow : OpenClaim := { program := "ytflbieebdmhcpaagreat", sum := "1ad1811d1f829eb006aedb79f7c1b5b05cd71aad785edbed26b38061065bf555", func := "diurnal/diurnallaw15.JfileReads", spec := "jfileReads", inPlace := ["internal/bytealg.IndexByte", "internal/bytealg.Index"], unfollowed := true, recurses := true, named := ["internal/bytealg.MaxLen"], apart := false }
def JfileReadsSaid : Prop := jfileReadsRow.holds Tryz.pinned (OpenSpec.ofChange jfileReadsSpec)

/-- ITS FALSE NEIGHBOUR: 'it returns false'. Refute it at one input. -/
def jfileReadsWrong : ChangeSpec := { name := "jfileReads", fn := fun _ => fun
  | [d1, d2] => { results := [.lit (.bool false)], args := [d1, d2] }
  | _ => none }
def JfileReadsWrongFalsely : Prop := jfileReadsRow.holds Tryz.pinned (OpenSpec.ofChange jfileReadsWrong)

/-- 'diurnallaw15.JfileSpoilt': WHATEVER THE INPUT: true; the input reads as it did. -/
def jfileSpoiltSpec : ChangeSpec := { name := "jfileSpoilt", fn := fun _ => fun
  | [d1, d2, d3, d4] => { results := [.lit (.bool true)], args := [d1, d2, d3, d4] }
  | _ => none }
def jfileSpoiltRow : OpenClaim := { program := "ytflbieebdmhcpaagreat", sum := "1ad1811d1f829eb006aedb79f7c1b5b05cd71aad785edbed26b38061065bf555", func := "diurnal/diurnallaw15.JfileSpoilt", spec := "jfileSpoilt", inPlace := ["internal/bytealg.IndexByte", "internal/bytealg.Index"], unfollowed := true, recurses := true, named := ["internal/bytealg.MaxLen"], apart := false }
def JfileSpoiltSaid : Prop := jfileSpoiltRow.holds Tryz.pinned (OpenSpec.ofChange jfileSpoiltSpec)

/-- ITS FALSE NEIGHBOUR: 'it returns false'. Refute it at one input. -/
def jfileSpoiltWrong : ChangeSpec := { name := "jfileSpoilt", fn := fun _ => fun
  | [d1, d2, d3, d4] => { results := [.lit (.bool false)], args := [d1, d2, d3, d4] }
  | _ => none }
def JfileSpoiltWrongFalsely : Prop := jfileSpoiltRow.holds Tryz.pinned (OpenSpec.ofChange jfileSpoiltWrong)

/-- 'diurnallaw16.SeekLooks': WHATEVER THE INPUT: true; the input reads as it did. -/
def seekLooksSpec : ChangeSpec := { name := "seekLooks", fn := fun _ => fun
  | [d1, d2] => { results := [.lit (.bool true)], args := [d1, d2] }
  | _ => none }
def seekLooksRow : OpenClaim := { program := "ytflbieebdmhcpaagreat", sum := "1ad1811d1f829eb006aedb79f7c1b5b05cd71aad785edbed26b38061065bf555", func := "diurnal/diurnallaw16.SeekLooks", spec := "seekLooks", inPlace := ["internal/bytealg.IndexByte", "internal/bytealg.Index"], unfollowed := true, recurses := true, named := ["internal/bytealg.MaxLen"], apart := false }
def SeekLooksSaid : Prop := seekLooksRow.holds Tryz.pinned (OpenSpec.ofChange seekLooksSpec)

/-- ITS FALSE NEIGHBOUR: 'it returns false'. Refute it at one input. -/
def seekLooksWrong : ChangeSpec := { name := "seekLooks", fn := fun _ => fun
  | [d1, d2] => { results := [.lit (.bool false)], args := [d1, d2] }
  | _ => none }
def SeekLooksWrongFalsely : Prop := seekLooksRow.holds Tryz.pinned (OpenSpec.ofChange seekLooksWrong)

/-- 'diurnallaw16.SeekRecords': WHATEVER THE INPUT: true; the input reads as it did. -/
def seekRecordsSpec : ChangeSpec := { name := "seekRecords", fn := fun _ => fun
  | [d1, d2] => { results := [.lit (.bool true)], args := [d1, d2] }
  | _ => none }
def seekRecordsRow : OpenClaim := { program := "ytflbieebdmhcpaagreat", sum := "1ad1811d1f829eb006aedb79f7c1b5b05cd71aad785edbed26b38061065bf555", func := "diurnal/diurnallaw16.SeekRecords", spec := "seekRecords", inPlace := ["internal/bytealg.IndexByte", "internal/bytealg.Index"], unfollowed := true, recurses := true, named := ["internal/bytealg.MaxLen"], apart := false }
def SeekRecordsSaid : Prop := seekRecordsRow.holds Tryz.pinned (OpenSpec.ofChange seekRecordsSpec)

/-- ITS FALSE NEIGHBOUR: 'it returns false'. Refute it at one input. -/
def seekRecordsWrong : ChangeSpec := { name := "seekRecords", fn := fun _ => fun
  | [d1, d2] => { results := [.lit (.bool false)], args := [d1, d2] }
  | _ => none }
def SeekRecordsWrongFalsely : Prop := seekRecordsRow.holds Tryz.pinned (OpenSpec.ofChange seekRecordsWrong)

/- THE SECOND FORM. 'bulk': how many values and letters a reading holds, each counted each time it is reached (what is shared counts as often as it is met; a slice's spare places count too). A statement '..UptoSaid' is the law's where the arguments, and the package variables that the reading takes, are together of bulk at most 1048576: NARROWER than '..Said'. Prove '..Said' where nothing that the law and all that it calls make is longer than what came in: it says more and counts as full. Else prove '..UptoSaid'. A law counts once. -/
mutual
def uptoBulk {H : Type} : DataW H → Nat
  | .lit (.string bytes) => bytes.length + 1
  | .lit _ => 1
  | .nil => 1
  | .ptr d => uptoBulk d + 1
  | .slice elems spare => uptoBulkAll elems + uptoBulkAll spare + 1
  | .agg parts => uptoBulkAll parts + 1
  | .iface _ d => uptoBulk d + 1
  | .map entries => uptoBulkEntries entries + 1
  | .held _ => 1
def uptoBulkAll {H : Type} : List (DataW H) → Nat
  | [] => 0
  | d :: r => uptoBulk d + uptoBulkAll r
def uptoBulkEntries {H : Type} : List (Lit × DataW H) → Nat
  | [] => 0
  | x :: r => uptoBulkEntry x + uptoBulkEntries r
def uptoBulkEntry {H : Type} : Lit × DataW H → Nat
  | (.string bytes, d) => bytes.length + uptoBulk d + 1
  | (_, d) => uptoBulk d + 1
 end
def uptoSmall : (H : Type) → List (DataW H) → Bool := fun _ ds => decide (uptoBulkAll ds ≤ 1048576)
def OpenSpec.upto (s : _root_.Go.ChangeSpec) : _root_.Go.OpenSpec := { _root_.Go.OpenSpec.ofChange s with cond := some uptoSmall }

/-- 'diurnallaw15.JfileElder', WHERE WHAT IT READS IS OF BULK AT MOST 1048576: true; the input reads as it did. -/
def jfileElderUptoRow : OpenClaim := { program := "ytflbieebdmhcpaagreat", sum := "1ad1811d1f829eb006aedb79f7c1b5b05cd71aad785edbed26b38061065bf555", func := "diurnal/diurnallaw15.JfileElder", spec := "jfileElder", inPlace := ["internal/bytealg.IndexByte", "internal/bytealg.Index"], unfollowed := true, recurses := true, named := ["internal/bytealg.MaxLen"], apart := false, narrowed := true }
def JfileElderUptoSaid : Prop := jfileElderUptoRow.holds Tryz.pinned (OpenSpec.upto jfileElderSpec)

/-- 'diurnallaw15.JfileRises', WHERE WHAT IT READS IS OF BULK AT MOST 1048576: true; the input reads as it did. -/
def jfileRisesUptoRow : OpenClaim := { program := "ytflbieebdmhcpaagreat", sum := "1ad1811d1f829eb006aedb79f7c1b5b05cd71aad785edbed26b38061065bf555", func := "diurnal/diurnallaw15.JfileRises", spec := "jfileRises", inPlace := ["internal/bytealg.IndexByte", "internal/bytealg.Index"], unfollowed := true, recurses := true, named := ["internal/bytealg.MaxLen"], apart := false, narrowed := true }
def JfileRisesUptoSaid : Prop := jfileRisesUptoRow.holds Tryz.pinned (OpenSpec.upto jfileRisesSpec)

/-- 'diurnallaw15.JfileReads', WHERE WHAT IT READS IS OF BULK AT MOST 1048576: true; the input reads as it did. -/
def jfileReadsUptoRow : OpenClaim := { program := "ytflbieebdmhcpaagreat", sum := "1ad1811d1f829eb006aedb79f7c1b5b05cd71aad785edbed26b38061065bf555", func := "diurnal/diurnallaw15.JfileReads", spec := "jfileReads", inPlace := ["internal/bytealg.IndexByte", "internal/bytealg.Index"], unfollowed := true, recurses := true, named := ["internal/bytealg.MaxLen"], apart := false, narrowed := true }
def JfileReadsUptoSaid : Prop := jfileReadsUptoRow.holds Tryz.pinned (OpenSpec.upto jfileReadsSpec)

/-- 'diurnallaw15.JfileSpoilt', WHERE WHAT IT READS IS OF BULK AT MOST 1048576: true; the input reads as it did. -/
def jfileSpoiltUptoRow : OpenClaim := { program := "ytflbieebdmhcpaagreat", sum := "1ad1811d1f829eb006aedb79f7c1b5b05cd71aad785edbed26b38061065bf555", func := "diurnal/diurnallaw15.JfileSpoilt", spec := "jfileSpoilt", inPlace := ["internal/bytealg.IndexByte", "internal/bytealg.Index"], unfollowed := true, recurses := true, named := ["internal/bytealg.MaxLen"], apart := false, narrowed := true }
def JfileSpoiltUptoSaid : Prop := jfileSpoiltUptoRow.holds Tryz.pinned (OpenSpec.upto jfileSpoiltSpec)

/-- 'diurnallaw16.SeekLooks', WHERE WHAT IT READS IS OF BULK AT MOST 1048576: true; the input reads as it did. -/
def seekLooksUptoRow : OpenClaim := { program := "ytflbieebdmhcpaagreat", sum := "1ad1811d1f829eb006aedb79f7c1b5b05cd71aad785edbed26b38061065bf555", func := "diurnal/diurnallaw16.SeekLooks", spec := "seekLooks", inPlace := ["internal/bytealg.IndexByte", "internal/bytealg.Index"], unfollowed := true, recurses := true, named := ["internal/bytealg.MaxLen"], apart := false, narrowed := true }
def SeekLooksUptoSaid : Prop := seekLooksUptoRow.holds Tryz.pinned (OpenSpec.upto seekLooksSpec)

/-- 'diurnallaw16.SeekRecords', WHERE WHAT IT READS IS OF BULK AT MOST 1048576: true; the input reads as it did. -/
def seekRecordsUptoRow : OpenClaim := { program := "ytflbieebdmhcpaagreat", sum := "1ad1811d1f829eb006aedb79f7c1b5b05cd71aad785edbed26b38061065bf555", func := "diurnal/diurnallaw16.SeekRecords", spec := "seekRecords", inPlace := ["internal/bytealg.IndexByte", "internal/bytealg.Index"], unfollowed := true, recurses := true, named := ["internal/bytealg.MaxLen"], apart := false, narrowed := true }
def SeekRecordsUptoSaid : Prop := seekRecordsUptoRow.holds Tryz.pinned (OpenSpec.upto seekRecordsSpec)

end Rows
end Go.Proofs.YtflbieebdmhcpaaGreat
