/-
  No cell of these rows narrows 'for every input' (looked for: loops, veiled, ifaces, maps, wideKeys, modest, calm, conditions, laid).
  DERIVED. THE GIVEN ROWS OF THIS SEAT. 3 by the template 'for every input the law returns true; each argument reads behind the call as it read before'; 0 by the template 'total and deterministic' (their statements: YtlleafgaeeneoaaGreatTotals.lean).
  GIVEN WITH THE SEED: the statements are not yours to turn. If you find one false, say at which input.
  Laid BY PROGRAM, IN A SANDBOX (cutbox-rows.mjs): the forced cells as the released guide's own fill.sh prints them over the translation 59ec2ede4a0a21eb… (all of the seat's roots in one cut). By AI agents, Wed Nov 11 2026. No macro, syntax, notation, axiom, sorry.
-/
import Derived.Test.YtlleafgaeeneoaaGreatChecked
import GoSem.Claim
import GoSem.ClaimJoined
import GoSem.ClaimMapViews
import Derived.JoinedTies
import Derived.KernelRfl
namespace Go.Proofs.YtlleafgaeeneoaaGreat
/- THE CELL 'sum', in the pinned program and in every row, IS THE sha256 OF THE DUMP (.gsa) THAT YtlleafgaeeneoaaGreatProg.lean LOADS. Nothing in Lean hashes anything: it is a label: what it is worth is what the hold of that sum in a sandbox is worth. -/
noncomputable def Tryz.pinned : Pinned := { name := "ytlleafgaeeneoaagreat", sum := "59ec2ede4a0a21eb2dd2bdead960fcef09724bab20f5e523a1f781c73ba39775", checked := Tryz.checked }
namespace Rows
def none {H : Type} : Left H := { results := [], args := [] }

/-- 'diurnallaw18.QueryRight': WHATEVER THE INPUT: true; the input reads as it did. -/
def queryRightSpec : ChangeSpec := { name := "queryRight", fn := fun _ => fun
  | [d1, d2, d3, d4] => { results := [.lit (.bool true)], args := [d1, d2, d3, d4] }
  | _ => none }
def queryRightRow : OpenClaim := { program := "ytlleafgaeeneoaagreat", sum := "59ec2ede4a0a21eb2dd2bdead960fcef09724bab20f5e523a1f781c73ba39775", func := "diurnal/diurnallaw18.QueryRight", spec := "queryRight", inPlace := ["internal/bytealg.IndexByte", "internal/bytealg.Index"], unfollowed := true, recurses := true, named := ["internal/bytealg.MaxLen"], apart := false }
def QueryRightSaid : Prop := queryRightRow.holds Tryz.pinned (OpenSpec.ofChange queryRightSpec)

/-- ITS FALSE NEIGHBOUR: 'it returns false'. Refute it at one input. -/
def queryRightWrong : ChangeSpec := { name := "queryRight", fn := fun _ => fun
  | [d1, d2, d3, d4] => { results := [.lit (.bool false)], args := [d1, d2, d3, d4] }
  | _ => none }
def QueryRightWrongFalsely : Prop := queryRightRow.holds Tryz.pinned (OpenSpec.ofChange queryRightWrong)

/-- 'diurnallaw18.QueryScans': WHATEVER THE INPUT: true; the input reads as it did. -/
def queryScansSpec : ChangeSpec := { name := "queryScans", fn := fun _ => fun
  | [d1, d2] => { results := [.lit (.bool true)], args := [d1, d2] }
  | _ => none }
def queryScansRow : OpenClaim := { program := "ytlleafgaeeneoaagreat", sum := "59ec2ede4a0a21eb2dd2bdead960fcef09724bab20f5e523a1f781c73ba39775", func := "diurnal/diurnallaw18.QueryScans", spec := "queryScans", inPlace := ["internal/bytealg.IndexByte", "internal/bytealg.Index"], unfollowed := true, recurses := true, named := ["internal/bytealg.MaxLen"], apart := false }
def QueryScansSaid : Prop := queryScansRow.holds Tryz.pinned (OpenSpec.ofChange queryScansSpec)

/-- ITS FALSE NEIGHBOUR: 'it returns false'. Refute it at one input. -/
def queryScansWrong : ChangeSpec := { name := "queryScans", fn := fun _ => fun
  | [d1, d2] => { results := [.lit (.bool false)], args := [d1, d2] }
  | _ => none }
def QueryScansWrongFalsely : Prop := queryScansRow.holds Tryz.pinned (OpenSpec.ofChange queryScansWrong)

/-- 'diurnallaw18.QueryElder': WHATEVER THE INPUT: true; the input reads as it did. -/
def queryElderSpec : ChangeSpec := { name := "queryElder", fn := fun _ => fun
  | [d1, d2, d3] => { results := [.lit (.bool true)], args := [d1, d2, d3] }
  | _ => none }
def queryElderRow : OpenClaim := { program := "ytlleafgaeeneoaagreat", sum := "59ec2ede4a0a21eb2dd2bdead960fcef09724bab20f5e523a1f781c73ba39775", func := "diurnal/diurnallaw18.QueryElder", spec := "queryElder", inPlace := ["internal/bytealg.IndexByte", "internal/bytealg.Index"], unfollowed := true, recurses := true, named := ["internal/bytealg.MaxLen"], apart := false }
def QueryElderSaid : Prop := queryElderRow.holds Tryz.pinned (OpenSpec.ofChange queryElderSpec)

/-- ITS FALSE NEIGHBOUR: 'it returns false'. Refute it at one input. -/
def queryElderWrong : ChangeSpec := { name := "queryElder", fn := fun _ => fun
  | [d1, d2, d3] => { results := [.lit (.bool false)], args := [d1, d2, d3] }
  | _ => none }
def QueryElderWrongFalsely : Prop := queryElderRow.holds Tryz.pinned (OpenSpec.ofChange queryElderWrong)

/- THE SECOND FORM. 'bulk': how many values and letters a reading holds, each counted each time it is reached (what is shared counts as often as it is met; a slice's spare places count too). A statement '..UptoSaid' is the law's where the arguments, and the package variables that the reading takes, are together of bulk at most 1048576: NARROWER than '..Said'. Prove '..Said' where nothing that the law and all that it calls make is longer than what came in: it says more and counts as full. Else prove '..UptoSaid'. A law counts once. -/
mutual
def uptoBulk {H : Type} : DataW H → Nat
  | .lit (.string bytes) => bytes.length + 1
  | .lit _ => 1
  | .nil => 1
  | .ptr d => uptoBulk d + 1
  | .slice elems spare => uptoBulkAll elems + uptoBulkAll spare + 1
  | .agg parts => uptoBulkAll parts + 1
  | .iface _ d => uptoBulk d + 1
  | .map entries => uptoBulkEntries entries + 1
  | .held _ => 1
def uptoBulkAll {H : Type} : List (DataW H) → Nat
  | [] => 0
  | d :: r => uptoBulk d + uptoBulkAll r
def uptoBulkEntries {H : Type} : List (Lit × DataW H) → Nat
  | [] => 0
  | x :: r => uptoBulkEntry x + uptoBulkEntries r
def uptoBulkEntry {H : Type} : Lit × DataW H → Nat
  | (.string bytes, d) => bytes.length + uptoBulk d + 1
  | (_, d) => uptoBulk d + 1
 end
def uptoSmall : (H : Type) → List (DataW H) → Bool := fun _ ds => decide (uptoBulkAll ds ≤ 1048576)
def OpenSpec.upto (s : _root_.Go.ChangeSpec) : _root_.Go.OpenSpec := { _root_.Go.OpenSpec.ofChange s with cond := some uptoSmall }

/-- 'diurnallaw18.QueryRight', WHERE WHAT IT READS IS OF BULK AT MOST 1048576: true; the input reads as it did. -/
def queryRightUptoRow : OpenClaim := { program := "ytlleafgaeeneoaagreat", sum := "59ec2ede4a0a21eb2dd2bdead960fcef09724bab20f5e523a1f781c73ba39775", func := "diurnal/diurnallaw18.QueryRight", spec := "queryRight", inPlace := ["internal/bytealg.IndexByte", "internal/bytealg.Index"], unfollowed := true, recurses := true, named := ["internal/bytealg.MaxLen"], apart := false, narrowed := true }
def QueryRightUptoSaid : Prop := queryRightUptoRow.holds Tryz.pinned (OpenSpec.upto queryRightSpec)

/-- 'diurnallaw18.QueryScans', WHERE WHAT IT READS IS OF BULK AT MOST 1048576: true; the input reads as it did. -/
def queryScansUptoRow : OpenClaim := { program := "ytlleafgaeeneoaagreat", sum := "59ec2ede4a0a21eb2dd2bdead960fcef09724bab20f5e523a1f781c73ba39775", func := "diurnal/diurnallaw18.QueryScans", spec := "queryScans", inPlace := ["internal/bytealg.IndexByte", "internal/bytealg.Index"], unfollowed := true, recurses := true, named := ["internal/bytealg.MaxLen"], apart := false, narrowed := true }
def QueryScansUptoSaid : Prop := queryScansUptoRow.holds Tryz.pinned (OpenSpec.upto queryScansSpec)

/-- 'diurnallaw18.QueryElder', WHERE WHAT IT READS IS OF BULK AT MOST 1048576: true; the input reads as it did. -/
def queryElderUptoRow : OpenClaim := { program := "ytlleafgaeeneoaagreat", sum := "59ec2ede4a0a21eb2dd2bdead960fcef09724bab20f5e523a1f781c73ba39775", func := "diurnal/diurnallaw18.QueryElder", spec := "queryElder", inPlace := ["internal/bytealg.IndexByte", "internal/bytealg.Index"], unfollowed := true, recurses := true, named := ["internal/bytealg.MaxLen"], apart := false, narrowed := true }
def QueryElderUptoSaid : Prop := queryElderUptoRow.holds Tryz.pinned (OpenSpec.upto queryElderSpec)

end Rows
end Go.Proofs.YtlleafgaeeneoaaGreat
