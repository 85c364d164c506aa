/-
  No cell of these rows narrows 'for every input' (looked for: loops, veiled, ifaces, maps, wideKeys, modest, calm, conditions, laid).
  DERIVED. THE GIVEN ROWS OF THIS SEAT. 5 by the template 'for every input the law returns true; each argument reads behind the call as it read before'; 0 by the template 'total and deterministic' (their statements: YtclhfnoldibapaaGreatTotals.lean).
  GIVEN WITH THE SEED: the statements are not yours to turn. If you find one false, say at which input.
  Laid BY PROGRAM, IN A SANDBOX (cutbox-rows.mjs): the forced cells as the released guide's own fill.sh prints them over the translation 3f6d451de6502001… (all of the seat's roots in one cut). By AI agents, Wed Nov 11 2026. No macro, syntax, notation, axiom, sorry.
-/
import Derived.Test.YtclhfnoldibapaaGreatChecked
import GoSem.Claim
import GoSem.ClaimJoined
import GoSem.ClaimMapViews
import Derived.JoinedTies
import Derived.KernelRfl
namespace Go.Proofs.YtclhfnoldibapaaGreat
/- THE CELL 'sum', in the pinned program and in every row, IS THE sha256 OF THE DUMP (.gsa) THAT YtclhfnoldibapaaGreatProg.lean LOADS. Nothing in Lean hashes anything: it is a label: what it is worth is what the hold of that sum in a sandbox is worth. -/
noncomputable def Tryz.pinned : Pinned := { name := "ytclhfnoldibapaagreat", sum := "3f6d451de6502001a6b171ee86cb85d0138fa8fcf8e6d79ea138812a8eb379d4", checked := Tryz.checked }
namespace Rows
def none {H : Type} : Left H := { results := [], args := [] }

/-- 'diurnallaw11.ChainFinds': WHATEVER THE INPUT: true; the input reads as it did. -/
def chainFindsSpec : ChangeSpec := { name := "chainFinds", fn := fun _ => fun
  | [d] => { results := [.lit (.bool true)], args := [d] }
  | _ => none }
def chainFindsRow : OpenClaim := { program := "ytclhfnoldibapaagreat", sum := "3f6d451de6502001a6b171ee86cb85d0138fa8fcf8e6d79ea138812a8eb379d4", func := "diurnal/diurnallaw11.ChainFinds", spec := "chainFinds", unfollowed := true, recurses := true, apart := false }
def ChainFindsSaid : Prop := chainFindsRow.holds Tryz.pinned (OpenSpec.ofChange chainFindsSpec)

/-- ITS FALSE NEIGHBOUR: 'it returns false'. Refute it at one input. -/
def chainFindsWrong : ChangeSpec := { name := "chainFinds", fn := fun _ => fun
  | [d] => { results := [.lit (.bool false)], args := [d] }
  | _ => none }
def ChainFindsWrongFalsely : Prop := chainFindsRow.holds Tryz.pinned (OpenSpec.ofChange chainFindsWrong)

/-- 'diurnallaw12.LinkData': WHATEVER THE INPUT: true; the input reads as it did. -/
def linkDataSpec : ChangeSpec := { name := "linkData", fn := fun _ => fun
  | [d] => { results := [.lit (.bool true)], args := [d] }
  | _ => none }
def linkDataRow : OpenClaim := { program := "ytclhfnoldibapaagreat", sum := "3f6d451de6502001a6b171ee86cb85d0138fa8fcf8e6d79ea138812a8eb379d4", func := "diurnal/diurnallaw12.LinkData", spec := "linkData", unfollowed := true, recurses := true, apart := false }
def LinkDataSaid : Prop := linkDataRow.holds Tryz.pinned (OpenSpec.ofChange linkDataSpec)

/-- ITS FALSE NEIGHBOUR: 'it returns false'. Refute it at one input. -/
def linkDataWrong : ChangeSpec := { name := "linkData", fn := fun _ => fun
  | [d] => { results := [.lit (.bool false)], args := [d] }
  | _ => none }
def LinkDataWrongFalsely : Prop := linkDataRow.holds Tryz.pinned (OpenSpec.ofChange linkDataWrong)

/-- 'diurnallaw11.ChainWhole': WHATEVER THE INPUT: true; the input reads as it did. -/
def chainWholeSpec : ChangeSpec := { name := "chainWhole", fn := fun _ => fun
  | [d] => { results := [.lit (.bool true)], args := [d] }
  | _ => none }
def chainWholeRow : OpenClaim := { program := "ytclhfnoldibapaagreat", sum := "3f6d451de6502001a6b171ee86cb85d0138fa8fcf8e6d79ea138812a8eb379d4", func := "diurnal/diurnallaw11.ChainWhole", spec := "chainWhole", unfollowed := true, recurses := true, apart := false }
def ChainWholeSaid : Prop := chainWholeRow.holds Tryz.pinned (OpenSpec.ofChange chainWholeSpec)

/-- ITS FALSE NEIGHBOUR: 'it returns false'. Refute it at one input. -/
def chainWholeWrong : ChangeSpec := { name := "chainWhole", fn := fun _ => fun
  | [d] => { results := [.lit (.bool false)], args := [d] }
  | _ => none }
def ChainWholeWrongFalsely : Prop := chainWholeRow.holds Tryz.pinned (OpenSpec.ofChange chainWholeWrong)

/-- 'diurnallaw11.ChainDatas': WHATEVER THE INPUT: true; the input reads as it did. -/
def chainDatasSpec : ChangeSpec := { name := "chainDatas", fn := fun _ => fun
  | [d] => { results := [.lit (.bool true)], args := [d] }
  | _ => none }
def chainDatasRow : OpenClaim := { program := "ytclhfnoldibapaagreat", sum := "3f6d451de6502001a6b171ee86cb85d0138fa8fcf8e6d79ea138812a8eb379d4", func := "diurnal/diurnallaw11.ChainDatas", spec := "chainDatas", unfollowed := true, recurses := true, apart := false }
def ChainDatasSaid : Prop := chainDatasRow.holds Tryz.pinned (OpenSpec.ofChange chainDatasSpec)

/-- ITS FALSE NEIGHBOUR: 'it returns false'. Refute it at one input. -/
def chainDatasWrong : ChangeSpec := { name := "chainDatas", fn := fun _ => fun
  | [d] => { results := [.lit (.bool false)], args := [d] }
  | _ => none }
def ChainDatasWrongFalsely : Prop := chainDatasRow.holds Tryz.pinned (OpenSpec.ofChange chainDatasWrong)

/-- 'diurnallaw10.ArenaBehind': WHATEVER THE INPUT: true; the input reads as it did. -/
def arenaBehindSpec : ChangeSpec := { name := "arenaBehind", fn := fun _ => fun
  | [d1, d2] => { results := [.lit (.bool true)], args := [d1, d2] }
  | _ => none }
def arenaBehindRow : OpenClaim := { program := "ytclhfnoldibapaagreat", sum := "3f6d451de6502001a6b171ee86cb85d0138fa8fcf8e6d79ea138812a8eb379d4", func := "diurnal/diurnallaw10.ArenaBehind", spec := "arenaBehind", inPlace := ["internal/bytealg.IndexByte", "internal/bytealg.Index"], unfollowed := true, recurses := true, named := ["internal/bytealg.MaxLen"], apart := false }
def ArenaBehindSaid : Prop := arenaBehindRow.holds Tryz.pinned (OpenSpec.ofChange arenaBehindSpec)

/-- ITS FALSE NEIGHBOUR: 'it returns false'. Refute it at one input. -/
def arenaBehindWrong : ChangeSpec := { name := "arenaBehind", fn := fun _ => fun
  | [d1, d2] => { results := [.lit (.bool false)], args := [d1, d2] }
  | _ => none }
def ArenaBehindWrongFalsely : Prop := arenaBehindRow.holds Tryz.pinned (OpenSpec.ofChange arenaBehindWrong)

/- THE SECOND FORM. 'bulk': how many values and letters a reading holds, each counted each time it is reached (what is shared counts as often as it is met; a slice's spare places count too). A statement '..UptoSaid' is the law's where the arguments, and the package variables that the reading takes, are together of bulk at most 1048576: NARROWER than '..Said'. Prove '..Said' where nothing that the law and all that it calls make is longer than what came in: it says more and counts as full. Else prove '..UptoSaid'. A law counts once. -/
mutual
def uptoBulk {H : Type} : DataW H → Nat
  | .lit (.string bytes) => bytes.length + 1
  | .lit _ => 1
  | .nil => 1
  | .ptr d => uptoBulk d + 1
  | .slice elems spare => uptoBulkAll elems + uptoBulkAll spare + 1
  | .agg parts => uptoBulkAll parts + 1
  | .iface _ d => uptoBulk d + 1
  | .map entries => uptoBulkEntries entries + 1
  | .held _ => 1
def uptoBulkAll {H : Type} : List (DataW H) → Nat
  | [] => 0
  | d :: r => uptoBulk d + uptoBulkAll r
def uptoBulkEntries {H : Type} : List (Lit × DataW H) → Nat
  | [] => 0
  | x :: r => uptoBulkEntry x + uptoBulkEntries r
def uptoBulkEntry {H : Type} : Lit × DataW H → Nat
  | (.string bytes, d) => bytes.length + uptoBulk d + 1
  | (_, d) => uptoBulk d + 1
 end
def uptoSmall : (H : Type) → List (DataW H) → Bool := fun _ ds => decide (uptoBulkAll ds ≤ 1048576)
def OpenSpec.upto (s : _root_.Go.ChangeSpec) : _root_.Go.OpenSpec := { _root_.Go.OpenSpec.ofChange s with cond := some uptoSmall }

/-- 'diurnallaw11.ChainFinds', WHERE WHAT IT READS IS OF BULK AT MOST 1048576: true; the input reads as it did. -/
def chainFindsUptoRow : OpenClaim := { program := "ytclhfnoldibapaagreat", sum := "3f6d451de6502001a6b171ee86cb85d0138fa8fcf8e6d79ea138812a8eb379d4", func := "diurnal/diurnallaw11.ChainFinds", spec := "chainFinds", unfollowed := true, recurses := true, apart := false, narrowed := true }
def ChainFindsUptoSaid : Prop := chainFindsUptoRow.holds Tryz.pinned (OpenSpec.upto chainFindsSpec)

/-- 'diurnallaw12.LinkData', WHERE WHAT IT READS IS OF BULK AT MOST 1048576: true; the input reads as it did. -/
def linkDataUptoRow : OpenClaim := { program := "ytclhfnoldibapaagreat", sum := "3f6d451de6502001a6b171ee86cb85d0138fa8fcf8e6d79ea138812a8eb379d4", func := "diurnal/diurnallaw12.LinkData", spec := "linkData", unfollowed := true, recurses := true, apart := false, narrowed := true }
def LinkDataUptoSaid : Prop := linkDataUptoRow.holds Tryz.pinned (OpenSpec.upto linkDataSpec)

/-- 'diurnallaw11.ChainWhole', WHERE WHAT IT READS IS OF BULK AT MOST 1048576: true; the input reads as it did. -/
def chainWholeUptoRow : OpenClaim := { program := "ytclhfnoldibapaagreat", sum := "3f6d451de6502001a6b171ee86cb85d0138fa8fcf8e6d79ea138812a8eb379d4", func := "diurnal/diurnallaw11.ChainWhole", spec := "chainWhole", unfollowed := true, recurses := true, apart := false, narrowed := true }
def ChainWholeUptoSaid : Prop := chainWholeUptoRow.holds Tryz.pinned (OpenSpec.upto chainWholeSpec)

/-- 'diurnallaw11.ChainDatas', WHERE WHAT IT READS IS OF BULK AT MOST 1048576: true; the input reads as it did. -/
def chainDatasUptoRow : OpenClaim := { program := "ytclhfnoldibapaagreat", sum := "3f6d451de6502001a6b171ee86cb85d0138fa8fcf8e6d79ea138812a8eb379d4", func := "diurnal/diurnallaw11.ChainDatas", spec := "chainDatas", unfollowed := true, recurses := true, apart := false, narrowed := true }
def ChainDatasUptoSaid : Prop := chainDatasUptoRow.holds Tryz.pinned (OpenSpec.upto chainDatasSpec)

/-- 'diurnallaw10.ArenaBehind', WHERE WHAT IT READS IS OF BULK AT MOST 1048576: true; the input reads as it did. -/
def arenaBehindUptoRow : OpenClaim := { program := "ytclhfnoldibapaagreat", sum := "3f6d451de6502001a6b171ee86cb85d0138fa8fcf8e6d79ea138812a8eb379d4", func := "diurnal/diurnallaw10.ArenaBehind", spec := "arenaBehind", inPlace := ["internal/bytealg.IndexByte", "internal/bytealg.Index"], unfollowed := true, recurses := true, named := ["internal/bytealg.MaxLen"], apart := false, narrowed := true }
def ArenaBehindUptoSaid : Prop := arenaBehindUptoRow.holds Tryz.pinned (OpenSpec.upto arenaBehindSpec)

end Rows
end Go.Proofs.YtclhfnoldibapaaGreat
