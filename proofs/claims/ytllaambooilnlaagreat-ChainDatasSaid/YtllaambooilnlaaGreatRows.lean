/-
  No cell of these rows narrows 'for every input' (looked for: loops, veiled, ifaces, maps, wideKeys, modest, calm, conditions, laid).
  DERIVED. THE GIVEN ROWS OF THIS SEAT. 4 by the template 'for every input the law returns true; each argument reads behind the call as it read before'; 0 by the template 'total and deterministic' (their statements: YtllaambooilnlaaGreatTotals.lean).
  GIVEN WITH THE SEED: the statements are not yours to turn. If you find one false, say at which input.
  Laid BY PROGRAM, IN A SANDBOX (cutbox-rows.mjs): the forced cells as the released guide's own fill.sh prints them over the translation 3d3382208c8b6266… (all of the seat's roots in one cut). By AI agents, Wed Nov 11 2026. No macro, syntax, notation, axiom, sorry.
-/
import Derived.Test.YtllaambooilnlaaGreatChecked
import GoSem.Claim
import GoSem.ClaimJoined
import GoSem.ClaimMapViews
import Derived.JoinedTies
import Derived.KernelRfl
namespace Go.Proofs.YtllaambooilnlaaGreat
/- THE CELL 'sum', in the pinned program and in every row, IS THE sha256 OF THE DUMP (.gsa) THAT YtllaambooilnlaaGreatProg.lean LOADS. Nothing in Lean hashes anything: it is a label: what it is worth is what the hold of that sum in a sandbox is worth. -/
noncomputable def Tryz.pinned : Pinned := { name := "ytllaambooilnlaagreat", sum := "3d3382208c8b626670c160dffb2ac5c7db0f47e75eb244d9becc23099a994226", checked := Tryz.checked }
namespace Rows
def none {H : Type} : Left H := { results := [], args := [] }

/-- 'diurnallaw11.ChainFinds': WHATEVER THE INPUT: true; the input reads as it did. -/
def chainFindsSpec : ChangeSpec := { name := "chainFinds", fn := fun _ => fun
  | [d] => { results := [.lit (.bool true)], args := [d] }
  | _ => none }
def chainFindsRow : OpenClaim := { program := "ytllaambooilnlaagreat", sum := "3d3382208c8b626670c160dffb2ac5c7db0f47e75eb244d9becc23099a994226", func := "diurnal/diurnallaw11.ChainFinds", spec := "chainFinds", unfollowed := true, recurses := true, apart := false }
def ChainFindsSaid : Prop := chainFindsRow.holds Tryz.pinned (OpenSpec.ofChange chainFindsSpec)

/-- ITS FALSE NEIGHBOUR: 'it returns false'. Refute it at one input. -/
def chainFindsWrong : ChangeSpec := { name := "chainFinds", fn := fun _ => fun
  | [d] => { results := [.lit (.bool false)], args := [d] }
  | _ => none }
def ChainFindsWrongFalsely : Prop := chainFindsRow.holds Tryz.pinned (OpenSpec.ofChange chainFindsWrong)

/-- 'diurnallaw11.ChainWhole': WHATEVER THE INPUT: true; the input reads as it did. -/
def chainWholeSpec : ChangeSpec := { name := "chainWhole", fn := fun _ => fun
  | [d] => { results := [.lit (.bool true)], args := [d] }
  | _ => none }
def chainWholeRow : OpenClaim := { program := "ytllaambooilnlaagreat", sum := "3d3382208c8b626670c160dffb2ac5c7db0f47e75eb244d9becc23099a994226", func := "diurnal/diurnallaw11.ChainWhole", spec := "chainWhole", unfollowed := true, recurses := true, apart := false }
def ChainWholeSaid : Prop := chainWholeRow.holds Tryz.pinned (OpenSpec.ofChange chainWholeSpec)

/-- ITS FALSE NEIGHBOUR: 'it returns false'. Refute it at one input. -/
def chainWholeWrong : ChangeSpec := { name := "chainWhole", fn := fun _ => fun
  | [d] => { results := [.lit (.bool false)], args := [d] }
  | _ => none }
def ChainWholeWrongFalsely : Prop := chainWholeRow.holds Tryz.pinned (OpenSpec.ofChange chainWholeWrong)

/-- 'diurnallaw11.ChainDatas': WHATEVER THE INPUT: true; the input reads as it did. -/
def chainDatasSpec : ChangeSpec := { name := "chainDatas", fn := fun _ => fun
  | [d] => { results := [.lit (.bool true)], args := [d] }
  | _ => none }
def chainDatasRow : OpenClaim := { program := "ytllaambooilnlaagreat", sum := "3d3382208c8b626670c160dffb2ac5c7db0f47e75eb244d9becc23099a994226", func := "diurnal/diurnallaw11.ChainDatas", spec := "chainDatas", unfollowed := true, recurses := true, apart := false }
def ChainDatasSaid : Prop := chainDatasRow.holds Tryz.pinned (OpenSpec.ofChange chainDatasSpec)

/-- ITS FALSE NEIGHBOUR: 'it returns false'. Refute it at one input. -/
def chainDatasWrong : ChangeSpec := { name := "chainDatas", fn := fun _ => fun
  | [d] => { results := [.lit (.bool false)], args := [d] }
  | _ => none }
def ChainDatasWrongFalsely : Prop := chainDatasRow.holds Tryz.pinned (OpenSpec.ofChange chainDatasWrong)

/-- 'diurnallaw11.ChainSays': WHATEVER THE INPUT: true; the input reads as it did. -/
def chainSaysSpec : ChangeSpec := { name := "chainSays", fn := fun _ => fun
  | [d1, d2, d3, d4, d5, d6] => { results := [.lit (.bool true)], args := [d1, d2, d3, d4, d5, d6] }
  | _ => none }
def chainSaysRow : OpenClaim := { program := "ytllaambooilnlaagreat", sum := "3d3382208c8b626670c160dffb2ac5c7db0f47e75eb244d9becc23099a994226", func := "diurnal/diurnallaw11.ChainSays", spec := "chainSays", unfollowed := true, recurses := true, apart := false }
def ChainSaysSaid : Prop := chainSaysRow.holds Tryz.pinned (OpenSpec.ofChange chainSaysSpec)

/-- ITS FALSE NEIGHBOUR: 'it returns false'. Refute it at one input. -/
def chainSaysWrong : ChangeSpec := { name := "chainSays", fn := fun _ => fun
  | [d1, d2, d3, d4, d5, d6] => { results := [.lit (.bool false)], args := [d1, d2, d3, d4, d5, d6] }
  | _ => none }
def ChainSaysWrongFalsely : Prop := chainSaysRow.holds Tryz.pinned (OpenSpec.ofChange chainSaysWrong)

/- THE SECOND FORM. 'bulk': how many values and letters a reading holds, each counted each time it is reached (what is shared counts as often as it is met; a slice's spare places count too). A statement '..UptoSaid' is the law's where the arguments, and the package variables that the reading takes, are together of bulk at most 1048576: NARROWER than '..Said'. Prove '..Said' where nothing that the law and all that it calls make is longer than what came in: it says more and counts as full. Else prove '..UptoSaid'. A law counts once. -/
mutual
def uptoBulk {H : Type} : DataW H → Nat
  | .lit (.string bytes) => bytes.length + 1
  | .lit _ => 1
  | .nil => 1
  | .ptr d => uptoBulk d + 1
  | .slice elems spare => uptoBulkAll elems + uptoBulkAll spare + 1
  | .agg parts => uptoBulkAll parts + 1
  | .iface _ d => uptoBulk d + 1
  | .map entries => uptoBulkEntries entries + 1
  | .held _ => 1
def uptoBulkAll {H : Type} : List (DataW H) → Nat
  | [] => 0
  | d :: r => uptoBulk d + uptoBulkAll r
def uptoBulkEntries {H : Type} : List (Lit × DataW H) → Nat
  | [] => 0
  | x :: r => uptoBulkEntry x + uptoBulkEntries r
def uptoBulkEntry {H : Type} : Lit × DataW H → Nat
  | (.string bytes, d) => bytes.length + uptoBulk d + 1
  | (_, d) => uptoBulk d + 1
 end
def uptoSmall : (H : Type) → List (DataW H) → Bool := fun _ ds => decide (uptoBulkAll ds ≤ 1048576)
def OpenSpec.upto (s : _root_.Go.ChangeSpec) : _root_.Go.OpenSpec := { _root_.Go.OpenSpec.ofChange s with cond := some uptoSmall }

/-- 'diurnallaw11.ChainFinds', WHERE WHAT IT READS IS OF BULK AT MOST 1048576: true; the input reads as it did. -/
def chainFindsUptoRow : OpenClaim := { program := "ytllaambooilnlaagreat", sum := "3d3382208c8b626670c160dffb2ac5c7db0f47e75eb244d9becc23099a994226", func := "diurnal/diurnallaw11.ChainFinds", spec := "chainFinds", unfollowed := true, recurses := true, apart := false, narrowed := true }
def ChainFindsUptoSaid : Prop := chainFindsUptoRow.holds Tryz.pinned (OpenSpec.upto chainFindsSpec)

/-- 'diurnallaw11.ChainWhole', WHERE WHAT IT READS IS OF BULK AT MOST 1048576: true; the input reads as it did. -/
def chainWholeUptoRow : OpenClaim := { program := "ytllaambooilnlaagreat", sum := "3d3382208c8b626670c160dffb2ac5c7db0f47e75eb244d9becc23099a994226", func := "diurnal/diurnallaw11.ChainWhole", spec := "chainWhole", unfollowed := true, recurses := true, apart := false, narrowed := true }
def ChainWholeUptoSaid : Prop := chainWholeUptoRow.holds Tryz.pinned (OpenSpec.upto chainWholeSpec)

/-- 'diurnallaw11.ChainDatas', WHERE WHAT IT READS IS OF BULK AT MOST 1048576: true; the input reads as it did. -/
def chainDatasUptoRow : OpenClaim := { program := "ytllaambooilnlaagreat", sum := "3d3382208c8b626670c160dffb2ac5c7db0f47e75eb244d9becc23099a994226", func := "diurnal/diurnallaw11.ChainDatas", spec := "chainDatas", unfollowed := true, recurses := true, apart := false, narrowed := true }
def ChainDatasUptoSaid : Prop := chainDatasUptoRow.holds Tryz.pinned (OpenSpec.upto chainDatasSpec)

/-- 'diurnallaw11.ChainSays', WHERE WHAT IT READS IS OF BULK AT MOST 1048576: true; the input reads as it did. -/
def chainSaysUptoRow : OpenClaim := { program := "ytllaambooilnlaagreat", sum := "3d3382208c8b626670c160dffb2ac5c7db0f47e75eb244d9becc23099a994226", func := "diurnal/diurnallaw11.ChainSays", spec := "chainSays", unfollowed := true, recurses := true, apart := false, narrowed := true }
def ChainSaysUptoSaid : Prop := chainSaysUptoRow.holds Tryz.pinned (OpenSpec.upto chainSaysSpec)

end Rows
end Go.Proofs.YtllaambooilnlaaGreat
