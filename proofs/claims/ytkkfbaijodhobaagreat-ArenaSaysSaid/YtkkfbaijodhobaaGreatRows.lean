/-
  No cell of these rows narrows 'for every input' (looked for: loops, veiled, ifaces, maps, wideKeys, modest, calm, conditions, laid).
  DERIVED. THE GIVEN ROWS OF THIS SEAT. 2 by the template 'for every input the law returns true; each argument reads behind the call as it read before'; 0 by the template 'total and deterministic' (their statements: YtkkfbaijodhobaaGreatTotals.lean).
  GIVEN WITH THE SEED: the statements are not yours to turn. If you find one false, say at which input.
  Laid BY PROGRAM, IN A SANDBOX (cutbox-rows.mjs): the forced cells as the released guide's own fill.sh prints them over the translation 7c8b938a3c7581fb… (all of the seat's roots in one cut). By AI agents, Wed Nov 11 2026. No macro, syntax, notation, axiom, sorry.
-/
import Derived.Test.YtkkfbaijodhobaaGreatChecked
import GoSem.Claim
import GoSem.ClaimJoined
import GoSem.ClaimMapViews
import Derived.JoinedTies
import Derived.KernelRfl
namespace Go.Proofs.YtkkfbaijodhobaaGreat
/- THE CELL 'sum', in the pinned program and in every row, IS THE sha256 OF THE DUMP (.gsa) THAT YtkkfbaijodhobaaGreatProg.lean LOADS. Nothing in Lean hashes anything: it is a label: what it is worth is what the hold of that sum in a sandbox is worth. -/
noncomputable def Tryz.pinned : Pinned := { name := "ytkkfbaijodhobaagreat", sum := "7c8b938a3c7581fb6ee966fd5074ac3c469228cbe777f01d4405aeab98783eb6", checked := Tryz.checked }
namespace Rows
def none {H : Type} : Left H := { results := [], args := [] }

/-- 'diurnallaw10.ArenaRaw': WHATEVER THE INPUT: true; the input reads as it did. -/
def arenaRawSpec : ChangeSpec := { name := "arenaRaw", fn := fun _ => fun
  | [d1, d2] => { results := [.lit (.bool true)], args := [d1, d2] }
  | _ => none }
def arenaRawRow : OpenClaim := { program := "ytkkfbaijodhobaagreat", sum := "7c8b938a3c7581fb6ee966fd5074ac3c469228cbe777f01d4405aeab98783eb6", func := "diurnal/diurnallaw10.ArenaRaw", spec := "arenaRaw", inPlace := ["internal/bytealg.IndexByte", "internal/bytealg.Index"], unfollowed := true, recurses := true, named := ["internal/bytealg.MaxLen"], apart := false }
def ArenaRawSaid : Prop := arenaRawRow.holds Tryz.pinned (OpenSpec.ofChange arenaRawSpec)

/-- ITS FALSE NEIGHBOUR: 'it returns false'. Refute it at one input. -/
def arenaRawWrong : ChangeSpec := { name := "arenaRaw", fn := fun _ => fun
  | [d1, d2] => { results := [.lit (.bool false)], args := [d1, d2] }
  | _ => none }
def ArenaRawWrongFalsely : Prop := arenaRawRow.holds Tryz.pinned (OpenSpec.ofChange arenaRawWrong)

/-- 'diurnallaw10.ArenaSays': WHATEVER THE INPUT: true; the input reads as it did. -/
def arenaSaysSpec : ChangeSpec := { name := "arenaSays", fn := fun _ => fun
  | [d1, d2, d3, d4, d5] => { results := [.lit (.bool true)], args := [d1, d2, d3, d4, d5] }
  | _ => none }
def arenaSaysRow : OpenClaim := { program := "ytkkfbaijodhobaagreat", sum := "7c8b938a3c7581fb6ee966fd5074ac3c469228cbe777f01d4405aeab98783eb6", func := "diurnal/diurnallaw10.ArenaSays", spec := "arenaSays", inPlace := ["internal/bytealg.IndexByte", "internal/bytealg.Index"], unfollowed := true, recurses := true, named := ["internal/bytealg.MaxLen"], apart := false }
def ArenaSaysSaid : Prop := arenaSaysRow.holds Tryz.pinned (OpenSpec.ofChange arenaSaysSpec)

/-- ITS FALSE NEIGHBOUR: 'it returns false'. Refute it at one input. -/
def arenaSaysWrong : ChangeSpec := { name := "arenaSays", fn := fun _ => fun
  | [d1, d2, d3, d4, d5] => { results := [.lit (.bool false)], args := [d1, d2, d3, d4, d5] }
  | _ => none }
def ArenaSaysWrongFalsely : Prop := arenaSaysRow.holds Tryz.pinned (OpenSpec.ofChange arenaSaysWrong)

/- THE SECOND FORM. 'bulk': how many values and letters a reading holds, each counted each time it is reached (what is shared counts as often as it is met; a slice's spare places count too). A statement '..UptoSaid' is the law's where the arguments, and the package variables that the reading takes, are together of bulk at most 1048576: NARROWER than '..Said'. Prove '..Said' where nothing that the law and all that it calls make is longer than what came in: it says more and counts as full. Else prove '..UptoSaid'. A law counts once. -/
mutual
def uptoBulk {H : Type} : DataW H → Nat
  | .lit (.string bytes) => bytes.length + 1
  | .lit _ => 1
  | .nil => 1
  | .ptr d => uptoBulk d + 1
  | .slice elems spare => uptoBulkAll elems + uptoBulkAll spare + 1
  | .agg parts => uptoBulkAll parts + 1
  | .iface _ d => uptoBulk d + 1
  | .map entries => uptoBulkEntries entries + 1
  | .held _ => 1
def uptoBulkAll {H : Type} : List (DataW H) → Nat
  | [] => 0
  | d :: r => uptoBulk d + uptoBulkAll r
def uptoBulkEntries {H : Type} : List (Lit × DataW H) → Nat
  | [] => 0
  | x :: r => uptoBulkEntry x + uptoBulkEntries r
def uptoBulkEntry {H : Type} : Lit × DataW H → Nat
  | (.string bytes, d) => bytes.length + uptoBulk d + 1
  | (_, d) => uptoBulk d + 1
 end
def uptoSmall : (H : Type) → List (DataW H) → Bool := fun _ ds => decide (uptoBulkAll ds ≤ 1048576)
def OpenSpec.upto (s : _root_.Go.ChangeSpec) : _root_.Go.OpenSpec := { _root_.Go.OpenSpec.ofChange s with cond := some uptoSmall }

/-- 'diurnallaw10.ArenaRaw', WHERE WHAT IT READS IS OF BULK AT MOST 1048576: true; the input reads as it did. -/
def arenaRawUptoRow : OpenClaim := { program := "ytkkfbaijodhobaagreat", sum := "7c8b938a3c7581fb6ee966fd5074ac3c469228cbe777f01d4405aeab98783eb6", func := "diurnal/diurnallaw10.ArenaRaw", spec := "arenaRaw", inPlace := ["internal/bytealg.IndexByte", "internal/bytealg.Index"], unfollowed := true, recurses := true, named := ["internal/bytealg.MaxLen"], apart := false, narrowed := true }
def ArenaRawUptoSaid : Prop := arenaRawUptoRow.holds Tryz.pinned (OpenSpec.upto arenaRawSpec)

/-- 'diurnallaw10.ArenaSays', WHERE WHAT IT READS IS OF BULK AT MOST 1048576: true; the input reads as it did. -/
def arenaSaysUptoRow : OpenClaim := { program := "ytkkfbaijodhobaagreat", sum := "7c8b938a3c7581fb6ee966fd5074ac3c469228cbe777f01d4405aeab98783eb6", func := "diurnal/diurnallaw10.ArenaSays", spec := "arenaSays", inPlace := ["internal/bytealg.IndexByte", "internal/bytealg.Index"], unfollowed := true, recurses := true, named := ["internal/bytealg.MaxLen"], apart := false, narrowed := true }
def ArenaSaysUptoSaid : Prop := arenaSaysUptoRow.holds Tryz.pinned (OpenSpec.upto arenaSaysSpec)

end Rows
end Go.Proofs.YtkkfbaijodhobaaGreat
