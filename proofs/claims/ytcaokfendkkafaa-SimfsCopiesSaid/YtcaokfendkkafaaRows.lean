/-
  No cell of these rows narrows 'for every input' (looked for: loops, veiled, ifaces, maps, wideKeys, modest, calm, conditions, laid).
  DERIVED. THE GIVEN ROWS OF THIS SEAT. 9 by the template 'for every input the law returns true; each argument reads behind the call as it read before'; 0 by the template 'total and deterministic' (their statements: YtcaokfendkkafaaTotals.lean).
  GIVEN WITH THE SEED: the statements are not yours to turn. If you find one false, say at which input.
  Laid BY PROGRAM, IN A SANDBOX (cutbox-rows.mjs): the forced cells as the released guide's own fill.sh prints them over the translation 59f7135cc00024bc… (all of the seat's roots in one cut). By AI agents, Wed Nov 11 2026. No macro, syntax, notation, axiom, sorry.
-/
import Derived.Test.YtcaokfendkkafaaChecked
import GoSem.Claim
import GoSem.ClaimJoined
import GoSem.ClaimMapViews
import Derived.JoinedTies
import Derived.KernelRfl
namespace Go.Proofs.Ytcaokfendkkafaa
/- THE CELL 'sum', in the pinned program and in every row, IS THE sha256 OF THE DUMP (.gsa) THAT YtcaokfendkkafaaProg.lean LOADS. Nothing in Lean hashes anything: it is a label: what it is worth is what the hold of that sum in a sandbox is worth. -/
noncomputable def Try.pinned : Pinned := { name := "ytcaokfendkkafaa", sum := "59f7135cc00024bc90f467a3cf67094aee35bc3256c4904d26d0ab3c81803e22", checked := Try.checked }
namespace Rows
def none {H : Type} : Left H := { results := [], args := [] }

/-- 'diurnallaw6.SimfsDirs': WHATEVER THE INPUT: true; the input reads as it did. -/
def simfsDirsSpec : ChangeSpec := { name := "simfsDirs", fn := fun _ => fun
  | [d1, d2, d3] => { results := [.lit (.bool true)], args := [d1, d2, d3] }
  | _ => none }
def simfsDirsRow : OpenClaim := { program := "ytcaokfendkkafaa", sum := "59f7135cc00024bc90f467a3cf67094aee35bc3256c4904d26d0ab3c81803e22", func := "diurnal/diurnallaw6.SimfsDirs", spec := "simfsDirs", unfollowed := true, recurses := true, apart := false }
def SimfsDirsSaid : Prop := simfsDirsRow.holds Try.pinned (OpenSpec.ofChange simfsDirsSpec)

/-- ITS FALSE NEIGHBOUR: 'it returns false'. Refute it at one input. -/
def simfsDirsWrong : ChangeSpec := { name := "simfsDirs", fn := fun _ => fun
  | [d1, d2, d3] => { results := [.lit (.bool false)], args := [d1, d2, d3] }
  | _ => none }
def SimfsDirsWrongFalsely : Prop := simfsDirsRow.holds Try.pinned (OpenSpec.ofChange simfsDirsWrong)

/-- 'diurnallaw6.SimfsMakes': WHATEVER THE INPUT: true; the input reads as it did. -/
def simfsMakesSpec : ChangeSpec := { name := "simfsMakes", fn := fun _ => fun
  | [d1, d2] => { results := [.lit (.bool true)], args := [d1, d2] }
  | _ => none }
def simfsMakesRow : OpenClaim := { program := "ytcaokfendkkafaa", sum := "59f7135cc00024bc90f467a3cf67094aee35bc3256c4904d26d0ab3c81803e22", func := "diurnal/diurnallaw6.SimfsMakes", spec := "simfsMakes", unfollowed := true, recurses := true, apart := false }
def SimfsMakesSaid : Prop := simfsMakesRow.holds Try.pinned (OpenSpec.ofChange simfsMakesSpec)

/-- ITS FALSE NEIGHBOUR: 'it returns false'. Refute it at one input. -/
def simfsMakesWrong : ChangeSpec := { name := "simfsMakes", fn := fun _ => fun
  | [d1, d2] => { results := [.lit (.bool false)], args := [d1, d2] }
  | _ => none }
def SimfsMakesWrongFalsely : Prop := simfsMakesRow.holds Try.pinned (OpenSpec.ofChange simfsMakesWrong)

/-- 'diurnallaw6.SimfsFuses': WHATEVER THE INPUT: true; the input reads as it did. -/
def simfsFusesSpec : ChangeSpec := { name := "simfsFuses", fn := fun _ => fun
  | [d1, d2] => { results := [.lit (.bool true)], args := [d1, d2] }
  | _ => none }
def simfsFusesRow : OpenClaim := { program := "ytcaokfendkkafaa", sum := "59f7135cc00024bc90f467a3cf67094aee35bc3256c4904d26d0ab3c81803e22", func := "diurnal/diurnallaw6.SimfsFuses", spec := "simfsFuses", unfollowed := true, recurses := true, apart := false }
def SimfsFusesSaid : Prop := simfsFusesRow.holds Try.pinned (OpenSpec.ofChange simfsFusesSpec)

/-- ITS FALSE NEIGHBOUR: 'it returns false'. Refute it at one input. -/
def simfsFusesWrong : ChangeSpec := { name := "simfsFuses", fn := fun _ => fun
  | [d1, d2] => { results := [.lit (.bool false)], args := [d1, d2] }
  | _ => none }
def SimfsFusesWrongFalsely : Prop := simfsFusesRow.holds Try.pinned (OpenSpec.ofChange simfsFusesWrong)

/-- 'diurnallaw6.SimfsSafe': WHATEVER THE INPUT: true; the input reads as it did. -/
def simfsSafeSpec : ChangeSpec := { name := "simfsSafe", fn := fun _ => fun
  | [d1, d2, d3, d4] => { results := [.lit (.bool true)], args := [d1, d2, d3, d4] }
  | _ => none }
def simfsSafeRow : OpenClaim := { program := "ytcaokfendkkafaa", sum := "59f7135cc00024bc90f467a3cf67094aee35bc3256c4904d26d0ab3c81803e22", func := "diurnal/diurnallaw6.SimfsSafe", spec := "simfsSafe", unfollowed := true, recurses := true, apart := false }
def SimfsSafeSaid : Prop := simfsSafeRow.holds Try.pinned (OpenSpec.ofChange simfsSafeSpec)

/-- ITS FALSE NEIGHBOUR: 'it returns false'. Refute it at one input. -/
def simfsSafeWrong : ChangeSpec := { name := "simfsSafe", fn := fun _ => fun
  | [d1, d2, d3, d4] => { results := [.lit (.bool false)], args := [d1, d2, d3, d4] }
  | _ => none }
def SimfsSafeWrongFalsely : Prop := simfsSafeRow.holds Try.pinned (OpenSpec.ofChange simfsSafeWrong)

/-- 'diurnallaw6.SimfsCopies': WHATEVER THE INPUT: true; the input reads as it did. -/
def simfsCopiesSpec : ChangeSpec := { name := "simfsCopies", fn := fun _ => fun
  | [d1, d2, d3, d4] => { results := [.lit (.bool true)], args := [d1, d2, d3, d4] }
  | _ => none }
def simfsCopiesRow : OpenClaim := { program := "ytcaokfendkkafaa", sum := "59f7135cc00024bc90f467a3cf67094aee35bc3256c4904d26d0ab3c81803e22", func := "diurnal/diurnallaw6.SimfsCopies", spec := "simfsCopies", unfollowed := true, recurses := true, apart := false }
def SimfsCopiesSaid : Prop := simfsCopiesRow.holds Try.pinned (OpenSpec.ofChange simfsCopiesSpec)

/-- ITS FALSE NEIGHBOUR: 'it returns false'. Refute it at one input. -/
def simfsCopiesWrong : ChangeSpec := { name := "simfsCopies", fn := fun _ => fun
  | [d1, d2, d3, d4] => { results := [.lit (.bool false)], args := [d1, d2, d3, d4] }
  | _ => none }
def SimfsCopiesWrongFalsely : Prop := simfsCopiesRow.holds Try.pinned (OpenSpec.ofChange simfsCopiesWrong)

/-- 'diurnallaw24.CkptSays': WHATEVER THE INPUT: true; the input reads as it did. -/
def ckptSaysSpec : ChangeSpec := { name := "ckptSays", fn := fun _ => fun
  | [d1, d2, d3] => { results := [.lit (.bool true)], args := [d1, d2, d3] }
  | _ => none }
def ckptSaysRow : OpenClaim := { program := "ytcaokfendkkafaa", sum := "59f7135cc00024bc90f467a3cf67094aee35bc3256c4904d26d0ab3c81803e22", func := "diurnal/diurnallaw24.CkptSays", spec := "ckptSays", inPlace := ["internal/bytealg.Compare"], unfollowed := true, recurses := true, apart := false }
def CkptSaysSaid : Prop := ckptSaysRow.holds Try.pinned (OpenSpec.ofChange ckptSaysSpec)

/-- ITS FALSE NEIGHBOUR: 'it returns false'. Refute it at one input. -/
def ckptSaysWrong : ChangeSpec := { name := "ckptSays", fn := fun _ => fun
  | [d1, d2, d3] => { results := [.lit (.bool false)], args := [d1, d2, d3] }
  | _ => none }
def CkptSaysWrongFalsely : Prop := ckptSaysRow.holds Try.pinned (OpenSpec.ofChange ckptSaysWrong)

/-- 'diurnallaw24.CkptFull': WHATEVER THE INPUT: true; the input reads as it did. -/
def ckptFullSpec : ChangeSpec := { name := "ckptFull", fn := fun _ => fun
  | [d1, d2, d3, d4] => { results := [.lit (.bool true)], args := [d1, d2, d3, d4] }
  | _ => none }
def ckptFullRow : OpenClaim := { program := "ytcaokfendkkafaa", sum := "59f7135cc00024bc90f467a3cf67094aee35bc3256c4904d26d0ab3c81803e22", func := "diurnal/diurnallaw24.CkptFull", spec := "ckptFull", inPlace := ["internal/bytealg.Compare"], unfollowed := true, recurses := true, apart := false }
def CkptFullSaid : Prop := ckptFullRow.holds Try.pinned (OpenSpec.ofChange ckptFullSpec)

/-- ITS FALSE NEIGHBOUR: 'it returns false'. Refute it at one input. -/
def ckptFullWrong : ChangeSpec := { name := "ckptFull", fn := fun _ => fun
  | [d1, d2, d3, d4] => { results := [.lit (.bool false)], args := [d1, d2, d3, d4] }
  | _ => none }
def CkptFullWrongFalsely : Prop := ckptFullRow.holds Try.pinned (OpenSpec.ofChange ckptFullWrong)

/-- 'diurnallaw24.CkptBack': WHATEVER THE INPUT: true; the input reads as it did. -/
def ckptBackSpec : ChangeSpec := { name := "ckptBack", fn := fun _ => fun
  | [d1, d2, d3] => { results := [.lit (.bool true)], args := [d1, d2, d3] }
  | _ => none }
def ckptBackRow : OpenClaim := { program := "ytcaokfendkkafaa", sum := "59f7135cc00024bc90f467a3cf67094aee35bc3256c4904d26d0ab3c81803e22", func := "diurnal/diurnallaw24.CkptBack", spec := "ckptBack", inPlace := ["internal/bytealg.Compare"], unfollowed := true, recurses := true, apart := false }
def CkptBackSaid : Prop := ckptBackRow.holds Try.pinned (OpenSpec.ofChange ckptBackSpec)

/-- ITS FALSE NEIGHBOUR: 'it returns false'. Refute it at one input. -/
def ckptBackWrong : ChangeSpec := { name := "ckptBack", fn := fun _ => fun
  | [d1, d2, d3] => { results := [.lit (.bool false)], args := [d1, d2, d3] }
  | _ => none }
def CkptBackWrongFalsely : Prop := ckptBackRow.holds Try.pinned (OpenSpec.ofChange ckptBackWrong)

/-- 'diurnallaw24.CkptFalls': WHATEVER THE INPUT: true; the input reads as it did. -/
def ckptFallsSpec : ChangeSpec := { name := "ckptFalls", fn := fun _ => fun
  | [d1, d2, d3, d4] => { results := [.lit (.bool true)], args := [d1, d2, d3, d4] }
  | _ => none }
def ckptFallsRow : OpenClaim := { program := "ytcaokfendkkafaa", sum := "59f7135cc00024bc90f467a3cf67094aee35bc3256c4904d26d0ab3c81803e22", func := "diurnal/diurnallaw24.CkptFalls", spec := "ckptFalls", inPlace := ["internal/bytealg.Compare"], unfollowed := true, recurses := true, apart := false }
def CkptFallsSaid : Prop := ckptFallsRow.holds Try.pinned (OpenSpec.ofChange ckptFallsSpec)

/-- ITS FALSE NEIGHBOUR: 'it returns false'. Refute it at one input. -/
def ckptFallsWrong : ChangeSpec := { name := "ckptFalls", fn := fun _ => fun
  | [d1, d2, d3, d4] => { results := [.lit (.bool false)], args := [d1, d2, d3, d4] }
  | _ => none }
def CkptFallsWrongFalsely : Prop := ckptFallsRow.holds Try.pinned (OpenSpec.ofChange ckptFallsWrong)

/- THE SECOND FORM. 'bulk': how many values and letters a reading holds, each counted each time it is reached (what is shared counts as often as it is met; a slice's spare places count too). A statement '..UptoSaid' is the law's where the arguments, and the package variables that the reading takes, are together of bulk at most 1048576: NARROWER than '..Said'. Prove '..Said' where nothing that the law and all that it calls make is longer than what came in: it says more and counts as full. Else prove '..UptoSaid'. A law counts once. -/
mutual
def uptoBulk {H : Type} : DataW H → Nat
  | .lit (.string bytes) => bytes.length + 1
  | .lit _ => 1
  | .nil => 1
  | .ptr d => uptoBulk d + 1
  | .slice elems spare => uptoBulkAll elems + uptoBulkAll spare + 1
  | .agg parts => uptoBulkAll parts + 1
  | .iface _ d => uptoBulk d + 1
  | .map entries => uptoBulkEntries entries + 1
  | .held _ => 1
def uptoBulkAll {H : Type} : List (DataW H) → Nat
  | [] => 0
  | d :: r => uptoBulk d + uptoBulkAll r
def uptoBulkEntries {H : Type} : List (Lit × DataW H) → Nat
  | [] => 0
  | x :: r => uptoBulkEntry x + uptoBulkEntries r
def uptoBulkEntry {H : Type} : Lit × DataW H → Nat
  | (.string bytes, d) => bytes.length + uptoBulk d + 1
  | (_, d) => uptoBulk d + 1
 end
def uptoSmall : (H : Type) → List (DataW H) → Bool := fun _ ds => decide (uptoBulkAll ds ≤ 1048576)
def OpenSpec.upto (s : _root_.Go.ChangeSpec) : _root_.Go.OpenSpec := { _root_.Go.OpenSpec.ofChange s with cond := some uptoSmall }

/-- 'diurnallaw6.SimfsDirs', WHERE WHAT IT READS IS OF BULK AT MOST 1048576: true; the input reads as it did. -/
def simfsDirsUptoRow : OpenClaim := { program := "ytcaokfendkkafaa", sum := "59f7135cc00024bc90f467a3cf67094aee35bc3256c4904d26d0ab3c81803e22", func := "diurnal/diurnallaw6.SimfsDirs", spec := "simfsDirs", unfollowed := true, recurses := true, apart := false, narrowed := true }
def SimfsDirsUptoSaid : Prop := simfsDirsUptoRow.holds Try.pinned (OpenSpec.upto simfsDirsSpec)

/-- 'diurnallaw6.SimfsMakes', WHERE WHAT IT READS IS OF BULK AT MOST 1048576: true; the input reads as it did. -/
def simfsMakesUptoRow : OpenClaim := { program := "ytcaokfendkkafaa", sum := "59f7135cc00024bc90f467a3cf67094aee35bc3256c4904d26d0ab3c81803e22", func := "diurnal/diurnallaw6.SimfsMakes", spec := "simfsMakes", unfollowed := true, recurses := true, apart := false, narrowed := true }
def SimfsMakesUptoSaid : Prop := simfsMakesUptoRow.holds Try.pinned (OpenSpec.upto simfsMakesSpec)

/-- 'diurnallaw6.SimfsFuses', WHERE WHAT IT READS IS OF BULK AT MOST 1048576: true; the input reads as it did. -/
def simfsFusesUptoRow : OpenClaim := { program := "ytcaokfendkkafaa", sum := "59f7135cc00024bc90f467a3cf67094aee35bc3256c4904d26d0ab3c81803e22", func := "diurnal/diurnallaw6.SimfsFuses", spec := "simfsFuses", unfollowed := true, recurses := true, apart := false, narrowed := true }
def SimfsFusesUptoSaid : Prop := simfsFusesUptoRow.holds Try.pinned (OpenSpec.upto simfsFusesSpec)

/-- 'diurnallaw6.SimfsSafe', WHERE WHAT IT READS IS OF BULK AT MOST 1048576: true; the input reads as it did. -/
def simfsSafeUptoRow : OpenClaim := { program := "ytcaokfendkkafaa", sum := "59f7135cc00024bc90f467a3cf67094aee35bc3256c4904d26d0ab3c81803e22", func := "diurnal/diurnallaw6.SimfsSafe", spec := "simfsSafe", unfollowed := true, recurses := true, apart := false, narrowed := true }
def SimfsSafeUptoSaid : Prop := simfsSafeUptoRow.holds Try.pinned (OpenSpec.upto simfsSafeSpec)

/-- 'diurnallaw6.SimfsCopies', WHERE WHAT IT READS IS OF BULK AT MOST 1048576: true; the input reads as it did. -/
def simfsCopiesUptoRow : OpenClaim := { program := "ytcaokfendkkafaa", sum := "59f7135cc00024bc90f467a3cf67094aee35bc3256c4904d26d0ab3c81803e22", func := "diurnal/diurnallaw6.SimfsCopies", spec := "simfsCopies", unfollowed := true, recurses := true, apart := false, narrowed := true }
def SimfsCopiesUptoSaid : Prop := simfsCopiesUptoRow.holds Try.pinned (OpenSpec.upto simfsCopiesSpec)

/-- 'diurnallaw24.CkptSays', WHERE WHAT IT READS IS OF BULK AT MOST 1048576: true; the input reads as it did. -/
def ckptSaysUptoRow : OpenClaim := { program := "ytcaokfendkkafaa", sum := "59f7135cc00024bc90f467a3cf67094aee35bc3256c4904d26d0ab3c81803e22", func := "diurnal/diurnallaw24.CkptSays", spec := "ckptSays", inPlace := ["internal/bytealg.Compare"], unfollowed := true, recurses := true, apart := false, narrowed := true }
def CkptSaysUptoSaid : Prop := ckptSaysUptoRow.holds Try.pinned (OpenSpec.upto ckptSaysSpec)

/-- 'diurnallaw24.CkptFull', WHERE WHAT IT READS IS OF BULK AT MOST 1048576: true; the input reads as it did. -/
def ckptFullUptoRow : OpenClaim := { program := "ytcaokfendkkafaa", sum := "59f7135cc00024bc90f467a3cf67094aee35bc3256c4904d26d0ab3c81803e22", func := "diurnal/diurnallaw24.CkptFull", spec := "ckptFull", inPlace := ["internal/bytealg.Compare"], unfollowed := true, recurses := true, apart := false, narrowed := true }
def CkptFullUptoSaid : Prop := ckptFullUptoRow.holds Try.pinned (OpenSpec.upto ckptFullSpec)

/-- 'diurnallaw24.CkptBack', WHERE WHAT IT READS IS OF BULK AT MOST 1048576: true; the input reads as it did. -/
def ckptBackUptoRow : OpenClaim := { program := "ytcaokfendkkafaa", sum := "59f7135cc00024bc90f467a3cf67094aee35bc3256c4904d26d0ab3c81803e22", func := "diurnal/diurnallaw24.CkptBack", spec := "ckptBack", inPlace := ["internal/bytealg.Compare"], unfollowed := true, recurses := true, apart := false, narrowed := true }
def CkptBackUptoSaid : Prop := ckptBackUptoRow.holds Try.pinned (OpenSpec.upto ckptBackSpec)

/-- 'diurnallaw24.CkptFalls', WHERE WHAT IT READS IS OF BULK AT MOST 1048576: true; the input reads as it did. -/
def ckptFallsUptoRow : OpenClaim := { program := "ytcaokfendkkafaa", sum := "59f7135cc00024bc90f467a3cf67094aee35bc3256c4904d26d0ab3c81803e22", func := "diurnal/diurnallaw24.CkptFalls", spec := "ckptFalls", inPlace := ["internal/bytealg.Compare"], unfollowed := true, recurses := true, apart := false, narrowed := true }
def CkptFallsUptoSaid : Prop := ckptFallsUptoRow.holds Try.pinned (OpenSpec.upto ckptFallsSpec)

end Rows
end Go.Proofs.Ytcaokfendkkafaa
