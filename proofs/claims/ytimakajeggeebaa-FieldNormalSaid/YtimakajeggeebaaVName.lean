/- Walks of functions: what each call returns, over data. -/
import Derived.Test.YtimakajeggeebaaRows
import Derived.Test.YtimakajeggeebaaFldR
import Derived.Test.YtimakajeggeebaaWName
namespace Go.Proofs.Ytimakajeggeebaa
open Go Go.Wk Go.RowKit
set_option linter.unusedVariables false
set_option linter.unusedSimpArgs false
attribute [local irreducible] wpList wpQuiet wpStill wpMix Code.wp Calls bodyPost

theorem rName_any {w : World} {Q : Nat → Prop} (uQ : Up w Q) (s : List UInt8) (p0 : s.length ≤ 9223372036854775807) :
    Calls Try.prog 38 #[str s] w fun en w' => ∃ r0 : Bool, en = .returned (.bool r0) ∧ Md [] w w' ∧ isName s = r0 := by
  refine (rname_any s w p0).mono fun en w' ⟨he, hm⟩ => ⟨isName s, by rw [he], hm ▸ Md.refl [] w, rfl⟩
end Go.Proofs.Ytimakajeggeebaa
