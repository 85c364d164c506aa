/- Walks of functions: what each call returns, over data. -/
import Derived.Test.YtimakajeggeebaaRows
import Derived.Test.YtimakajeggeebaaHashN
import Derived.Test.YtimakajeggeebaaWHash
namespace Go.Proofs.Ytimakajeggeebaa
open Go Go.Wk Go.RowKit
set_option linter.unusedVariables false
set_option linter.unusedSimpArgs false
attribute [local irreducible] wpList wpQuiet wpStill wpMix Code.wp Calls bodyPost

theorem hOf_any {w : World} {Q : Nat → Prop} (uQ : Up w Q) (k : Bool) (key : List UInt8) (a1 : key.length = 16) {v2 : Value} {l : List UInt8} (h2 : Ls tB8 w Q v2 l) (p0 : l.length ≤ 4611686018427387000) :
    Calls Try.prog 19 #[.bool k, .agg (idc key).toArray, v2] w fun en w' => ∃ r0 : Nat, en = .returned (.int .u64 ((r0 : Nat) : Int)) ∧ Md [] w w' ∧ r0 < 18446744073709551616 ∧ hashN k key l = r0 := by
  rw [idc_map a1]
  refine (of_any k key v2 l w a1 h2.by p0).mono fun en w' ⟨he, hm⟩ => ⟨hashN k key l, by rw [he, hashN_eq], hm, hashN_lt k key l, rfl⟩
theorem rOf_any {w : World} {Q : Nat → Prop} (uQ : Up w Q) (k : Bool) (key : List UInt8) (a1 : key.length = 16) {v2 : Value} {l : List UInt8} (h2 : Ls tB8 w Q v2 l) (p0 : l.length ≤ 4611686018427387000) :
    Calls Try.prog 20 #[.bool k, .agg (idc key).toArray, v2] w fun en w' => ∃ r0 : Nat, en = .returned (.int .u64 ((r0 : Nat) : Int)) ∧ Md [] w w' ∧ r0 < 18446744073709551616 ∧ hashN k key l = r0 := by
  rw [idc_map a1]
  refine (rof_any k key v2 l w a1 h2.by p0).mono fun en w' ⟨he, hm⟩ => ⟨hashN k key l, by rw [he, hashN_eq], hm, hashN_lt k key l, rfl⟩
theorem hLook_any {w : World} {Q : Nat → Prop} (uQ : Up w Q) {v0 : Value} {l : List UInt8} (h0 : Ls tB8 w Q v0 l) (p0 : l.length ≤ 4611686018427387000) :
    Calls Try.prog 15 #[v0] w fun en w' => ∃ r0 : Nat, en = .returned (.int .u64 ((r0 : Nat) : Int)) ∧ Md [] w w' ∧ r0 < 18446744073709551616 ∧ lookN l = r0 := by
  refine (lookup_any _ _ w h0.by).mono fun en w' ⟨he, hm⟩ => ⟨lookN l, by rw [he, lookN_eq], hm, lookN_lt l, rfl⟩
theorem rLook_any {w : World} {Q : Nat → Prop} (uQ : Up w Q) {v0 : Value} {l : List UInt8} (h0 : Ls tB8 w Q v0 l) (p0 : l.length ≤ 4611686018427387000) :
    Calls Try.prog 16 #[v0] w fun en w' => ∃ r0 : Nat, en = .returned (.int .u64 ((r0 : Nat) : Int)) ∧ Md [] w w' ∧ r0 < 18446744073709551616 ∧ lookN l = r0 := by
  refine (rlookup_any _ _ w h0.by p0).mono fun en w' ⟨he, hm⟩ => ⟨lookN l, by rw [he, lookN_eq], (hm ▸ Md.refl [] w), lookN_lt l, rfl⟩
end Go.Proofs.Ytimakajeggeebaa
