/- The given statement of MatchSays: for every input the call returns true, and the input reads as it did; out of the walk of the law. -/
import Derived.Test.YtimhhcacjiombaaRows
import Derived.Test.YtimhhcacjiombaaMS4
import Derived.ChangeOld
import Derived.Below
import Derived.SizedLaws
namespace Go.Proofs.Ytimhhcacjiombaa.matchSaysP
open Go Go.Wk Go.ChangeShapes Go.WideShapes Go.ChangeAt Go.RowKit
open Go.ChangeMaps (open_string shut_string)
set_option linter.unusedVariables false

theorem own : ownKnob Try.prog.godebug = none := by kernel_rfl
theorem laidOut : laidOutB Try.prog = true := by kernel_rfl

theorem BO44 : Nat.ble 1 (Try.prog.bytesOf 44) = true := by kernel_rfl
theorem BO9 : Nat.ble 1 (Try.prog.bytesOf 9) = true := by kernel_rfl
theorem C24 : Try.prog.cellsOf 24 = 1 := by kernel_rfl
theorem C33 : Try.prog.cellsOf 33 = 2 := by kernel_rfl
theorem C35 : Try.prog.cellsOf 35 = 1 := by kernel_rfl
theorem C37 : Try.prog.cellsOf 37 = 1 := by kernel_rfl
theorem C42 : Try.prog.cellsOf 42 = 1 := by kernel_rfl
theorem C44 : Try.prog.cellsOf 44 = 2 := by kernel_rfl
theorem C9 : Try.prog.cellsOf 9 = 1 := by kernel_rfl
theorem OT37 : oneT Try.prog 37 35 = true := by kernel_rfl
theorem PR33 : pairT Try.prog 33 9 = true := by kernel_rfl
theorem TT44 : twoT Try.prog 44 9 24 = true := by kernel_rfl
theorem U24 : Try.prog.underlying 24 = some (.slice 9) := by kernel_rfl
theorem U29 : Try.prog.underlying 29 = some (.slice 33) := by kernel_rfl
theorem U35 : Try.prog.underlying 35 = some (.slice 42) := by kernel_rfl
theorem U42 : Try.prog.underlying 42 = some (.slice 44) := by kernel_rfl
theorem U9 : Try.prog.underlying 9 = some (.string) := by kernel_rfl

set_option maxRecDepth 100000 in
theorem lifted (os : Os) (started : os.Started) (H : Type) (enc : TypeId × Value → H) :
    ReturnsInHanded {} Try.checked os 5 .any (Rows.matchSaysSpec.pre6 enc Try.prog Try.f5 Rows.matchSaysRow.domain false) (Rows.matchSaysSpec.post enc Try.prog Try.f5 false true false false) := by
  refine returnsInHanded_of_change_sized (C := Try.checked) own started (by kernel_rfl) Try.func5
    (ChangeSpec.witness6 (enc := enc) (C := Try.checked) false ⟨#[], #[.slice none 0 0, .agg #[.slice none 0 0], .agg #[.slice none 0 0], .slice none 0 0], []⟩ 8 (by kernel_rfl) (by kernel_rfl) (by kernel_rfl) (by kernel_rfl)) ?_
  intro W base args ds gs before hval0 hW hcnd hz _
  have hval : ∀ (j : Nat) t v, Try.f5.params[j]? = some t → args[j]? = some v → Value.okWide Try.prog W .any base t v := hval0
  have hW' := hW
  obtain ⟨p, q, hA0, hV, rfl, hfz, hnd⟩ := hW
  have hA : DataW.TrodAll enc Try.prog W 0 (fun _ => true) true Try.f5.params.toList args.toList ds p := hA0
  rw [Try.params5] at hA hval
  obtain ⟨v0, vs0, d0, ds0, p0, q0, hargs, rfl, rfl, h0, r0⟩ := trodAll_cons hA
  obtain ⟨v1, vs1, d1, ds1, p1, q1, rfl, rfl, rfl, h1, r1⟩ := trodAll_cons r0
  obtain ⟨v2, vs2, d2, ds2, p2, q2, rfl, rfl, rfl, h2, r2⟩ := trodAll_cons r1
  obtain ⟨v3, vs3, d3, ds3, p3, q3, rfl, rfl, rfl, h3, r3⟩ := trodAll_cons r2
  obtain ⟨rfl, rfl, rfl⟩ := trodAll_nil r3
  obtain rfl : args = #[v0, v1, v2, v3] := by cases args; simp_all
  obtain ⟨rfl, rfl⟩ := trodVars_none hV
  have hz0 : (d0.weights Try.prog 24).all (· ≤ reachBytes) = true := List.all_eq_true.2 fun n hn => List.all_eq_true.1 hz n (DataW.weights_mem_each (j := 0) (t := 24) (by kernel_rfl) rfl n hn)
  have hz1 : (d1.weights Try.prog 37).all (· ≤ reachBytes) = true := List.all_eq_true.2 fun n hn => List.all_eq_true.1 hz n (DataW.weights_mem_each (j := 1) (t := 37) (by kernel_rfl) rfl n hn)
  have hz2 : (d2.weights Try.prog 37).all (· ≤ reachBytes) = true := List.all_eq_true.2 fun n hn => List.all_eq_true.1 hz n (DataW.weights_mem_each (j := 2) (t := 37) (by kernel_rfl) rfl n hn)
  have hz3 : (d3.weights Try.prog 29).all (· ≤ reachBytes) = true := List.all_eq_true.2 fun n hn => List.all_eq_true.1 hz n (DataW.weights_mem_each (j := 3) (t := 29) (by kernel_rfl) rfl n hn)
  have k0 := h0
  have lt0 : ∀ x ∈ p0, x.block < W.heap.size := by obtain ⟨m, hm⟩ := k0; exact DataW.trod_lt m _ _ _ hm
  obtain ⟨l0, w0⟩ := open_strs U24 U9 C9 (hval 0 24 v0 rfl rfl) h0 hz0
  have k1 := h1
  have lt1 : ∀ x ∈ p1, x.block < W.heap.size := by obtain ⟨m, hm⟩ := k1; exact DataW.trod_lt m _ _ _ hm
  obtain ⟨l1, u1, rfl, w1, b1a, b1b, b1c⟩ := open_mat OT37 C37 C35 U35 C42 U42 TT44 U9 U24 C9 C24 C44 BO44 BO9 (hval 1 37 v1 rfl rfl) h1 hz1
  have k2 := h2
  have lt2 : ∀ x ∈ p2, x.block < W.heap.size := by obtain ⟨m, hm⟩ := k2; exact DataW.trod_lt m _ _ _ hm
  obtain ⟨l2, u2, rfl, w2, b2a, b2b, b2c⟩ := open_mat OT37 C37 C35 U35 C42 U42 TT44 U9 U24 C9 C24 C44 BO44 BO9 (hval 2 37 v2 rfl rfl) h2 hz2
  have k3 := h3
  have lt3 : ∀ x ∈ p3, x.block < W.heap.size := by obtain ⟨m, hm⟩ := k3; exact DataW.trod_lt m _ _ _ hm
  obtain ⟨l3, w3, n3⟩ := open_prs U29 PR33 U9 C9 C33 (hval 3 29 v3 rfl rfl) h3
  clear hA0 hval0
  refine ((matchSays_any (Q := fun _ => True) (fun _ _ => trivial) w0 l1 w1 l2 w2 w3 b1a b1b b1c b2a b2b).mono fun e w' ⟨r, he, hm, hr⟩ => (⟨by rw [he, ← hr], hm⟩ : e = Ending.returned (Value.bool true) ∧ Md [] W w')).mono fun e W' ⟨he, hmd⟩ => ?_
  subst he
  have bel := hmd.below
  exact ⟨_, rfl, _, _, _, [], _, [], hW', trodAll_mk1 (shut_bool (show Try.prog.underlying 4 = some .bool from by kernel_rfl) _), (trodAll_cons_mk (Below.trod laidOut (by kernel_rfl) (of_decide_eq_true (by kernel_rfl)) k0 bel lt0) (trodAll_cons_mk (Below.trod laidOut (by kernel_rfl) (of_decide_eq_true (by kernel_rfl)) k1 bel lt1) (trodAll_cons_mk (Below.trod laidOut (by kernel_rfl) (of_decide_eq_true (by kernel_rfl)) k2 bel lt2) (trodAll_cons_mk (Below.trod laidOut (by kernel_rfl) (of_decide_eq_true (by kernel_rfl)) k3 bel lt3) trodAll_mk0)))), rfl, bel.frame _, fun h => by cases h⟩

theorem over : Rows.matchSaysRow.holds Try.pinned (OpenSpec.ofChange Rows.matchSaysSpec) :=
  OpenClaim.holds_of_wide 5 Try.f5 rfl rfl rfl rfl rfl rfl rfl ⟨rfl, rfl, rfl, rfl, rfl⟩ rfl rfl rfl rfl rfl (by kernel_rfl) Try.func5 (by kernel_rfl)
    (of_decide_eq_true (by kernel_rfl)) (by unfold Func.isWrapper; first | (rw [if_pos (by decide +kernel)]; kernel_rfl) | (rw [if_neg (by decide +kernel)]; exact ⟨rfl, rfl⟩))
    (fun os started H enc _ => lifted os started H enc)

end Go.Proofs.Ytimhhcacjiombaa.matchSaysP
namespace Go.Proofs.Ytimhhcacjiombaa
theorem matchSays_proved : Rows.MatchSaysSaid := matchSaysP.over
#print axioms matchSays_proved
end Go.Proofs.Ytimhhcacjiombaa
