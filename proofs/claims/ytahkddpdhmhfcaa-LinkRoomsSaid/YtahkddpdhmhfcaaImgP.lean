/- A journal without entries. No statement is proved here. -/
import Derived.Test.YtahkddpdhmhfcaaMakerR
import Derived.Test.YtahkddpdhmhfcaaHeadQ
namespace Go.Wk
open Go Go.RowKit
theorem Ow.lsB {e : TypeId} {w w' : World} {Q Q' : Nat → Prop} {v : Value} {xs : List UInt8} (h : Ow tB8 e (Fsh [] w) w' Q' v xs) (uQ : Up w Q) : Ls tB8 w' Q v xs :=
  Ls.of_by h.read.by fun b hb _ => Fsh.up uQ b (h.2 b hb).1
theorem config_slots (s : Sq) : s.config.1.dataSlots ≤ 10 ∧ s.config.1.fieldSlots ≤ 10 := by
  rcases h1 : s.num 5 with ⟨a, s1⟩
  rcases h2 : s1.num 5 with ⟨b, s2⟩
  rcases h3 : s2.num 5 with ⟨c, s3⟩
  rcases h4 : s3.num 7 with ⟨d, s4⟩
  rcases h5 : s4.num 4 with ⟨e, s5⟩
  rcases h6 : s5.num 2 with ⟨f, s6⟩
  have g4 := s3.num_le 7
  have g5 := s4.num_le 4
  rw [h4] at g4; rw [h5] at g5
  simp only [Sq.config, h1, h2, h3, h4, h5, h6]
  simp only at g4 g5
  omega
theorem newMk_len (c : Cfg) (t : Nat) (h : c.dataSlots ≤ 10 ∧ c.fieldSlots ≤ 10) : 272 ≤ (newMk c t).b.length ∧ (newMk c t).b.length ≤ 100000 := by
  have h1 := (putTableF_lenA 4 (List.replicate c.dataSlots { first := 0, tail := 0 })).1
  have h2 := (putTableF_lenA 5 (List.replicate c.fieldSlots { first := 0, tail := 0 })).1
  have e : (newMk c t).b = List.replicate 272 0 ++ putTableF 4 (List.replicate c.dataSlots { first := 0, tail := 0 }) ++ putTableF 5 (List.replicate c.fieldSlots { first := 0, tail := 0 }) := rfl
  rw [e]
  simp only [List.length_append, List.length_replicate] at h1 h2 ⊢
  omega
theorem maker0_len {s s' : Sq} {m : Mk} {rs : List Rec} (h : s.maker 0 = (m, rs, s')) : 272 ≤ m.b.length ∧ m.b.length ≤ 100000 := by
  have hc := config_slots s
  rcases h1 : s.config with ⟨c, s1⟩
  rcases h2 : s1.num 6 with ⟨t, s2⟩
  rw [h1] at hc
  simp only [Sq.maker, h1, h2, makerL, Prod.mk.injEq] at h
  rw [← h.1]
  exact newMk_len c t hc
end Go.Wk
