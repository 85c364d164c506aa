/- Loops of several variables, returns of several results. No statement is proved here. -/
import Derived.Test.YtahkddpdhmhfcaaPuts
namespace Go.Wk
open Go Go.RowKit
section
variable {P : Program} {Q : Exit → Act → World → Prop} {n : Nat} {A : Fr n} {D : List Deferred} {l : List (Nat × Value)} {w : World}

def Next1 {X0 : Type} (n : Nat) (D : List Deferred) (inv : X0 → List (Nat × Value)) (W : X0 → World → Prop) (mu : X0 → Nat) (m : Nat) (a : Act) (w : World) : Prop :=
  ∃ y0 : X0, ∃ B : Fr n, a = over B D (inv y0) ∧ W y0 w ∧ mu y0 < m
theorem loop1 {X0 : Type} {c : Code} (inv : X0 → List (Nat × Value)) (W : X0 → World → Prop) (mu : X0 → Nat) (x0 : X0) (h0 : Fits n l (inv x0)) (hw : W x0 w)
    (round : ∀ (x0 : X0) (B : Fr n) (w' : World), W x0 w' → c.wp P (Exit.then (Next1 n D inv W mu (mu x0)) Q) (over B D (inv x0)) w') :
    (Code.loop c).wp P Q (over A D l) w := by
  refine c_loop (X := X0) (fun p => inv p) (fun p w => W p w) (fun p => mu p) x0 h0 hw (fun p B w' h => wp_mono (round p B w' h) ?_)
  intro e a2 w2 h
  cases e with
  | normal => obtain ⟨y0, B', h1, h2, h3⟩ := h; exact ⟨y0, B', h1, h2, h3⟩
  | _ => exact h
theorem next1 {X0 : Type} {inv : X0 → List (Nat × Value)} {W : X0 → World → Prop} {mu : X0 → Nat} {m : Nat} (x0 : X0) (hm : mu x0 < m) (hf : Fits n l (inv x0)) (hw : W x0 w) :
    Next1 n D inv W mu m (over A D l) w := ⟨x0, _, (over_fits (A := A) (D := D) hf).symm, hw, hm⟩

def Next2 {X0 X1 : Type} (n : Nat) (D : List Deferred) (inv : X0 → X1 → List (Nat × Value)) (W : X0 → X1 → World → Prop) (mu : X0 → X1 → Nat) (m : Nat) (a : Act) (w : World) : Prop :=
  ∃ y0 : X0, ∃ y1 : X1, ∃ B : Fr n, a = over B D (inv y0 y1) ∧ W y0 y1 w ∧ mu y0 y1 < m
theorem loop2 {X0 X1 : Type} {c : Code} (inv : X0 → X1 → List (Nat × Value)) (W : X0 → X1 → World → Prop) (mu : X0 → X1 → Nat) (x0 : X0) (x1 : X1) (h0 : Fits n l (inv x0 x1)) (hw : W x0 x1 w)
    (round : ∀ (x0 : X0) (x1 : X1) (B : Fr n) (w' : World), W x0 x1 w' → c.wp P (Exit.then (Next2 n D inv W mu (mu x0 x1)) Q) (over B D (inv x0 x1)) w') :
    (Code.loop c).wp P Q (over A D l) w := by
  refine c_loop (X := X0 × X1) (fun p => inv p.1 p.2) (fun p w => W p.1 p.2 w) (fun p => mu p.1 p.2) (x0, x1) h0 hw (fun p B w' h => wp_mono (round (p.1) (p.2) B w' h) ?_)
  intro e a2 w2 h
  cases e with
  | normal => obtain ⟨y0, y1, B', h1, h2, h3⟩ := h; exact ⟨(y0, y1), B', h1, h2, h3⟩
  | _ => exact h
theorem next2 {X0 X1 : Type} {inv : X0 → X1 → List (Nat × Value)} {W : X0 → X1 → World → Prop} {mu : X0 → X1 → Nat} {m : Nat} (x0 : X0) (x1 : X1) (hm : mu x0 x1 < m) (hf : Fits n l (inv x0 x1)) (hw : W x0 x1 w) :
    Next2 n D inv W mu m (over A D l) w := ⟨x0, x1, _, (over_fits (A := A) (D := D) hf).symm, hw, hm⟩

def Next3 {X0 X1 X2 : Type} (n : Nat) (D : List Deferred) (inv : X0 → X1 → X2 → List (Nat × Value)) (W : X0 → X1 → X2 → World → Prop) (mu : X0 → X1 → X2 → Nat) (m : Nat) (a : Act) (w : World) : Prop :=
  ∃ y0 : X0, ∃ y1 : X1, ∃ y2 : X2, ∃ B : Fr n, a = over B D (inv y0 y1 y2) ∧ W y0 y1 y2 w ∧ mu y0 y1 y2 < m
theorem loop3 {X0 X1 X2 : Type} {c : Code} (inv : X0 → X1 → X2 → List (Nat × Value)) (W : X0 → X1 → X2 → World → Prop) (mu : X0 → X1 → X2 → Nat) (x0 : X0) (x1 : X1) (x2 : X2) (h0 : Fits n l (inv x0 x1 x2)) (hw : W x0 x1 x2 w)
    (round : ∀ (x0 : X0) (x1 : X1) (x2 : X2) (B : Fr n) (w' : World), W x0 x1 x2 w' → c.wp P (Exit.then (Next3 n D inv W mu (mu x0 x1 x2)) Q) (over B D (inv x0 x1 x2)) w') :
    (Code.loop c).wp P Q (over A D l) w := by
  refine c_loop (X := X0 × X1 × X2) (fun p => inv p.1 p.2.1 p.2.2) (fun p w => W p.1 p.2.1 p.2.2 w) (fun p => mu p.1 p.2.1 p.2.2) (x0, x1, x2) h0 hw (fun p B w' h => wp_mono (round (p.1) (p.2.1) (p.2.2) B w' h) ?_)
  intro e a2 w2 h
  cases e with
  | normal => obtain ⟨y0, y1, y2, B', h1, h2, h3⟩ := h; exact ⟨(y0, y1, y2), B', h1, h2, h3⟩
  | _ => exact h
theorem next3 {X0 X1 X2 : Type} {inv : X0 → X1 → X2 → List (Nat × Value)} {W : X0 → X1 → X2 → World → Prop} {mu : X0 → X1 → X2 → Nat} {m : Nat} (x0 : X0) (x1 : X1) (x2 : X2) (hm : mu x0 x1 x2 < m) (hf : Fits n l (inv x0 x1 x2)) (hw : W x0 x1 x2 w) :
    Next3 n D inv W mu m (over A D l) w := ⟨x0, x1, x2, _, (over_fits (A := A) (D := D) hf).symm, hw, hm⟩

def Next4 {X0 X1 X2 X3 : Type} (n : Nat) (D : List Deferred) (inv : X0 → X1 → X2 → X3 → List (Nat × Value)) (W : X0 → X1 → X2 → X3 → World → Prop) (mu : X0 → X1 → X2 → X3 → Nat) (m : Nat) (a : Act) (w : World) : Prop :=
  ∃ y0 : X0, ∃ y1 : X1, ∃ y2 : X2, ∃ y3 : X3, ∃ B : Fr n, a = over B D (inv y0 y1 y2 y3) ∧ W y0 y1 y2 y3 w ∧ mu y0 y1 y2 y3 < m
theorem loop4 {X0 X1 X2 X3 : Type} {c : Code} (inv : X0 → X1 → X2 → X3 → List (Nat × Value)) (W : X0 → X1 → X2 → X3 → World → Prop) (mu : X0 → X1 → X2 → X3 → Nat) (x0 : X0) (x1 : X1) (x2 : X2) (x3 : X3) (h0 : Fits n l (inv x0 x1 x2 x3)) (hw : W x0 x1 x2 x3 w)
    (round : ∀ (x0 : X0) (x1 : X1) (x2 : X2) (x3 : X3) (B : Fr n) (w' : World), W x0 x1 x2 x3 w' → c.wp P (Exit.then (Next4 n D inv W mu (mu x0 x1 x2 x3)) Q) (over B D (inv x0 x1 x2 x3)) w') :
    (Code.loop c).wp P Q (over A D l) w := by
  refine c_loop (X := X0 × X1 × X2 × X3) (fun p => inv p.1 p.2.1 p.2.2.1 p.2.2.2) (fun p w => W p.1 p.2.1 p.2.2.1 p.2.2.2 w) (fun p => mu p.1 p.2.1 p.2.2.1 p.2.2.2) (x0, x1, x2, x3) h0 hw (fun p B w' h => wp_mono (round (p.1) (p.2.1) (p.2.2.1) (p.2.2.2) B w' h) ?_)
  intro e a2 w2 h
  cases e with
  | normal => obtain ⟨y0, y1, y2, y3, B', h1, h2, h3⟩ := h; exact ⟨(y0, y1, y2, y3), B', h1, h2, h3⟩
  | _ => exact h
theorem next4 {X0 X1 X2 X3 : Type} {inv : X0 → X1 → X2 → X3 → List (Nat × Value)} {W : X0 → X1 → X2 → X3 → World → Prop} {mu : X0 → X1 → X2 → X3 → Nat} {m : Nat} (x0 : X0) (x1 : X1) (x2 : X2) (x3 : X3) (hm : mu x0 x1 x2 x3 < m) (hf : Fits n l (inv x0 x1 x2 x3)) (hw : W x0 x1 x2 x3 w) :
    Next4 n D inv W mu m (over A D l) w := ⟨x0, x1, x2, x3, _, (over_fits (A := A) (D := D) hf).symm, hw, hm⟩

def Next5 {X0 X1 X2 X3 X4 : Type} (n : Nat) (D : List Deferred) (inv : X0 → X1 → X2 → X3 → X4 → List (Nat × Value)) (W : X0 → X1 → X2 → X3 → X4 → World → Prop) (mu : X0 → X1 → X2 → X3 → X4 → Nat) (m : Nat) (a : Act) (w : World) : Prop :=
  ∃ y0 : X0, ∃ y1 : X1, ∃ y2 : X2, ∃ y3 : X3, ∃ y4 : X4, ∃ B : Fr n, a = over B D (inv y0 y1 y2 y3 y4) ∧ W y0 y1 y2 y3 y4 w ∧ mu y0 y1 y2 y3 y4 < m
theorem loop5 {X0 X1 X2 X3 X4 : Type} {c : Code} (inv : X0 → X1 → X2 → X3 → X4 → List (Nat × Value)) (W : X0 → X1 → X2 → X3 → X4 → World → Prop) (mu : X0 → X1 → X2 → X3 → X4 → Nat) (x0 : X0) (x1 : X1) (x2 : X2) (x3 : X3) (x4 : X4) (h0 : Fits n l (inv x0 x1 x2 x3 x4)) (hw : W x0 x1 x2 x3 x4 w)
    (round : ∀ (x0 : X0) (x1 : X1) (x2 : X2) (x3 : X3) (x4 : X4) (B : Fr n) (w' : World), W x0 x1 x2 x3 x4 w' → c.wp P (Exit.then (Next5 n D inv W mu (mu x0 x1 x2 x3 x4)) Q) (over B D (inv x0 x1 x2 x3 x4)) w') :
    (Code.loop c).wp P Q (over A D l) w := by
  refine c_loop (X := X0 × X1 × X2 × X3 × X4) (fun p => inv p.1 p.2.1 p.2.2.1 p.2.2.2.1 p.2.2.2.2) (fun p w => W p.1 p.2.1 p.2.2.1 p.2.2.2.1 p.2.2.2.2 w) (fun p => mu p.1 p.2.1 p.2.2.1 p.2.2.2.1 p.2.2.2.2) (x0, x1, x2, x3, x4) h0 hw (fun p B w' h => wp_mono (round (p.1) (p.2.1) (p.2.2.1) (p.2.2.2.1) (p.2.2.2.2) B w' h) ?_)
  intro e a2 w2 h
  cases e with
  | normal => obtain ⟨y0, y1, y2, y3, y4, B', h1, h2, h3⟩ := h; exact ⟨(y0, y1, y2, y3, y4), B', h1, h2, h3⟩
  | _ => exact h
theorem next5 {X0 X1 X2 X3 X4 : Type} {inv : X0 → X1 → X2 → X3 → X4 → List (Nat × Value)} {W : X0 → X1 → X2 → X3 → X4 → World → Prop} {mu : X0 → X1 → X2 → X3 → X4 → Nat} {m : Nat} (x0 : X0) (x1 : X1) (x2 : X2) (x3 : X3) (x4 : X4) (hm : mu x0 x1 x2 x3 x4 < m) (hf : Fits n l (inv x0 x1 x2 x3 x4)) (hw : W x0 x1 x2 x3 x4 w) :
    Next5 n D inv W mu m (over A D l) w := ⟨x0, x1, x2, x3, x4, _, (over_fits (A := A) (D := D) hf).symm, hw, hm⟩

def Next6 {X0 X1 X2 X3 X4 X5 : Type} (n : Nat) (D : List Deferred) (inv : X0 → X1 → X2 → X3 → X4 → X5 → List (Nat × Value)) (W : X0 → X1 → X2 → X3 → X4 → X5 → World → Prop) (mu : X0 → X1 → X2 → X3 → X4 → X5 → Nat) (m : Nat) (a : Act) (w : World) : Prop :=
  ∃ y0 : X0, ∃ y1 : X1, ∃ y2 : X2, ∃ y3 : X3, ∃ y4 : X4, ∃ y5 : X5, ∃ B : Fr n, a = over B D (inv y0 y1 y2 y3 y4 y5) ∧ W y0 y1 y2 y3 y4 y5 w ∧ mu y0 y1 y2 y3 y4 y5 < m
theorem loop6 {X0 X1 X2 X3 X4 X5 : Type} {c : Code} (inv : X0 → X1 → X2 → X3 → X4 → X5 → List (Nat × Value)) (W : X0 → X1 → X2 → X3 → X4 → X5 → World → Prop) (mu : X0 → X1 → X2 → X3 → X4 → X5 → Nat) (x0 : X0) (x1 : X1) (x2 : X2) (x3 : X3) (x4 : X4) (x5 : X5) (h0 : Fits n l (inv x0 x1 x2 x3 x4 x5)) (hw : W x0 x1 x2 x3 x4 x5 w)
    (round : ∀ (x0 : X0) (x1 : X1) (x2 : X2) (x3 : X3) (x4 : X4) (x5 : X5) (B : Fr n) (w' : World), W x0 x1 x2 x3 x4 x5 w' → c.wp P (Exit.then (Next6 n D inv W mu (mu x0 x1 x2 x3 x4 x5)) Q) (over B D (inv x0 x1 x2 x3 x4 x5)) w') :
    (Code.loop c).wp P Q (over A D l) w := by
  refine c_loop (X := X0 × X1 × X2 × X3 × X4 × X5) (fun p => inv p.1 p.2.1 p.2.2.1 p.2.2.2.1 p.2.2.2.2.1 p.2.2.2.2.2) (fun p w => W p.1 p.2.1 p.2.2.1 p.2.2.2.1 p.2.2.2.2.1 p.2.2.2.2.2 w) (fun p => mu p.1 p.2.1 p.2.2.1 p.2.2.2.1 p.2.2.2.2.1 p.2.2.2.2.2) (x0, x1, x2, x3, x4, x5) h0 hw (fun p B w' h => wp_mono (round (p.1) (p.2.1) (p.2.2.1) (p.2.2.2.1) (p.2.2.2.2.1) (p.2.2.2.2.2) B w' h) ?_)
  intro e a2 w2 h
  cases e with
  | normal => obtain ⟨y0, y1, y2, y3, y4, y5, B', h1, h2, h3⟩ := h; exact ⟨(y0, y1, y2, y3, y4, y5), B', h1, h2, h3⟩
  | _ => exact h
theorem next6 {X0 X1 X2 X3 X4 X5 : Type} {inv : X0 → X1 → X2 → X3 → X4 → X5 → List (Nat × Value)} {W : X0 → X1 → X2 → X3 → X4 → X5 → World → Prop} {mu : X0 → X1 → X2 → X3 → X4 → X5 → Nat} {m : Nat} (x0 : X0) (x1 : X1) (x2 : X2) (x3 : X3) (x4 : X4) (x5 : X5) (hm : mu x0 x1 x2 x3 x4 x5 < m) (hf : Fits n l (inv x0 x1 x2 x3 x4 x5)) (hw : W x0 x1 x2 x3 x4 x5 w) :
    Next6 n D inv W mu m (over A D l) w := ⟨x0, x1, x2, x3, x4, x5, _, (over_fits (A := A) (D := D) hf).symm, hw, hm⟩

def Next7 {X0 X1 X2 X3 X4 X5 X6 : Type} (n : Nat) (D : List Deferred) (inv : X0 → X1 → X2 → X3 → X4 → X5 → X6 → List (Nat × Value)) (W : X0 → X1 → X2 → X3 → X4 → X5 → X6 → World → Prop) (mu : X0 → X1 → X2 → X3 → X4 → X5 → X6 → Nat) (m : Nat) (a : Act) (w : World) : Prop :=
  ∃ y0 : X0, ∃ y1 : X1, ∃ y2 : X2, ∃ y3 : X3, ∃ y4 : X4, ∃ y5 : X5, ∃ y6 : X6, ∃ B : Fr n, a = over B D (inv y0 y1 y2 y3 y4 y5 y6) ∧ W y0 y1 y2 y3 y4 y5 y6 w ∧ mu y0 y1 y2 y3 y4 y5 y6 < m
theorem loop7 {X0 X1 X2 X3 X4 X5 X6 : Type} {c : Code} (inv : X0 → X1 → X2 → X3 → X4 → X5 → X6 → List (Nat × Value)) (W : X0 → X1 → X2 → X3 → X4 → X5 → X6 → World → Prop) (mu : X0 → X1 → X2 → X3 → X4 → X5 → X6 → Nat) (x0 : X0) (x1 : X1) (x2 : X2) (x3 : X3) (x4 : X4) (x5 : X5) (x6 : X6) (h0 : Fits n l (inv x0 x1 x2 x3 x4 x5 x6)) (hw : W x0 x1 x2 x3 x4 x5 x6 w)
    (round : ∀ (x0 : X0) (x1 : X1) (x2 : X2) (x3 : X3) (x4 : X4) (x5 : X5) (x6 : X6) (B : Fr n) (w' : World), W x0 x1 x2 x3 x4 x5 x6 w' → c.wp P (Exit.then (Next7 n D inv W mu (mu x0 x1 x2 x3 x4 x5 x6)) Q) (over B D (inv x0 x1 x2 x3 x4 x5 x6)) w') :
    (Code.loop c).wp P Q (over A D l) w := by
  refine c_loop (X := X0 × X1 × X2 × X3 × X4 × X5 × X6) (fun p => inv p.1 p.2.1 p.2.2.1 p.2.2.2.1 p.2.2.2.2.1 p.2.2.2.2.2.1 p.2.2.2.2.2.2) (fun p w => W p.1 p.2.1 p.2.2.1 p.2.2.2.1 p.2.2.2.2.1 p.2.2.2.2.2.1 p.2.2.2.2.2.2 w) (fun p => mu p.1 p.2.1 p.2.2.1 p.2.2.2.1 p.2.2.2.2.1 p.2.2.2.2.2.1 p.2.2.2.2.2.2) (x0, x1, x2, x3, x4, x5, x6) h0 hw (fun p B w' h => wp_mono (round (p.1) (p.2.1) (p.2.2.1) (p.2.2.2.1) (p.2.2.2.2.1) (p.2.2.2.2.2.1) (p.2.2.2.2.2.2) B w' h) ?_)
  intro e a2 w2 h
  cases e with
  | normal => obtain ⟨y0, y1, y2, y3, y4, y5, y6, B', h1, h2, h3⟩ := h; exact ⟨(y0, y1, y2, y3, y4, y5, y6), B', h1, h2, h3⟩
  | _ => exact h
theorem next7 {X0 X1 X2 X3 X4 X5 X6 : Type} {inv : X0 → X1 → X2 → X3 → X4 → X5 → X6 → List (Nat × Value)} {W : X0 → X1 → X2 → X3 → X4 → X5 → X6 → World → Prop} {mu : X0 → X1 → X2 → X3 → X4 → X5 → X6 → Nat} {m : Nat} (x0 : X0) (x1 : X1) (x2 : X2) (x3 : X3) (x4 : X4) (x5 : X5) (x6 : X6) (hm : mu x0 x1 x2 x3 x4 x5 x6 < m) (hf : Fits n l (inv x0 x1 x2 x3 x4 x5 x6)) (hw : W x0 x1 x2 x3 x4 x5 x6 w) :
    Next7 n D inv W mu m (over A D l) w := ⟨x0, x1, x2, x3, x4, x5, x6, _, (over_fits (A := A) (D := D) hf).symm, hw, hm⟩

def Next8 {X0 X1 X2 X3 X4 X5 X6 X7 : Type} (n : Nat) (D : List Deferred) (inv : X0 → X1 → X2 → X3 → X4 → X5 → X6 → X7 → List (Nat × Value)) (W : X0 → X1 → X2 → X3 → X4 → X5 → X6 → X7 → World → Prop) (mu : X0 → X1 → X2 → X3 → X4 → X5 → X6 → X7 → Nat) (m : Nat) (a : Act) (w : World) : Prop :=
  ∃ y0 : X0, ∃ y1 : X1, ∃ y2 : X2, ∃ y3 : X3, ∃ y4 : X4, ∃ y5 : X5, ∃ y6 : X6, ∃ y7 : X7, ∃ B : Fr n, a = over B D (inv y0 y1 y2 y3 y4 y5 y6 y7) ∧ W y0 y1 y2 y3 y4 y5 y6 y7 w ∧ mu y0 y1 y2 y3 y4 y5 y6 y7 < m
theorem loop8 {X0 X1 X2 X3 X4 X5 X6 X7 : Type} {c : Code} (inv : X0 → X1 → X2 → X3 → X4 → X5 → X6 → X7 → List (Nat × Value)) (W : X0 → X1 → X2 → X3 → X4 → X5 → X6 → X7 → World → Prop) (mu : X0 → X1 → X2 → X3 → X4 → X5 → X6 → X7 → Nat) (x0 : X0) (x1 : X1) (x2 : X2) (x3 : X3) (x4 : X4) (x5 : X5) (x6 : X6) (x7 : X7) (h0 : Fits n l (inv x0 x1 x2 x3 x4 x5 x6 x7)) (hw : W x0 x1 x2 x3 x4 x5 x6 x7 w)
    (round : ∀ (x0 : X0) (x1 : X1) (x2 : X2) (x3 : X3) (x4 : X4) (x5 : X5) (x6 : X6) (x7 : X7) (B : Fr n) (w' : World), W x0 x1 x2 x3 x4 x5 x6 x7 w' → c.wp P (Exit.then (Next8 n D inv W mu (mu x0 x1 x2 x3 x4 x5 x6 x7)) Q) (over B D (inv x0 x1 x2 x3 x4 x5 x6 x7)) w') :
    (Code.loop c).wp P Q (over A D l) w := by
  refine c_loop (X := X0 × X1 × X2 × X3 × X4 × X5 × X6 × X7) (fun p => inv p.1 p.2.1 p.2.2.1 p.2.2.2.1 p.2.2.2.2.1 p.2.2.2.2.2.1 p.2.2.2.2.2.2.1 p.2.2.2.2.2.2.2) (fun p w => W p.1 p.2.1 p.2.2.1 p.2.2.2.1 p.2.2.2.2.1 p.2.2.2.2.2.1 p.2.2.2.2.2.2.1 p.2.2.2.2.2.2.2 w) (fun p => mu p.1 p.2.1 p.2.2.1 p.2.2.2.1 p.2.2.2.2.1 p.2.2.2.2.2.1 p.2.2.2.2.2.2.1 p.2.2.2.2.2.2.2) (x0, x1, x2, x3, x4, x5, x6, x7) h0 hw (fun p B w' h => wp_mono (round (p.1) (p.2.1) (p.2.2.1) (p.2.2.2.1) (p.2.2.2.2.1) (p.2.2.2.2.2.1) (p.2.2.2.2.2.2.1) (p.2.2.2.2.2.2.2) B w' h) ?_)
  intro e a2 w2 h
  cases e with
  | normal => obtain ⟨y0, y1, y2, y3, y4, y5, y6, y7, B', h1, h2, h3⟩ := h; exact ⟨(y0, y1, y2, y3, y4, y5, y6, y7), B', h1, h2, h3⟩
  | _ => exact h
theorem next8 {X0 X1 X2 X3 X4 X5 X6 X7 : Type} {inv : X0 → X1 → X2 → X3 → X4 → X5 → X6 → X7 → List (Nat × Value)} {W : X0 → X1 → X2 → X3 → X4 → X5 → X6 → X7 → World → Prop} {mu : X0 → X1 → X2 → X3 → X4 → X5 → X6 → X7 → Nat} {m : Nat} (x0 : X0) (x1 : X1) (x2 : X2) (x3 : X3) (x4 : X4) (x5 : X5) (x6 : X6) (x7 : X7) (hm : mu x0 x1 x2 x3 x4 x5 x6 x7 < m) (hf : Fits n l (inv x0 x1 x2 x3 x4 x5 x6 x7)) (hw : W x0 x1 x2 x3 x4 x5 x6 x7 w) :
    Next8 n D inv W mu m (over A D l) w := ⟨x0, x1, x2, x3, x4, x5, x6, x7, _, (over_fits (A := A) (D := D) hf).symm, hw, hm⟩

/-! returns -/
def ResIs (P : Program) (w : World) (n : Nat) (l : List (Nat × Value)) : List ResultVar → List Value → Prop
  | [], [] => True
  | .tmp t :: r, v :: vs => ev n l (.tmp t) = some v ∧ ResIs P w n l r vs
  | .cell t ty :: r, v :: vs => (∃ p, ev n l (.tmp t) = some (.pointer (some p)) ∧ (loadVar ty p).run P w = .ok v w) ∧ ResIs P w n l r vs
  | _, _ => False
theorem results_run {fn : Func} {rs : List ResultVar} {vs : List Value} (hr : fn.results = rs.toArray) (h : ResIs P w n l rs vs) :
    (results fn (over A D l).tmps).run P w = .ok (if h : vs.length = 1 then vs[0] else .tuple vs.toArray) w := by
  have key : ∀ (rs : List ResultVar) (vs : List Value), ResIs P w n l rs vs → (rs.mapM (fun x : ResultVar => (match x with
      | .tmp t => pure ((over A D l).tmps.getD t undef)
      | .cell a t => do loadVar t (← asAddr ((over A D l).tmps.getD a undef)) : Sem Value))).run P w = .ok vs w := by
    intro rs
    induction rs with
    | nil => intro vs h; cases vs with
      | nil => simp
      | cons v vs => simp [ResIs] at h
    | cons r rs ih =>
      intro vs h
      cases vs with
      | nil => cases r <;> simp [ResIs] at h
      | cons v vs =>
        cases r with
        | tmp t =>
          obtain ⟨h1, h2⟩ := h
          have h3 := getD_of (A := A) (D := D) h1
          simp only [List.mapM_cons, Sem.run_bind, Sem.run_pure, Result.andThen_ok, ih vs h2, h3]
        | cell t ty =>
          obtain ⟨⟨p, h1, h4⟩, h2⟩ := h
          have h3 := getD_of (A := A) (D := D) h1
          have h5 : (asAddr (.pointer (some p))).run P w = .ok p w := by simp [asAddr]
          simp only [List.mapM_cons, Sem.run_bind, Sem.run_pure, Result.andThen_ok, ih vs h2, h3, h5, h4]
  have := key rs vs h
  unfold results
  rw [hr]
  simp only [List.mapM_toArray, Sem.run_bind, Sem.run_map]
  rw [show (fun x : ResultVar => (match x with
      | .tmp t => pure ((over A D l).tmps.getD t undef)
      | .cell a t => do loadVar t (← asAddr ((over A D l).tmps.getD a undef)) : Sem Value)) = _ from rfl] at this
  refine Eq.trans (congrArg (fun r : Result (List Value) => (r.andThen fun a w' => Result.ok a.toArray w').andThen fun a w' => Sem.run P (pure (if h : a.size = 1 then a[0] else Value.tuple a)) w') this) ?_
  simp
theorem retL {fn : Func} {R : Ending → World → Prop} {e : Exit} {rs : List ResultVar} {vs : List Value} (he : isEnd e) (hr : fn.results = rs.toArray) (h : ResIs P w n l rs vs) (hl : Nat.beq vs.length 1 = false) (hR : R (.returned (.tuple vs.toArray)) w) : bodyPost P fn R e (over A [] l) w :=
  bp he over_defers (results_run (A := A) (D := []) hr h) (by rw [dif_neg (by intro hh; rw [hh] at hl; cases hl)]; exact hR)
theorem ret1L {fn : Func} {R : Ending → World → Prop} {e : Exit} {rs : List ResultVar} {v : Value} (he : isEnd e) (hr : fn.results = rs.toArray) (h : ResIs P w n l rs [v]) (hR : R (.returned v) w) : bodyPost P fn R e (over A [] l) w :=
  bp he over_defers (results_run (A := A) (D := []) hr h) hR
theorem load_agg {t ty' : TypeId} {b : Nat} {cs : List Value} (hT : isAggN P t cs.length = true) (hB : Blk w b cs ty') : (loadVar t ⟨b, 0, none⟩).run P w = .ok (.agg cs.toArray) w := run_loadVar_blk hT hB
theorem load_one {t ty' : TypeId} {b : Nat} {u : Value} {cs : List Value} (hT : isOne P t = true) (hB : Blk w b cs ty') (hc : cs[0]? = some u) : (loadVar t ⟨b, 0, none⟩).run P w = .ok u w := by
  have : w.cell? ⟨b, 0, none⟩ = some u := by rw [hB.cell]; exact hc
  simp [loadVar, run_isAgg_one hT, this]
end
end Go.Wk
