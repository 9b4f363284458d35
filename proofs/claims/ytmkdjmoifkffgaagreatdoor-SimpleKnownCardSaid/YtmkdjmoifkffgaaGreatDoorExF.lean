/- The executor: a big-step reading of the program as the model runs it, made for evaluation by the kernel, and its soundness (part ExF). -/
import Derived.Test.YtmkdjmoifkffgaaGreatDoorExA
set_option linter.unusedVariables false
set_option linter.unusedSimpArgs false
set_option linter.unusedSectionVars false
namespace Go.Ex
open Go

/-! The executor once more, made lean for the kernel: code is decoded once, into functions that the kernel's caches keep; values are forced where they are made. -/
abbrev RR := R Res
abbrev KA := AV → RR
abbrev KN := Tm → Tr AObj → Nat → List ADef → Bool → RR
abbrev Rec := Task → RR

/-! ### paths -/
inductive Pth where
  | here
  | l (p : Pth)
  | r (p : Pth)
noncomputable def pthOf (f : Nat) : Nat → Pth := Nat.rec (motive := fun _ => Nat → Pth) (fun _ => .here)
  (fun _ ih n => Bool.rec (motive := fun _ => Pth) (Bool.rec (motive := fun _ => Pth) (.r (ih (Nat.sub (Nat.div n 2) 1))) (.l (ih (Nat.div n 2))) (Nat.beq (Nat.mod n 2) 1)) .here (Nat.beq n 0)) f
noncomputable def pth (n : Nat) : Pth := pthOf (Nat.succ n) n

/-! ### a frame's temporaries -/
noncomputable def W1.g0 : W1 → KA → RR := W1.rec (motive := fun _ => KA → RR) (fun a0 _ _ _ _ _ _ _ _ _ _ _ _ _ _ _ _ _ k => k a0)
noncomputable def W1.g1 : W1 → KA → RR := W1.rec (motive := fun _ => KA → RR) (fun _ a1 _ _ _ _ _ _ _ _ _ _ _ _ _ _ _ _ k => k a1)
noncomputable def W1.g2 : W1 → KA → RR := W1.rec (motive := fun _ => KA → RR) (fun _ _ a2 _ _ _ _ _ _ _ _ _ _ _ _ _ _ _ k => k a2)
noncomputable def W1.g3 : W1 → KA → RR := W1.rec (motive := fun _ => KA → RR) (fun _ _ _ a3 _ _ _ _ _ _ _ _ _ _ _ _ _ _ k => k a3)
noncomputable def W1.g4 : W1 → KA → RR := W1.rec (motive := fun _ => KA → RR) (fun _ _ _ _ a4 _ _ _ _ _ _ _ _ _ _ _ _ _ k => k a4)
noncomputable def W1.g5 : W1 → KA → RR := W1.rec (motive := fun _ => KA → RR) (fun _ _ _ _ _ a5 _ _ _ _ _ _ _ _ _ _ _ _ k => k a5)
noncomputable def W1.g6 : W1 → KA → RR := W1.rec (motive := fun _ => KA → RR) (fun _ _ _ _ _ _ a6 _ _ _ _ _ _ _ _ _ _ _ k => k a6)
noncomputable def W1.g7 : W1 → KA → RR := W1.rec (motive := fun _ => KA → RR) (fun _ _ _ _ _ _ _ a7 _ _ _ _ _ _ _ _ _ _ k => k a7)
noncomputable def W1.g8 : W1 → KA → RR := W1.rec (motive := fun _ => KA → RR) (fun _ _ _ _ _ _ _ _ a8 _ _ _ _ _ _ _ _ _ k => k a8)
noncomputable def W1.g9 : W1 → KA → RR := W1.rec (motive := fun _ => KA → RR) (fun _ _ _ _ _ _ _ _ _ a9 _ _ _ _ _ _ _ _ k => k a9)
noncomputable def W1.g10 : W1 → KA → RR := W1.rec (motive := fun _ => KA → RR) (fun _ _ _ _ _ _ _ _ _ _ a10 _ _ _ _ _ _ _ k => k a10)
noncomputable def W1.g11 : W1 → KA → RR := W1.rec (motive := fun _ => KA → RR) (fun _ _ _ _ _ _ _ _ _ _ _ a11 _ _ _ _ _ _ k => k a11)
noncomputable def W1.g12 : W1 → KA → RR := W1.rec (motive := fun _ => KA → RR) (fun _ _ _ _ _ _ _ _ _ _ _ _ a12 _ _ _ _ _ k => k a12)
noncomputable def W1.g13 : W1 → KA → RR := W1.rec (motive := fun _ => KA → RR) (fun _ _ _ _ _ _ _ _ _ _ _ _ _ a13 _ _ _ _ k => k a13)
noncomputable def W1.g14 : W1 → KA → RR := W1.rec (motive := fun _ => KA → RR) (fun _ _ _ _ _ _ _ _ _ _ _ _ _ _ a14 _ _ _ k => k a14)
noncomputable def W1.g15 : W1 → KA → RR := W1.rec (motive := fun _ => KA → RR) (fun _ _ _ _ _ _ _ _ _ _ _ _ _ _ _ a15 _ _ k => k a15)
noncomputable def W1.g16 : W1 → KA → RR := W1.rec (motive := fun _ => KA → RR) (fun _ _ _ _ _ _ _ _ _ _ _ _ _ _ _ _ a16 _ k => k a16)
noncomputable def W1.g17 : W1 → KA → RR := W1.rec (motive := fun _ => KA → RR) (fun _ _ _ _ _ _ _ _ _ _ _ _ _ _ _ _ _ a17 k => k a17)
noncomputable def W1.s0 : W1 → AV → (W1 → RR) → RR := W1.rec (motive := fun _ => AV → (W1 → RR) → RR) (fun _ a1 a2 a3 a4 a5 a6 a7 a8 a9 a10 a11 a12 a13 a14 a15 a16 a17 v k => k (.mk v a1 a2 a3 a4 a5 a6 a7 a8 a9 a10 a11 a12 a13 a14 a15 a16 a17))
noncomputable def W1.s1 : W1 → AV → (W1 → RR) → RR := W1.rec (motive := fun _ => AV → (W1 → RR) → RR) (fun a0 _ a2 a3 a4 a5 a6 a7 a8 a9 a10 a11 a12 a13 a14 a15 a16 a17 v k => k (.mk a0 v a2 a3 a4 a5 a6 a7 a8 a9 a10 a11 a12 a13 a14 a15 a16 a17))
noncomputable def W1.s2 : W1 → AV → (W1 → RR) → RR := W1.rec (motive := fun _ => AV → (W1 → RR) → RR) (fun a0 a1 _ a3 a4 a5 a6 a7 a8 a9 a10 a11 a12 a13 a14 a15 a16 a17 v k => k (.mk a0 a1 v a3 a4 a5 a6 a7 a8 a9 a10 a11 a12 a13 a14 a15 a16 a17))
noncomputable def W1.s3 : W1 → AV → (W1 → RR) → RR := W1.rec (motive := fun _ => AV → (W1 → RR) → RR) (fun a0 a1 a2 _ a4 a5 a6 a7 a8 a9 a10 a11 a12 a13 a14 a15 a16 a17 v k => k (.mk a0 a1 a2 v a4 a5 a6 a7 a8 a9 a10 a11 a12 a13 a14 a15 a16 a17))
noncomputable def W1.s4 : W1 → AV → (W1 → RR) → RR := W1.rec (motive := fun _ => AV → (W1 → RR) → RR) (fun a0 a1 a2 a3 _ a5 a6 a7 a8 a9 a10 a11 a12 a13 a14 a15 a16 a17 v k => k (.mk a0 a1 a2 a3 v a5 a6 a7 a8 a9 a10 a11 a12 a13 a14 a15 a16 a17))
noncomputable def W1.s5 : W1 → AV → (W1 → RR) → RR := W1.rec (motive := fun _ => AV → (W1 → RR) → RR) (fun a0 a1 a2 a3 a4 _ a6 a7 a8 a9 a10 a11 a12 a13 a14 a15 a16 a17 v k => k (.mk a0 a1 a2 a3 a4 v a6 a7 a8 a9 a10 a11 a12 a13 a14 a15 a16 a17))
noncomputable def W1.s6 : W1 → AV → (W1 → RR) → RR := W1.rec (motive := fun _ => AV → (W1 → RR) → RR) (fun a0 a1 a2 a3 a4 a5 _ a7 a8 a9 a10 a11 a12 a13 a14 a15 a16 a17 v k => k (.mk a0 a1 a2 a3 a4 a5 v a7 a8 a9 a10 a11 a12 a13 a14 a15 a16 a17))
noncomputable def W1.s7 : W1 → AV → (W1 → RR) → RR := W1.rec (motive := fun _ => AV → (W1 → RR) → RR) (fun a0 a1 a2 a3 a4 a5 a6 _ a8 a9 a10 a11 a12 a13 a14 a15 a16 a17 v k => k (.mk a0 a1 a2 a3 a4 a5 a6 v a8 a9 a10 a11 a12 a13 a14 a15 a16 a17))
noncomputable def W1.s8 : W1 → AV → (W1 → RR) → RR := W1.rec (motive := fun _ => AV → (W1 → RR) → RR) (fun a0 a1 a2 a3 a4 a5 a6 a7 _ a9 a10 a11 a12 a13 a14 a15 a16 a17 v k => k (.mk a0 a1 a2 a3 a4 a5 a6 a7 v a9 a10 a11 a12 a13 a14 a15 a16 a17))
noncomputable def W1.s9 : W1 → AV → (W1 → RR) → RR := W1.rec (motive := fun _ => AV → (W1 → RR) → RR) (fun a0 a1 a2 a3 a4 a5 a6 a7 a8 _ a10 a11 a12 a13 a14 a15 a16 a17 v k => k (.mk a0 a1 a2 a3 a4 a5 a6 a7 a8 v a10 a11 a12 a13 a14 a15 a16 a17))
noncomputable def W1.s10 : W1 → AV → (W1 → RR) → RR := W1.rec (motive := fun _ => AV → (W1 → RR) → RR) (fun a0 a1 a2 a3 a4 a5 a6 a7 a8 a9 _ a11 a12 a13 a14 a15 a16 a17 v k => k (.mk a0 a1 a2 a3 a4 a5 a6 a7 a8 a9 v a11 a12 a13 a14 a15 a16 a17))
noncomputable def W1.s11 : W1 → AV → (W1 → RR) → RR := W1.rec (motive := fun _ => AV → (W1 → RR) → RR) (fun a0 a1 a2 a3 a4 a5 a6 a7 a8 a9 a10 _ a12 a13 a14 a15 a16 a17 v k => k (.mk a0 a1 a2 a3 a4 a5 a6 a7 a8 a9 a10 v a12 a13 a14 a15 a16 a17))
noncomputable def W1.s12 : W1 → AV → (W1 → RR) → RR := W1.rec (motive := fun _ => AV → (W1 → RR) → RR) (fun a0 a1 a2 a3 a4 a5 a6 a7 a8 a9 a10 a11 _ a13 a14 a15 a16 a17 v k => k (.mk a0 a1 a2 a3 a4 a5 a6 a7 a8 a9 a10 a11 v a13 a14 a15 a16 a17))
noncomputable def W1.s13 : W1 → AV → (W1 → RR) → RR := W1.rec (motive := fun _ => AV → (W1 → RR) → RR) (fun a0 a1 a2 a3 a4 a5 a6 a7 a8 a9 a10 a11 a12 _ a14 a15 a16 a17 v k => k (.mk a0 a1 a2 a3 a4 a5 a6 a7 a8 a9 a10 a11 a12 v a14 a15 a16 a17))
noncomputable def W1.s14 : W1 → AV → (W1 → RR) → RR := W1.rec (motive := fun _ => AV → (W1 → RR) → RR) (fun a0 a1 a2 a3 a4 a5 a6 a7 a8 a9 a10 a11 a12 a13 _ a15 a16 a17 v k => k (.mk a0 a1 a2 a3 a4 a5 a6 a7 a8 a9 a10 a11 a12 a13 v a15 a16 a17))
noncomputable def W1.s15 : W1 → AV → (W1 → RR) → RR := W1.rec (motive := fun _ => AV → (W1 → RR) → RR) (fun a0 a1 a2 a3 a4 a5 a6 a7 a8 a9 a10 a11 a12 a13 a14 _ a16 a17 v k => k (.mk a0 a1 a2 a3 a4 a5 a6 a7 a8 a9 a10 a11 a12 a13 a14 v a16 a17))
noncomputable def W1.s16 : W1 → AV → (W1 → RR) → RR := W1.rec (motive := fun _ => AV → (W1 → RR) → RR) (fun a0 a1 a2 a3 a4 a5 a6 a7 a8 a9 a10 a11 a12 a13 a14 a15 _ a17 v k => k (.mk a0 a1 a2 a3 a4 a5 a6 a7 a8 a9 a10 a11 a12 a13 a14 a15 v a17))
noncomputable def W1.s17 : W1 → AV → (W1 → RR) → RR := W1.rec (motive := fun _ => AV → (W1 → RR) → RR) (fun a0 a1 a2 a3 a4 a5 a6 a7 a8 a9 a10 a11 a12 a13 a14 a15 a16 _ v k => k (.mk a0 a1 a2 a3 a4 a5 a6 a7 a8 a9 a10 a11 a12 a13 a14 a15 a16 v))
noncomputable def Tm.g0 : Tm → (W1 → RR) → RR := Tm.rec (motive := fun _ => (W1 → RR) → RR) (fun b0 _ _ _ _ _ _ _ _ _ _ _ _ _ _ _ _ _ _ k => k b0)
noncomputable def Tm.g1 : Tm → (W1 → RR) → RR := Tm.rec (motive := fun _ => (W1 → RR) → RR) (fun _ b1 _ _ _ _ _ _ _ _ _ _ _ _ _ _ _ _ _ k => k b1)
noncomputable def Tm.g2 : Tm → (W1 → RR) → RR := Tm.rec (motive := fun _ => (W1 → RR) → RR) (fun _ _ b2 _ _ _ _ _ _ _ _ _ _ _ _ _ _ _ _ k => k b2)
noncomputable def Tm.g3 : Tm → (W1 → RR) → RR := Tm.rec (motive := fun _ => (W1 → RR) → RR) (fun _ _ _ b3 _ _ _ _ _ _ _ _ _ _ _ _ _ _ _ k => k b3)
noncomputable def Tm.g4 : Tm → (W1 → RR) → RR := Tm.rec (motive := fun _ => (W1 → RR) → RR) (fun _ _ _ _ b4 _ _ _ _ _ _ _ _ _ _ _ _ _ _ k => k b4)
noncomputable def Tm.g5 : Tm → (W1 → RR) → RR := Tm.rec (motive := fun _ => (W1 → RR) → RR) (fun _ _ _ _ _ b5 _ _ _ _ _ _ _ _ _ _ _ _ _ k => k b5)
noncomputable def Tm.g6 : Tm → (W1 → RR) → RR := Tm.rec (motive := fun _ => (W1 → RR) → RR) (fun _ _ _ _ _ _ b6 _ _ _ _ _ _ _ _ _ _ _ _ k => k b6)
noncomputable def Tm.g7 : Tm → (W1 → RR) → RR := Tm.rec (motive := fun _ => (W1 → RR) → RR) (fun _ _ _ _ _ _ _ b7 _ _ _ _ _ _ _ _ _ _ _ k => k b7)
noncomputable def Tm.g8 : Tm → (W1 → RR) → RR := Tm.rec (motive := fun _ => (W1 → RR) → RR) (fun _ _ _ _ _ _ _ _ b8 _ _ _ _ _ _ _ _ _ _ k => k b8)
noncomputable def Tm.g9 : Tm → (W1 → RR) → RR := Tm.rec (motive := fun _ => (W1 → RR) → RR) (fun _ _ _ _ _ _ _ _ _ b9 _ _ _ _ _ _ _ _ _ k => k b9)
noncomputable def Tm.g10 : Tm → (W1 → RR) → RR := Tm.rec (motive := fun _ => (W1 → RR) → RR) (fun _ _ _ _ _ _ _ _ _ _ b10 _ _ _ _ _ _ _ _ k => k b10)
noncomputable def Tm.g11 : Tm → (W1 → RR) → RR := Tm.rec (motive := fun _ => (W1 → RR) → RR) (fun _ _ _ _ _ _ _ _ _ _ _ b11 _ _ _ _ _ _ _ k => k b11)
noncomputable def Tm.g12 : Tm → (W1 → RR) → RR := Tm.rec (motive := fun _ => (W1 → RR) → RR) (fun _ _ _ _ _ _ _ _ _ _ _ _ b12 _ _ _ _ _ _ k => k b12)
noncomputable def Tm.g13 : Tm → (W1 → RR) → RR := Tm.rec (motive := fun _ => (W1 → RR) → RR) (fun _ _ _ _ _ _ _ _ _ _ _ _ _ b13 _ _ _ _ _ k => k b13)
noncomputable def Tm.g14 : Tm → (W1 → RR) → RR := Tm.rec (motive := fun _ => (W1 → RR) → RR) (fun _ _ _ _ _ _ _ _ _ _ _ _ _ _ b14 _ _ _ _ k => k b14)
noncomputable def Tm.g15 : Tm → (W1 → RR) → RR := Tm.rec (motive := fun _ => (W1 → RR) → RR) (fun _ _ _ _ _ _ _ _ _ _ _ _ _ _ _ b15 _ _ _ k => k b15)
noncomputable def Tm.g16 : Tm → (W1 → RR) → RR := Tm.rec (motive := fun _ => (W1 → RR) → RR) (fun _ _ _ _ _ _ _ _ _ _ _ _ _ _ _ _ b16 _ _ k => k b16)
noncomputable def Tm.g17 : Tm → (W1 → RR) → RR := Tm.rec (motive := fun _ => (W1 → RR) → RR) (fun _ _ _ _ _ _ _ _ _ _ _ _ _ _ _ _ _ b17 _ k => k b17)
noncomputable def Tm.s0 : Tm → (W1 → (W1 → RR) → RR) → (Tm → RR) → RR := Tm.rec (motive := fun _ => (W1 → (W1 → RR) → RR) → (Tm → RR) → RR) (fun b0 b1 b2 b3 b4 b5 b6 b7 b8 b9 b10 b11 b12 b13 b14 b15 b16 b17 rest f k => f b0 fun w => k (.mk w b1 b2 b3 b4 b5 b6 b7 b8 b9 b10 b11 b12 b13 b14 b15 b16 b17 rest))
noncomputable def Tm.s1 : Tm → (W1 → (W1 → RR) → RR) → (Tm → RR) → RR := Tm.rec (motive := fun _ => (W1 → (W1 → RR) → RR) → (Tm → RR) → RR) (fun b0 b1 b2 b3 b4 b5 b6 b7 b8 b9 b10 b11 b12 b13 b14 b15 b16 b17 rest f k => f b1 fun w => k (.mk b0 w b2 b3 b4 b5 b6 b7 b8 b9 b10 b11 b12 b13 b14 b15 b16 b17 rest))
noncomputable def Tm.s2 : Tm → (W1 → (W1 → RR) → RR) → (Tm → RR) → RR := Tm.rec (motive := fun _ => (W1 → (W1 → RR) → RR) → (Tm → RR) → RR) (fun b0 b1 b2 b3 b4 b5 b6 b7 b8 b9 b10 b11 b12 b13 b14 b15 b16 b17 rest f k => f b2 fun w => k (.mk b0 b1 w b3 b4 b5 b6 b7 b8 b9 b10 b11 b12 b13 b14 b15 b16 b17 rest))
noncomputable def Tm.s3 : Tm → (W1 → (W1 → RR) → RR) → (Tm → RR) → RR := Tm.rec (motive := fun _ => (W1 → (W1 → RR) → RR) → (Tm → RR) → RR) (fun b0 b1 b2 b3 b4 b5 b6 b7 b8 b9 b10 b11 b12 b13 b14 b15 b16 b17 rest f k => f b3 fun w => k (.mk b0 b1 b2 w b4 b5 b6 b7 b8 b9 b10 b11 b12 b13 b14 b15 b16 b17 rest))
noncomputable def Tm.s4 : Tm → (W1 → (W1 → RR) → RR) → (Tm → RR) → RR := Tm.rec (motive := fun _ => (W1 → (W1 → RR) → RR) → (Tm → RR) → RR) (fun b0 b1 b2 b3 b4 b5 b6 b7 b8 b9 b10 b11 b12 b13 b14 b15 b16 b17 rest f k => f b4 fun w => k (.mk b0 b1 b2 b3 w b5 b6 b7 b8 b9 b10 b11 b12 b13 b14 b15 b16 b17 rest))
noncomputable def Tm.s5 : Tm → (W1 → (W1 → RR) → RR) → (Tm → RR) → RR := Tm.rec (motive := fun _ => (W1 → (W1 → RR) → RR) → (Tm → RR) → RR) (fun b0 b1 b2 b3 b4 b5 b6 b7 b8 b9 b10 b11 b12 b13 b14 b15 b16 b17 rest f k => f b5 fun w => k (.mk b0 b1 b2 b3 b4 w b6 b7 b8 b9 b10 b11 b12 b13 b14 b15 b16 b17 rest))
noncomputable def Tm.s6 : Tm → (W1 → (W1 → RR) → RR) → (Tm → RR) → RR := Tm.rec (motive := fun _ => (W1 → (W1 → RR) → RR) → (Tm → RR) → RR) (fun b0 b1 b2 b3 b4 b5 b6 b7 b8 b9 b10 b11 b12 b13 b14 b15 b16 b17 rest f k => f b6 fun w => k (.mk b0 b1 b2 b3 b4 b5 w b7 b8 b9 b10 b11 b12 b13 b14 b15 b16 b17 rest))
noncomputable def Tm.s7 : Tm → (W1 → (W1 → RR) → RR) → (Tm → RR) → RR := Tm.rec (motive := fun _ => (W1 → (W1 → RR) → RR) → (Tm → RR) → RR) (fun b0 b1 b2 b3 b4 b5 b6 b7 b8 b9 b10 b11 b12 b13 b14 b15 b16 b17 rest f k => f b7 fun w => k (.mk b0 b1 b2 b3 b4 b5 b6 w b8 b9 b10 b11 b12 b13 b14 b15 b16 b17 rest))
noncomputable def Tm.s8 : Tm → (W1 → (W1 → RR) → RR) → (Tm → RR) → RR := Tm.rec (motive := fun _ => (W1 → (W1 → RR) → RR) → (Tm → RR) → RR) (fun b0 b1 b2 b3 b4 b5 b6 b7 b8 b9 b10 b11 b12 b13 b14 b15 b16 b17 rest f k => f b8 fun w => k (.mk b0 b1 b2 b3 b4 b5 b6 b7 w b9 b10 b11 b12 b13 b14 b15 b16 b17 rest))
noncomputable def Tm.s9 : Tm → (W1 → (W1 → RR) → RR) → (Tm → RR) → RR := Tm.rec (motive := fun _ => (W1 → (W1 → RR) → RR) → (Tm → RR) → RR) (fun b0 b1 b2 b3 b4 b5 b6 b7 b8 b9 b10 b11 b12 b13 b14 b15 b16 b17 rest f k => f b9 fun w => k (.mk b0 b1 b2 b3 b4 b5 b6 b7 b8 w b10 b11 b12 b13 b14 b15 b16 b17 rest))
noncomputable def Tm.s10 : Tm → (W1 → (W1 → RR) → RR) → (Tm → RR) → RR := Tm.rec (motive := fun _ => (W1 → (W1 → RR) → RR) → (Tm → RR) → RR) (fun b0 b1 b2 b3 b4 b5 b6 b7 b8 b9 b10 b11 b12 b13 b14 b15 b16 b17 rest f k => f b10 fun w => k (.mk b0 b1 b2 b3 b4 b5 b6 b7 b8 b9 w b11 b12 b13 b14 b15 b16 b17 rest))
noncomputable def Tm.s11 : Tm → (W1 → (W1 → RR) → RR) → (Tm → RR) → RR := Tm.rec (motive := fun _ => (W1 → (W1 → RR) → RR) → (Tm → RR) → RR) (fun b0 b1 b2 b3 b4 b5 b6 b7 b8 b9 b10 b11 b12 b13 b14 b15 b16 b17 rest f k => f b11 fun w => k (.mk b0 b1 b2 b3 b4 b5 b6 b7 b8 b9 b10 w b12 b13 b14 b15 b16 b17 rest))
noncomputable def Tm.s12 : Tm → (W1 → (W1 → RR) → RR) → (Tm → RR) → RR := Tm.rec (motive := fun _ => (W1 → (W1 → RR) → RR) → (Tm → RR) → RR) (fun b0 b1 b2 b3 b4 b5 b6 b7 b8 b9 b10 b11 b12 b13 b14 b15 b16 b17 rest f k => f b12 fun w => k (.mk b0 b1 b2 b3 b4 b5 b6 b7 b8 b9 b10 b11 w b13 b14 b15 b16 b17 rest))
noncomputable def Tm.s13 : Tm → (W1 → (W1 → RR) → RR) → (Tm → RR) → RR := Tm.rec (motive := fun _ => (W1 → (W1 → RR) → RR) → (Tm → RR) → RR) (fun b0 b1 b2 b3 b4 b5 b6 b7 b8 b9 b10 b11 b12 b13 b14 b15 b16 b17 rest f k => f b13 fun w => k (.mk b0 b1 b2 b3 b4 b5 b6 b7 b8 b9 b10 b11 b12 w b14 b15 b16 b17 rest))
noncomputable def Tm.s14 : Tm → (W1 → (W1 → RR) → RR) → (Tm → RR) → RR := Tm.rec (motive := fun _ => (W1 → (W1 → RR) → RR) → (Tm → RR) → RR) (fun b0 b1 b2 b3 b4 b5 b6 b7 b8 b9 b10 b11 b12 b13 b14 b15 b16 b17 rest f k => f b14 fun w => k (.mk b0 b1 b2 b3 b4 b5 b6 b7 b8 b9 b10 b11 b12 b13 w b15 b16 b17 rest))
noncomputable def Tm.s15 : Tm → (W1 → (W1 → RR) → RR) → (Tm → RR) → RR := Tm.rec (motive := fun _ => (W1 → (W1 → RR) → RR) → (Tm → RR) → RR) (fun b0 b1 b2 b3 b4 b5 b6 b7 b8 b9 b10 b11 b12 b13 b14 b15 b16 b17 rest f k => f b15 fun w => k (.mk b0 b1 b2 b3 b4 b5 b6 b7 b8 b9 b10 b11 b12 b13 b14 w b16 b17 rest))
noncomputable def Tm.s16 : Tm → (W1 → (W1 → RR) → RR) → (Tm → RR) → RR := Tm.rec (motive := fun _ => (W1 → (W1 → RR) → RR) → (Tm → RR) → RR) (fun b0 b1 b2 b3 b4 b5 b6 b7 b8 b9 b10 b11 b12 b13 b14 b15 b16 b17 rest f k => f b16 fun w => k (.mk b0 b1 b2 b3 b4 b5 b6 b7 b8 b9 b10 b11 b12 b13 b14 b15 w b17 rest))
noncomputable def Tm.s17 : Tm → (W1 → (W1 → RR) → RR) → (Tm → RR) → RR := Tm.rec (motive := fun _ => (W1 → (W1 → RR) → RR) → (Tm → RR) → RR) (fun b0 b1 b2 b3 b4 b5 b6 b7 b8 b9 b10 b11 b12 b13 b14 b15 b16 b17 rest f k => f b17 fun w => k (.mk b0 b1 b2 b3 b4 b5 b6 b7 b8 b9 b10 b11 b12 b13 b14 b15 b16 w rest))
inductive G1 where | mk (g : W1 → KA → RR) (s : W1 → AV → (W1 → RR) → RR)
inductive G2 where | mk (g : Tm → (W1 → RR) → RR) (s : Tm → (W1 → (W1 → RR) → RR) → (Tm → RR) → RR)
noncomputable def g1 : Nat → G1
  | 0 => .mk W1.g0 W1.s0
  | 1 => .mk W1.g1 W1.s1
  | 2 => .mk W1.g2 W1.s2
  | 3 => .mk W1.g3 W1.s3
  | 4 => .mk W1.g4 W1.s4
  | 5 => .mk W1.g5 W1.s5
  | 6 => .mk W1.g6 W1.s6
  | 7 => .mk W1.g7 W1.s7
  | 8 => .mk W1.g8 W1.s8
  | 9 => .mk W1.g9 W1.s9
  | 10 => .mk W1.g10 W1.s10
  | 11 => .mk W1.g11 W1.s11
  | 12 => .mk W1.g12 W1.s12
  | 13 => .mk W1.g13 W1.s13
  | 14 => .mk W1.g14 W1.s14
  | 15 => .mk W1.g15 W1.s15
  | 16 => .mk W1.g16 W1.s16
  | _ => .mk W1.g17 W1.s17
noncomputable def g2 : Nat → G2
  | 0 => .mk Tm.g0 Tm.s0
  | 1 => .mk Tm.g1 Tm.s1
  | 2 => .mk Tm.g2 Tm.s2
  | 3 => .mk Tm.g3 Tm.s3
  | 4 => .mk Tm.g4 Tm.s4
  | 5 => .mk Tm.g5 Tm.s5
  | 6 => .mk Tm.g6 Tm.s6
  | 7 => .mk Tm.g7 Tm.s7
  | 8 => .mk Tm.g8 Tm.s8
  | 9 => .mk Tm.g9 Tm.s9
  | 10 => .mk Tm.g10 Tm.s10
  | 11 => .mk Tm.g11 Tm.s11
  | 12 => .mk Tm.g12 Tm.s12
  | 13 => .mk Tm.g13 Tm.s13
  | 14 => .mk Tm.g14 Tm.s14
  | 15 => .mk Tm.g15 Tm.s15
  | 16 => .mk Tm.g16 Tm.s16
  | _ => .mk Tm.g17 Tm.s17
/-- a temporary's place -/
inductive Slot where | mk (g : Tm → KA → RR) (s : AV → Tm → (Tm → RR) → RR)
noncomputable def slot (i : Nat) : Slot := Bool.rec (motive := fun _ => Slot)
  (.mk (fun t k => Option.rec (motive := fun _ => RR) (k undefA) (fun a => k a) (t.get i)) (fun v t k => forceTm (t.put i v) k))
  (G2.rec (motive := fun _ => Slot) (fun gg ss => G1.rec (motive := fun _ => Slot) (fun g s => .mk (fun t k => gg t fun w => g w k) (fun v t k => ss t (fun w k => s w v k) k)) (g1 (i % 18))) (g2 (i / 18))) (Nat.blt i 324)

noncomputable def hgetK : Pth → Tr AObj → RR → (AObj → RR) → RR := Pth.rec (motive := fun _ => Tr AObj → RR → (AObj → RR) → RR)
  (fun t e k => Tr.rec (motive := fun _ => RR) e (fun _ v _ _ _ => Option.rec (motive := fun _ => RR) e k v) t)
  (fun _ ih t => Tr.rec (motive := fun _ => (Tr AObj → RR → (AObj → RR) → RR) → RR → (AObj → RR) → RR) (fun _ e _ => e) (fun l _ _ _ _ ih e k => ih l e k) t ih)
  (fun _ ih t => Tr.rec (motive := fun _ => (Tr AObj → RR → (AObj → RR) → RR) → RR → (AObj → RR) → RR) (fun _ e _ => e) (fun _ _ r _ _ ih e k => ih r e k) t ih)
noncomputable def hsetK : Pth → Tr AObj → AObj → (Tr AObj → RR) → RR := Pth.rec (motive := fun _ => Tr AObj → AObj → (Tr AObj → RR) → RR)
  (fun t a k => Tr.rec (motive := fun _ => RR) (k (.node .nil (some a) .nil)) (fun l _ r _ _ => k (.node l (some a) r)) t)
  (fun _ ih t => Tr.rec (motive := fun _ => (Tr AObj → AObj → (Tr AObj → RR) → RR) → AObj → (Tr AObj → RR) → RR) (fun ih a k => ih .nil a fun l => k (.node l none .nil)) (fun l v r _ _ ih a k => ih l a fun l => k (.node l v r)) t ih)
  (fun _ ih t => Tr.rec (motive := fun _ => (Tr AObj → AObj → (Tr AObj → RR) → RR) → AObj → (Tr AObj → RR) → RR) (fun ih a k => ih .nil a fun r => k (.node .nil none r)) (fun l v r _ _ ih a k => ih r a fun r => k (.node l v r)) t ih)

/-! ### what a value is -/
noncomputable def asPtr : AV → (Nat → Nat → RR) → RR → RR := AV.rec (motive_1 := fun _ => (Nat → Nat → RR) → RR → RR) (motive_2 := fun _ => Unit)
  (fun _ _ e => e)
  (fun _ _ _ e => e)
  (fun _ _ _ e => e)
  (fun _ _ e => e)
  (fun _ e => e)
  (fun v o k _ => k v o)
  (fun _ e => e)
  (fun _ _ _ _ _ e => e)
  (fun _ _ _ _ _ e => e)
  (fun _ e => e)
  (fun _ e => e)
  (fun _ _ e => e)
  (fun _ _ _ _ _ _ e => e)
  (fun _ _ e => e)
  (fun _ e => e)
  (fun _ _ _ _ e => e)
  (fun _ e => e)
  (fun _ _ _ e => e)
  (fun _ _ _ e => e) () (fun _ _ _ _ => ())
noncomputable def asBool : AV → RR → RR → RR → RR := AV.rec (motive_1 := fun _ => RR → RR → RR → RR) (motive_2 := fun _ => Unit)
  (fun b kt kf _ => Bool.rec (motive := fun _ => RR) kf kt b)
  (fun _ _ _ _ e => e)
  (fun _ _ _ _ e => e)
  (fun _ _ _ e => e)
  (fun _ _ e => e)
  (fun _ _ _ _ e => e)
  (fun _ _ e => e)
  (fun _ _ _ _ _ _ e => e)
  (fun _ _ _ _ _ _ e => e)
  (fun _ _ e => e)
  (fun _ _ e => e)
  (fun _ _ _ e => e)
  (fun _ _ _ _ _ _ _ e => e)
  (fun _ _ _ e => e)
  (fun _ _ e => e)
  (fun _ _ _ _ _ e => e)
  (fun _ _ e => e)
  (fun _ _ _ _ e => e)
  (fun _ _ _ _ e => e) () (fun _ _ _ _ => ())
noncomputable def asNat : AV → (Nat → RR) → RR → RR := AV.rec (motive_1 := fun _ => (Nat → RR) → RR → RR) (motive_2 := fun _ => Unit)
  (fun _ _ e => e)
  (fun _ n k e => Int.rec (motive := fun _ => RR) (fun m => k m) (fun _ => e) n)
  (fun _ _ _ e => e)
  (fun _ _ e => e)
  (fun _ e => e)
  (fun _ _ _ e => e)
  (fun _ e => e)
  (fun _ _ _ _ _ e => e)
  (fun _ _ _ _ _ e => e)
  (fun _ e => e)
  (fun _ e => e)
  (fun _ _ e => e)
  (fun _ _ _ _ _ _ e => e)
  (fun _ _ e => e)
  (fun _ e => e)
  (fun _ _ _ _ e => e)
  (fun _ e => e)
  (fun _ _ _ e => e)
  (fun _ _ _ e => e) () (fun _ _ _ _ => ())
noncomputable def asAgg : AV → (List AV → RR) → RR → RR := AV.rec (motive_1 := fun _ => (List AV → RR) → RR → RR) (motive_2 := fun _ => Unit)
  (fun _ _ e => e)
  (fun _ _ _ e => e)
  (fun _ _ _ e => e)
  (fun _ _ e => e)
  (fun _ e => e)
  (fun _ _ _ e => e)
  (fun _ e => e)
  (fun _ _ _ _ _ e => e)
  (fun _ _ _ _ _ e => e)
  (fun _ e => e)
  (fun _ e => e)
  (fun _ _ e => e)
  (fun _ _ _ _ _ _ e => e)
  (fun _ _ e => e)
  (fun _ e => e)
  (fun _ _ _ _ e => e)
  (fun _ e => e)
  (fun l _ k _ => k l)
  (fun _ _ _ e => e) () (fun _ _ _ _ => ())
noncomputable def asTuple : AV → (List AV → RR) → RR → RR := AV.rec (motive_1 := fun _ => (List AV → RR) → RR → RR) (motive_2 := fun _ => Unit)
  (fun _ _ e => e)
  (fun _ _ _ e => e)
  (fun _ _ _ e => e)
  (fun _ _ e => e)
  (fun _ e => e)
  (fun _ _ _ e => e)
  (fun _ e => e)
  (fun _ _ _ _ _ e => e)
  (fun _ _ _ _ _ e => e)
  (fun _ e => e)
  (fun _ e => e)
  (fun _ _ e => e)
  (fun _ _ _ _ _ _ e => e)
  (fun _ _ e => e)
  (fun _ e => e)
  (fun _ _ _ _ e => e)
  (fun _ e => e)
  (fun _ _ _ e => e)
  (fun l _ k _ => k l) () (fun _ _ _ _ => ())
noncomputable def asStr : AV → (List UInt8 → RR) → RR → RR := AV.rec (motive_1 := fun _ => (List UInt8 → RR) → RR → RR) (motive_2 := fun _ => Unit)
  (fun _ _ e => e)
  (fun _ _ _ e => e)
  (fun _ _ _ e => e)
  (fun s k _ => ByteArray.rec (motive := fun _ => RR) (fun d => Array.rec (motive := fun _ => RR) (fun l => k l) d) s)
  (fun _ e => e)
  (fun _ _ _ e => e)
  (fun _ e => e)
  (fun _ _ _ _ _ e => e)
  (fun _ _ _ _ _ e => e)
  (fun _ e => e)
  (fun _ e => e)
  (fun _ _ e => e)
  (fun _ _ _ _ _ _ e => e)
  (fun _ _ e => e)
  (fun _ e => e)
  (fun _ _ _ _ e => e)
  (fun _ e => e)
  (fun _ _ _ e => e)
  (fun _ _ _ e => e) () (fun _ _ _ _ => ())
noncomputable def asSl : AV → (Nat → Nat → Nat → RR) → RR → RR := AV.rec (motive_1 := fun _ => (Nat → Nat → Nat → RR) → RR → RR) (motive_2 := fun _ => Unit)
  (fun _ _ e => e)
  (fun _ _ _ e => e)
  (fun _ _ _ e => e)
  (fun _ _ e => e)
  (fun _ e => e)
  (fun _ _ _ e => e)
  (fun _ e => e)
  (fun v o n _ k _ => k v o n)
  (fun v o n _ k _ => k v o n)
  (fun _ e => e)
  (fun _ e => e)
  (fun _ _ e => e)
  (fun _ _ _ _ _ _ e => e)
  (fun _ _ e => e)
  (fun _ e => e)
  (fun _ _ _ _ e => e)
  (fun _ e => e)
  (fun _ _ _ e => e)
  (fun _ _ _ e => e) () (fun _ _ _ _ => ())
noncomputable def lenSl : AV → (Nat → RR) → RR → RR := AV.rec (motive_1 := fun _ => (Nat → RR) → RR → RR) (motive_2 := fun _ => Unit)
  (fun _ _ e => e)
  (fun _ _ _ e => e)
  (fun _ _ _ e => e)
  (fun _ _ e => e)
  (fun _ e => e)
  (fun _ _ _ e => e)
  (fun k _ => k 0)
  (fun _ _ n _ k _ => k n)
  (fun _ _ n _ k _ => k n)
  (fun k _ => k 0)
  (fun _ e => e)
  (fun _ _ e => e)
  (fun _ _ _ _ _ _ e => e)
  (fun _ _ e => e)
  (fun _ e => e)
  (fun _ _ _ _ e => e)
  (fun _ e => e)
  (fun _ _ _ e => e)
  (fun _ _ _ e => e) () (fun _ _ _ _ => ())
noncomputable def nonNil : AV → (AV → RR) → RR → RR := AV.rec (motive_1 := fun _ => (AV → RR) → RR → RR) (motive_2 := fun _ => Unit)
  (fun _ _ e => e)
  (fun _ _ _ e => e)
  (fun _ _ _ e => e)
  (fun _ _ e => e)
  (fun _ e => e)
  (fun v o k _ => k (.ptr v o))
  (fun _ e => e)
  (fun _ _ _ _ _ e => e)
  (fun _ _ _ _ _ e => e)
  (fun _ e => e)
  (fun _ e => e)
  (fun _ _ e => e)
  (fun f a b _ _ k _ => k (.func f a b))
  (fun v k _ => k (.yieldF v))
  (fun _ e => e)
  (fun ty x _ k _ => k (.iface ty x))
  (fun _ e => e)
  (fun _ _ _ e => e)
  (fun _ _ _ e => e) () (fun _ _ _ _ => ())
noncomputable def cellsK : AV → (List AV → RR) → RR → RR := AV.rec (motive_1 := fun _ => (List AV → RR) → RR → RR) (motive_2 := fun _ => Unit)
  (fun _ _ k1 => k1)
  (fun _ _ _ k1 => k1)
  (fun _ _ _ k1 => k1)
  (fun _ _ k1 => k1)
  (fun _ k1 => k1)
  (fun _ _ _ k1 => k1)
  (fun _ k1 => k1)
  (fun _ _ _ _ _ k1 => k1)
  (fun _ _ _ _ _ k1 => k1)
  (fun _ k1 => k1)
  (fun _ k1 => k1)
  (fun _ _ k1 => k1)
  (fun _ _ _ _ _ _ k1 => k1)
  (fun _ _ k1 => k1)
  (fun _ k1 => k1)
  (fun _ _ _ _ k1 => k1)
  (fun _ k1 => k1)
  (fun l _ k _ => k l)
  (fun _ _ _ k1 => k1) () (fun _ _ _ _ => ())
noncomputable def oneCell : AV → RR → RR → RR := AV.rec (motive_1 := fun _ => RR → RR → RR) (motive_2 := fun _ => Unit)
  (fun _ k _ => k)
  (fun _ _ k _ => k)
  (fun _ _ k _ => k)
  (fun _ k _ => k)
  (fun k _ => k)
  (fun _ _ k _ => k)
  (fun k _ => k)
  (fun _ _ _ _ k _ => k)
  (fun _ _ _ _ k _ => k)
  (fun k _ => k)
  (fun k _ => k)
  (fun _ k _ => k)
  (fun _ _ _ _ _ k _ => k)
  (fun _ k _ => k)
  (fun k _ => k)
  (fun _ _ _ k _ => k)
  (fun k _ => k)
  (fun _ _ _ e => e)
  (fun _ _ _ e => e) () (fun _ _ _ _ => ())
noncomputable def asK_i8 : AV → (Nat → RR) → RR → RR := AV.rec (motive_1 := fun _ => (Nat → RR) → RR → RR) (motive_2 := fun _ => Unit)
  (fun _ _ e => e)
  (fun kd n k e => IntKind.rec (motive := fun _ => Int → (Nat → RR) → RR → RR) (fun n k e => Int.rec (motive := fun _ => (Nat → RR) → RR → RR) (fun m k _ => k m) (fun _ _ e => e) n k e) (fun _ _ e => e) (fun _ _ e => e) (fun _ _ e => e) (fun _ _ e => e) (fun _ _ e => e) (fun _ _ e => e) (fun _ _ e => e) kd n k e)
  (fun _ _ _ e => e)
  (fun _ _ e => e)
  (fun _ e => e)
  (fun _ _ _ e => e)
  (fun _ e => e)
  (fun _ _ _ _ _ e => e)
  (fun _ _ _ _ _ e => e)
  (fun _ e => e)
  (fun _ e => e)
  (fun _ _ e => e)
  (fun _ _ _ _ _ _ e => e)
  (fun _ _ e => e)
  (fun _ e => e)
  (fun _ _ _ _ e => e)
  (fun _ e => e)
  (fun _ _ _ e => e)
  (fun _ _ _ e => e) () (fun _ _ _ _ => ())
noncomputable def asK_i16 : AV → (Nat → RR) → RR → RR := AV.rec (motive_1 := fun _ => (Nat → RR) → RR → RR) (motive_2 := fun _ => Unit)
  (fun _ _ e => e)
  (fun kd n k e => IntKind.rec (motive := fun _ => Int → (Nat → RR) → RR → RR) (fun _ _ e => e) (fun n k e => Int.rec (motive := fun _ => (Nat → RR) → RR → RR) (fun m k _ => k m) (fun _ _ e => e) n k e) (fun _ _ e => e) (fun _ _ e => e) (fun _ _ e => e) (fun _ _ e => e) (fun _ _ e => e) (fun _ _ e => e) kd n k e)
  (fun _ _ _ e => e)
  (fun _ _ e => e)
  (fun _ e => e)
  (fun _ _ _ e => e)
  (fun _ e => e)
  (fun _ _ _ _ _ e => e)
  (fun _ _ _ _ _ e => e)
  (fun _ e => e)
  (fun _ e => e)
  (fun _ _ e => e)
  (fun _ _ _ _ _ _ e => e)
  (fun _ _ e => e)
  (fun _ e => e)
  (fun _ _ _ _ e => e)
  (fun _ e => e)
  (fun _ _ _ e => e)
  (fun _ _ _ e => e) () (fun _ _ _ _ => ())
noncomputable def asK_i32 : AV → (Nat → RR) → RR → RR := AV.rec (motive_1 := fun _ => (Nat → RR) → RR → RR) (motive_2 := fun _ => Unit)
  (fun _ _ e => e)
  (fun kd n k e => IntKind.rec (motive := fun _ => Int → (Nat → RR) → RR → RR) (fun _ _ e => e) (fun _ _ e => e) (fun n k e => Int.rec (motive := fun _ => (Nat → RR) → RR → RR) (fun m k _ => k m) (fun _ _ e => e) n k e) (fun _ _ e => e) (fun _ _ e => e) (fun _ _ e => e) (fun _ _ e => e) (fun _ _ e => e) kd n k e)
  (fun _ _ _ e => e)
  (fun _ _ e => e)
  (fun _ e => e)
  (fun _ _ _ e => e)
  (fun _ e => e)
  (fun _ _ _ _ _ e => e)
  (fun _ _ _ _ _ e => e)
  (fun _ e => e)
  (fun _ e => e)
  (fun _ _ e => e)
  (fun _ _ _ _ _ _ e => e)
  (fun _ _ e => e)
  (fun _ e => e)
  (fun _ _ _ _ e => e)
  (fun _ e => e)
  (fun _ _ _ e => e)
  (fun _ _ _ e => e) () (fun _ _ _ _ => ())
noncomputable def asK_i64 : AV → (Nat → RR) → RR → RR := AV.rec (motive_1 := fun _ => (Nat → RR) → RR → RR) (motive_2 := fun _ => Unit)
  (fun _ _ e => e)
  (fun kd n k e => IntKind.rec (motive := fun _ => Int → (Nat → RR) → RR → RR) (fun _ _ e => e) (fun _ _ e => e) (fun _ _ e => e) (fun n k e => Int.rec (motive := fun _ => (Nat → RR) → RR → RR) (fun m k _ => k m) (fun _ _ e => e) n k e) (fun _ _ e => e) (fun _ _ e => e) (fun _ _ e => e) (fun _ _ e => e) kd n k e)
  (fun _ _ _ e => e)
  (fun _ _ e => e)
  (fun _ e => e)
  (fun _ _ _ e => e)
  (fun _ e => e)
  (fun _ _ _ _ _ e => e)
  (fun _ _ _ _ _ e => e)
  (fun _ e => e)
  (fun _ e => e)
  (fun _ _ e => e)
  (fun _ _ _ _ _ _ e => e)
  (fun _ _ e => e)
  (fun _ e => e)
  (fun _ _ _ _ e => e)
  (fun _ e => e)
  (fun _ _ _ e => e)
  (fun _ _ _ e => e) () (fun _ _ _ _ => ())
noncomputable def asK_u8 : AV → (Nat → RR) → RR → RR := AV.rec (motive_1 := fun _ => (Nat → RR) → RR → RR) (motive_2 := fun _ => Unit)
  (fun _ _ e => e)
  (fun kd n k e => IntKind.rec (motive := fun _ => Int → (Nat → RR) → RR → RR) (fun _ _ e => e) (fun _ _ e => e) (fun _ _ e => e) (fun _ _ e => e) (fun n k e => Int.rec (motive := fun _ => (Nat → RR) → RR → RR) (fun m k _ => k m) (fun _ _ e => e) n k e) (fun _ _ e => e) (fun _ _ e => e) (fun _ _ e => e) kd n k e)
  (fun _ _ _ e => e)
  (fun _ _ e => e)
  (fun _ e => e)
  (fun _ _ _ e => e)
  (fun _ e => e)
  (fun _ _ _ _ _ e => e)
  (fun _ _ _ _ _ e => e)
  (fun _ e => e)
  (fun _ e => e)
  (fun _ _ e => e)
  (fun _ _ _ _ _ _ e => e)
  (fun _ _ e => e)
  (fun _ e => e)
  (fun _ _ _ _ e => e)
  (fun _ e => e)
  (fun _ _ _ e => e)
  (fun _ _ _ e => e) () (fun _ _ _ _ => ())
noncomputable def asK_u16 : AV → (Nat → RR) → RR → RR := AV.rec (motive_1 := fun _ => (Nat → RR) → RR → RR) (motive_2 := fun _ => Unit)
  (fun _ _ e => e)
  (fun kd n k e => IntKind.rec (motive := fun _ => Int → (Nat → RR) → RR → RR) (fun _ _ e => e) (fun _ _ e => e) (fun _ _ e => e) (fun _ _ e => e) (fun _ _ e => e) (fun n k e => Int.rec (motive := fun _ => (Nat → RR) → RR → RR) (fun m k _ => k m) (fun _ _ e => e) n k e) (fun _ _ e => e) (fun _ _ e => e) kd n k e)
  (fun _ _ _ e => e)
  (fun _ _ e => e)
  (fun _ e => e)
  (fun _ _ _ e => e)
  (fun _ e => e)
  (fun _ _ _ _ _ e => e)
  (fun _ _ _ _ _ e => e)
  (fun _ e => e)
  (fun _ e => e)
  (fun _ _ e => e)
  (fun _ _ _ _ _ _ e => e)
  (fun _ _ e => e)
  (fun _ e => e)
  (fun _ _ _ _ e => e)
  (fun _ e => e)
  (fun _ _ _ e => e)
  (fun _ _ _ e => e) () (fun _ _ _ _ => ())
noncomputable def asK_u32 : AV → (Nat → RR) → RR → RR := AV.rec (motive_1 := fun _ => (Nat → RR) → RR → RR) (motive_2 := fun _ => Unit)
  (fun _ _ e => e)
  (fun kd n k e => IntKind.rec (motive := fun _ => Int → (Nat → RR) → RR → RR) (fun _ _ e => e) (fun _ _ e => e) (fun _ _ e => e) (fun _ _ e => e) (fun _ _ e => e) (fun _ _ e => e) (fun n k e => Int.rec (motive := fun _ => (Nat → RR) → RR → RR) (fun m k _ => k m) (fun _ _ e => e) n k e) (fun _ _ e => e) kd n k e)
  (fun _ _ _ e => e)
  (fun _ _ e => e)
  (fun _ e => e)
  (fun _ _ _ e => e)
  (fun _ e => e)
  (fun _ _ _ _ _ e => e)
  (fun _ _ _ _ _ e => e)
  (fun _ e => e)
  (fun _ e => e)
  (fun _ _ e => e)
  (fun _ _ _ _ _ _ e => e)
  (fun _ _ e => e)
  (fun _ e => e)
  (fun _ _ _ _ e => e)
  (fun _ e => e)
  (fun _ _ _ e => e)
  (fun _ _ _ e => e) () (fun _ _ _ _ => ())
noncomputable def asK_u64 : AV → (Nat → RR) → RR → RR := AV.rec (motive_1 := fun _ => (Nat → RR) → RR → RR) (motive_2 := fun _ => Unit)
  (fun _ _ e => e)
  (fun kd n k e => IntKind.rec (motive := fun _ => Int → (Nat → RR) → RR → RR) (fun _ _ e => e) (fun _ _ e => e) (fun _ _ e => e) (fun _ _ e => e) (fun _ _ e => e) (fun _ _ e => e) (fun _ _ e => e) (fun n k e => Int.rec (motive := fun _ => (Nat → RR) → RR → RR) (fun m k _ => k m) (fun _ _ e => e) n k e) kd n k e)
  (fun _ _ _ e => e)
  (fun _ _ e => e)
  (fun _ e => e)
  (fun _ _ _ e => e)
  (fun _ e => e)
  (fun _ _ _ _ _ e => e)
  (fun _ _ _ _ _ e => e)
  (fun _ e => e)
  (fun _ e => e)
  (fun _ _ e => e)
  (fun _ _ _ _ _ _ e => e)
  (fun _ _ e => e)
  (fun _ e => e)
  (fun _ _ _ _ e => e)
  (fun _ e => e)
  (fun _ _ _ e => e)
  (fun _ _ _ e => e) () (fun _ _ _ _ => ())
inductive DKind where | mk (f : AV → (Nat → RR) → RR → RR)
noncomputable def decKind : IntKind → DKind := IntKind.rec (motive := fun _ => DKind) (.mk asK_i8) (.mk asK_i16) (.mk asK_i32) (.mk asK_i64) (.mk asK_u8) (.mk asK_u16) (.mk asK_u32) (.mk asK_u64)

/-- a number, forced -/
noncomputable def fN : Nat → (Nat → RR) → RR := Nat.rec (motive := fun _ => (Nat → RR) → RR) (fun k => k 0) (fun m _ k => k (Nat.succ m))
noncomputable def asCells : AObj → (List AV → TypeId → Bool → RR) → RR → RR := AObj.rec (motive := fun _ => (List AV → TypeId → Bool → RR) → RR → RR)
  (fun l e x k _ => k l e x) (fun _ _ _ e => e) (fun _ _ _ e => e) (fun _ _ e => e) (fun _ _ e => e)
noncomputable def nthK : Nat → List AV → KA → RR → RR := Nat.rec (motive := fun _ => List AV → KA → RR → RR)
  (List.rec (motive := fun _ => KA → RR → RR) (fun _ e => e) (fun a _ _ k _ => k a))
  (fun _ ih l => List.rec (motive := fun _ => (List AV → KA → RR → RR) → KA → RR → RR) (fun _ _ e => e) (fun _ r _ ih k e => ih r k e) l ih)
noncomputable def dropK : Nat → List AV → (List AV → RR) → RR := Nat.rec (motive := fun _ => List AV → (List AV → RR) → RR)
  (fun l k => k l)
  (fun _ ih l k => List.rec (motive := fun _ => RR) (k []) (fun _ r _ => ih r k) l)
noncomputable def takeK : Nat → List AV → (List AV → RR) → RR → RR := Nat.rec (motive := fun _ => List AV → (List AV → RR) → RR → RR)
  (fun _ k _ => k [])
  (fun _ ih l k e => List.rec (motive := fun _ => RR) e (fun a r _ => ih r (fun r => k (a :: r)) e) l)
/-- write a list over another from its beginning on -/
noncomputable def ow0K : List AV → List AV → (List AV → RR) → RR → RR := List.rec (motive := fun _ => List AV → (List AV → RR) → RR → RR)
  (fun l k _ => k l)
  (fun x _ ih l k e => List.rec (motive := fun _ => RR) e (fun _ r _ => ih r (fun r => k (x :: r)) e) l)
noncomputable def owK : Nat → List AV → List AV → (List AV → RR) → RR → RR := Nat.rec (motive := fun _ => List AV → List AV → (List AV → RR) → RR → RR)
  (fun l cs k e => ow0K cs l k e)
  (fun _ ih l cs k e => List.rec (motive := fun _ => RR) (List.rec (motive := fun _ => RR) (k []) (fun _ _ _ => e) cs) (fun a r _ => ih r cs (fun r => k (a :: r)) e) l)
noncomputable def dropB : Nat → List UInt8 → (List UInt8 → RR) → RR := Nat.rec (motive := fun _ => List UInt8 → (List UInt8 → RR) → RR)
  (fun l k => k l)
  (fun _ ih l k => List.rec (motive := fun _ => RR) (k []) (fun _ r _ => ih r k) l)
noncomputable def takeB : Nat → List UInt8 → (List UInt8 → RR) → RR := Nat.rec (motive := fun _ => List UInt8 → (List UInt8 → RR) → RR)
  (fun _ k => k [])
  (fun _ ih l k => List.rec (motive := fun _ => RR) (k []) (fun a r _ => ih r fun r => k (a :: r)) l)
noncomputable def appB : List UInt8 → List UInt8 → (List UInt8 → RR) → RR := List.rec (motive := fun _ => List UInt8 → (List UInt8 → RR) → RR)
  (fun m k => k m) (fun a _ ih m k => ih m fun l => k (a :: l))
noncomputable def nthB : Nat → List UInt8 → (Nat → RR) → RR → RR := Nat.rec (motive := fun _ => List UInt8 → (Nat → RR) → RR → RR)
  (List.rec (motive := fun _ => (Nat → RR) → RR → RR) (fun _ e => e) (fun a _ _ k _ => fN (UInt8.toNat a) k))
  (fun _ ih l => List.rec (motive := fun _ => (List UInt8 → (Nat → RR) → RR → RR) → (Nat → RR) → RR → RR) (fun _ _ e => e) (fun _ r _ ih k e => ih r k e) l ih)
noncomputable def lenB {α : Type} (l : List α) : Nat := List.rec (motive := fun _ => Nat) 0 (fun _ _ ih => Nat.succ ih) l
noncomputable def eqB : List UInt8 → List UInt8 → RR → RR → RR := List.rec (motive := fun _ => List UInt8 → RR → RR → RR)
  (fun m kt kf => List.rec (motive := fun _ => RR) kt (fun _ _ _ => kf) m)
  (fun a _ ih m kt kf => List.rec (motive := fun _ => RR) kf (fun b m _ => Bool.rec (motive := fun _ => RR) kf (ih m kt kf) (Nat.beq (UInt8.toNat a) (UInt8.toNat b))) m)

/-! ### forcing a value, quickly -/
noncomputable def fB : List UInt8 → (List UInt8 → RR) → RR := List.rec (motive := fun _ => (List UInt8 → RR) → RR) (fun k => k []) (fun a _ ih k => fN (UInt8.toNat a) fun n => ih fun l => k (UInt8.ofNat n :: l))
noncomputable def fI : Int → (Int → RR) → RR := Int.rec (motive := fun _ => (Int → RR) → RR) (fun n k => fN n fun n => k (.ofNat n)) (fun n k => fN n fun n => k (.negSucc n))
noncomputable def fA : AV → KA → RR := AV.rec (motive_1 := fun _ => KA → RR) (motive_2 := fun _ => (List AV → RR) → RR)
  (fun b k => Bool.rec (motive := fun _ => RR) (k (.bool false)) (k (.bool true)) b)
  (fun kd n k => fI n fun n => k (.int kd n))
  (fun kd n k => fN n fun n => k (.float kd n))
  (fun s k => ByteArray.rec (motive := fun _ => RR) (fun d => Array.rec (motive := fun _ => RR) (fun l => fB l fun l => k (.string ⟨⟨l⟩⟩)) d) s)
  (fun k => k .nilptr)
  (fun v o k => fN v fun v => fN o fun o => k (.ptr v o))
  (fun k => k .nilslice)
  (fun v o n c k => fN v fun v => fN o fun o => fN n fun n => fN c fun c => k (.slice v o n c))
  (fun v o n c k => fN v fun v => fN o fun o => fN n fun n => fN c fun c => k (.sliceU v o n c))
  (fun k => k .sliceE)
  (fun k => k .nilmap)
  (fun v k => fN v fun v => k (.map v))
  (fun f _ _ iha ihb k => iha fun a => ihb fun b => k (.func f a b))
  (fun v k => fN v fun v => k (.yieldF v))
  (fun k => k .nilFunc)
  (fun t _ ih k => ih fun x => k (.iface t x))
  (fun k => k .nilIface)
  (fun _ ih k => ih fun l => k (.agg l))
  (fun _ ih k => ih fun l => k (.tuple l))
  (fun k => k [])
  (fun _ _ iha ihl k => iha fun a => ihl fun l => k (a :: l))
noncomputable def fL : List AV → (List AV → RR) → RR := List.rec (motive := fun _ => (List AV → RR) → RR) (fun k => k []) (fun a _ ih k => fA a fun a => ih fun l => k (a :: l))
/-- its head alone -/
noncomputable def fT (t : Tr AObj) (k : Tr AObj → RR) : RR := Tr.rec (motive := fun _ => RR) (k .nil) (fun l v r _ _ => k (.node l v r)) t

/-! ### kinds of ints -/
noncomputable def sgn (lim : Nat) (r : Nat) (k : Nat → RR) (e : RR) : RR := fN r fun r => Bool.rec (motive := fun _ => RR) e (k r) (Nat.ble (Nat.succ r) lim)
noncomputable def uns (lim : Nat) (r : Nat) (k : Nat → RR) (_ : RR) : RR := fN (Nat.mod r lim) k
/-- a result that is not negative, wrapped; else the slow way -/
noncomputable def wrapK : IntKind → Nat → (Nat → RR) → RR → RR := IntKind.rec (motive := fun _ => Nat → (Nat → RR) → RR → RR)
  (sgn 128) (sgn 32768) (sgn 2147483648) (sgn 9223372036854775808) (uns 256) (uns 65536) (uns 4294967296) (uns 18446744073709551616)
noncomputable def bitsN : IntKind → Nat := IntKind.rec (motive := fun _ => Nat) 8 16 32 64 8 16 32 64
noncomputable def powN : IntKind → Nat := IntKind.rec (motive := fun _ => Nat) 256 65536 4294967296 18446744073709551616 256 65536 4294967296 18446744073709551616
noncomputable def sgnLow (lim : Nat) (m n : Nat) (k : Int → RR) (e : RR) : RR := Bool.rec (motive := fun _ => RR) e (fN (Nat.sub (Nat.sub n m) 1) fun r => k (.negSucc r)) (Nat.ble (Nat.sub n m) lim)
noncomputable def unsLow (lim : Nat) (m n : Nat) (k : Int → RR) (e : RR) : RR := Bool.rec (motive := fun _ => RR) e (fN (Nat.mod (Nat.sub (Nat.add m lim) n) lim) fun r => k (.ofNat r)) (Nat.ble n (Nat.add m lim))
/-- m less n, n the greater one -/
noncomputable def lowK : IntKind → Nat → Nat → (Int → RR) → RR → RR := IntKind.rec (motive := fun _ => Nat → Nat → (Int → RR) → RR → RR)
  (sgnLow 128) (sgnLow 32768) (sgnLow 2147483648) (sgnLow 9223372036854775808) (unsLow 256) (unsLow 65536) (unsLow 4294967296) (unsLow 18446744073709551616)

noncomputable def boolK : Bool → KA → RR := Bool.rec (motive := fun _ => KA → RR) (fun k => k (.bool false)) (fun k => k (.bool true))
/-! operations on two ints that are not negative; 'e': the slow way -/
inductive DInt where | mk (f : Nat → Nat → KA → RR → RR)
noncomputable def iAdd (kd : IntKind) : DInt := .mk fun m n k e => wrapK kd (Nat.add m n) (fun r => k (.int kd (.ofNat r))) e
noncomputable def iSub (kd : IntKind) : DInt := .mk fun m n k e => Bool.rec (motive := fun _ => RR) (lowK kd m n (fun r => k (.int kd r)) e) (wrapK kd (Nat.sub m n) (fun r => k (.int kd (.ofNat r))) e) (Nat.ble n m)
noncomputable def iMul (kd : IntKind) : DInt := .mk fun m n k e => wrapK kd (Nat.mul m n) (fun r => k (.int kd (.ofNat r))) e
noncomputable def iQuo (kd : IntKind) : DInt := .mk fun m n k e => Bool.rec (motive := fun _ => RR) (wrapK kd (Nat.div m n) (fun r => k (.int kd (.ofNat r))) e) e (Nat.beq n 0)
noncomputable def iRem (kd : IntKind) : DInt := .mk fun m n k e => Bool.rec (motive := fun _ => RR) (fN (Nat.mod m n) fun r => k (.int kd (.ofNat r))) e (Nat.beq n 0)
noncomputable def iAnd (kd : IntKind) : DInt := .mk fun m n k e => wrapK kd (Nat.land (Nat.mod m (powN kd)) (Nat.mod n (powN kd))) (fun r => k (.int kd (.ofNat r))) e
noncomputable def iOr (kd : IntKind) : DInt := .mk fun m n k e => wrapK kd (Nat.lor (Nat.mod m (powN kd)) (Nat.mod n (powN kd))) (fun r => k (.int kd (.ofNat r))) e
noncomputable def iXor (kd : IntKind) : DInt := .mk fun m n k e => wrapK kd (Nat.xor (Nat.mod m (powN kd)) (Nat.mod n (powN kd))) (fun r => k (.int kd (.ofNat r))) e
noncomputable def iEql : DInt := .mk fun m n k _ => boolK (Nat.beq m n) k
noncomputable def iNeq : DInt := .mk fun m n k _ => Bool.rec (motive := fun _ => RR) (k (.bool true)) (k (.bool false)) (Nat.beq m n)
noncomputable def iLss : DInt := .mk fun m n k _ => boolK (Nat.ble (Nat.succ m) n) k
noncomputable def iLeq : DInt := .mk fun m n k _ => boolK (Nat.ble m n) k
noncomputable def iGtr : DInt := .mk fun m n k _ => boolK (Nat.ble (Nat.succ n) m) k
noncomputable def iGeq : DInt := .mk fun m n k _ => boolK (Nat.ble n m) k
noncomputable def iNo : DInt := .mk fun _ _ _ e => e
noncomputable def decInt (op : BinOp) (kd : IntKind) : DInt := match op with
  | .add => iAdd kd
  | .sub => iSub kd
  | .mul => iMul kd
  | .quo => iQuo kd
  | .rem => iRem kd
  | .and => iAnd kd
  | .or => iOr kd
  | .xor => iXor kd
  | .eql => iEql
  | .neq => iNeq
  | .lss => iLss
  | .leq => iLeq
  | .gtr => iGtr
  | .geq => iGeq
  | _ => iNo
/-- a shift of an int that is not negative -/
noncomputable def decShift (op : BinOp) (kd : IntKind) : DInt := match op with
  | .shl => .mk fun m n k e => Bool.rec (motive := fun _ => RR) e (wrapK kd (Nat.mul m (Nat.pow 2 n)) (fun r => k (.int kd (.ofNat r))) e) (Nat.ble n (bitsN kd))
  | .shr => .mk fun m n k e => Bool.rec (motive := fun _ => RR) e (fN (Nat.div m (Nat.pow 2 n)) fun r => k (.int kd (.ofNat r))) (Nat.ble n (bitsN kd))
  | _ => iNo
noncomputable def isShift : BinOp → Bool
  | .shl | .shr => true
  | _ => false
noncomputable def strF : BinOp → List UInt8 → List UInt8 → KA → RR → RR
  | .eql => fun a b k _ => eqB a b (k (.bool true)) (k (.bool false))
  | .neq => fun a b k _ => eqB a b (k (.bool false)) (k (.bool true))
  | .add => fun a b k e => Bool.rec (motive := fun _ => RR) e (appB a b fun l => k (.string ⟨⟨l⟩⟩)) (Nat.ble (Nat.add (lenB a) (lenB b)) 9223372036854775807)
  | _ => fun _ _ _ e => e

/-! ### what is decoded -/
inductive DPut where | mk (f : AV → Tm → (Tm → RR) → RR)
inductive DOp where | mk (f : Tm → KA → RR)
inductive DOps where | mk (f : Tm → (List AV → RR) → RR)
inductive DV where | mk (f : Tm → Tr AObj → Nat → KA → RR)
inductive DStep where | mk (f : Rec → Cx → Tm → Tr AObj → Nat → List ADef → Bool → KN → RR)
inductive DC where | mk (f : Rec → Cx → Tm → Tr AObj → Nat → List ADef → Bool → KN → (Ext → KN) → RR)

noncomputable def decPut (nt : Nat) (d : Option Tmp) : DPut := Option.rec (motive := fun _ => DPut) (.mk fun _ t k => k t)
  (fun d => Bool.rec (motive := fun _ => DPut) (.mk fun _ _ _ => .err 155) (Slot.rec (motive := fun _ => DPut) (fun _ s => .mk s) (slot d)) (Nat.blt d nt)) d

noncomputable def frk (k : KN) (fr : Fr) : RR := Fr.rec (motive := fun _ => RR) (fun t st d r => St.rec (motive := fun _ => RR) (fun h nx => Bool.rec (motive := fun _ => RR)
  (List.rec (motive := fun _ => RR) (k t h nx [] false) (fun a l _ => k t h nx (a :: l) false) d) (List.rec (motive := fun _ => RR) (k t h nx [] true) (fun a l _ => k t h nx (a :: l) true) d) r) st) fr
noncomputable def frKN (k : Fr → RR) : KN := fun t h nx d r => k ⟨t, ⟨h, nx⟩, d, r⟩

section
variable (T : Tab)

noncomputable def decOpd (x : Operand) : DOp := Operand.rec (motive := fun _ => DOp)
  (fun i => Slot.rec (motive := fun _ => DOp) (fun g _ => .mk g) (slot i))
  (fun v => Option.rec (motive := fun _ => DOp) (.mk fun _ _ => .err 30) (fun a => forceA a fun a => .mk fun _ k => k a) (ofV v))
  (fun g => Bool.rec (motive := fun _ => DOp) (.mk fun _ _ => .err 29) (.mk fun _ k => k (.ptr g 0)) (Nat.blt g T.ng))
  (fun f => .mk fun _ k => k (.func f [] [])) x
noncomputable def runOp (d : DOp) : Tm → KA → RR := DOp.rec (motive := fun _ => Tm → KA → RR) (fun f => f) d
noncomputable def decOpds (l : List Operand) : DOps := List.rec (motive := fun _ => DOps) (.mk fun _ k => k [])
  (fun x _ ih => DOp.rec (motive := fun _ => DOps) (fun f => .mk fun t k => f t fun a => DOps.rec (motive := fun _ => RR) (fun g => g t fun l => k (a :: l)) ih) (decOpd T x)) l

/-! values -/
noncomputable def vMove (x : Operand) : DV := DOp.rec (motive := fun _ => DV) (fun f => .mk fun t _ _ k => f t k) (decOpd T x)
noncomputable def vPick (c a b : Operand) : DV := DOp.rec (motive := fun _ => DV) (fun fc => DOp.rec (motive := fun _ => DV) (fun fa => DOp.rec (motive := fun _ => DV) (fun fb =>
  .mk fun t _ _ k => fc t fun c => asBool c (fa t k) (fb t k) (.err 124)) (decOpd T b)) (decOpd T a)) (decOpd T c)
noncomputable def vErr (e : Nat) : DV := .mk fun _ _ _ _ => .err e
noncomputable def loadOne (v off : Nat) (h : Tr AObj) (k : KA) : RR := hgetK (pth v) h (.err 7) fun o => asCells o (fun l _ _ => nthK off l k (.err 6)) (.err 7)
noncomputable def loadAgg (n v off : Nat) (h : Tr AObj) (k : KA) : RR := hgetK (pth v) h (.err 7) fun o => asCells o (fun l _ _ => dropK off l fun l => takeK n l (fun l => k (.agg l)) (.err 6)) (.err 7)
noncomputable def vLoad (ty : TypeId) (a : Operand) : DV := DOp.rec (motive := fun _ => DV) (fun fa => R.rec (motive := fun _ => DV) (fun b => Bool.rec (motive := fun _ => DV)
    (.mk fun t h _ k => fa t fun a => asPtr a (fun v off => loadOne v off h k) (.err 13))
    (R.rec (motive := fun _ => DV) (fun n => forceN n fun n => .mk fun t h _ k => fa t fun a => asPtr a (fun v off => loadAgg n v off h k) (.err 13)) (fun e => vErr e) (sizeA T ty)) b) (fun e => vErr e) (isAggA T ty)) (decOpd T a)
noncomputable def vNilCheck (x : Operand) : DV := DOp.rec (motive := fun _ => DV) (fun f => .mk fun t _ _ k => f t fun a => nonNil a k (.err 66)) (decOpd T x)
noncomputable def fieldOff (st : TypeId) (f : Nat) : Option (TypeId × Nat) := match T.under st with
  | some (.struct fields) => match fields[f]? with
    | some f => some (f.type, f.offset)
    | none => none
  | _ => none
noncomputable def vFieldAddr (st : TypeId) (x : Operand) (f : Nat) : DV := DOp.rec (motive := fun _ => DV) (fun fx => Option.rec (motive := fun _ => DV) (vErr 72)
  (fun p => Prod.rec (motive := fun _ => DV) (fun ty o => R.rec (motive := fun _ => DV) (fun n => Bool.rec (motive := fun _ => DV)
    (forceN o fun o => .mk fun t _ _ k => fx t fun a => asPtr a (fun v off => fN (Nat.add off o) fun off => k (.ptr v off)) (.err 72)) (vErr 71) (Nat.beq n 0)) (fun e => vErr e) (sizeA T ty)) p) (fieldOff T st f)) (decOpd T x)
noncomputable def vField (st : TypeId) (x : Operand) (f : Nat) : DV := DOp.rec (motive := fun _ => DV) (fun fx => Option.rec (motive := fun _ => DV) (vErr 74)
  (fun p => Prod.rec (motive := fun _ => DV) (fun ty o => forceN o fun o => R.rec (motive := fun _ => DV) (fun b => Bool.rec (motive := fun _ => DV)
    (.mk fun t _ _ k => fx t fun a => asAgg a (fun cs => nthK o cs k (.err 21)) (.err 74))
    (R.rec (motive := fun _ => DV) (fun n => forceN n fun n => .mk fun t _ _ k => fx t fun a => asAgg a (fun cs => dropK o cs fun l => takeK n l (fun l => k (.agg l)) (.err 20)) (.err 74)) (fun e => vErr e) (sizeA T ty)) b)
    (fun e => vErr e) (isAggA T ty)) p) (fieldOff T st f)) (decOpd T x)
noncomputable def vExtract (tu : Operand) (i : Nat) : DV := DOp.rec (motive := fun _ => DV) (fun f => .mk fun t _ _ k => f t fun a => asTuple a (fun vs => nthK i vs k (.err 103)) (.err 104)) (decOpd T tu)
inductive IxT where
  | arr (n sz : Nat) (e : TypeId)
  | sl (sz : Nat)
  | str
  | bad
noncomputable def ixT (ty : TypeId) : IxT := match T.under ty with
  | some (.array n e) => (match sizeA T e with | .ok sz => forceN n fun n => forceN sz fun sz => .arr n sz e | .err _ => .bad)
  | some (.slice e) => (match sizeA T e with | .ok sz => forceN sz fun sz => .sl sz | .err _ => .bad)
  | some .string => .str
  | _ => .bad
noncomputable def vIndexAddr (ty : TypeId) (x i : Operand) : DV := DOp.rec (motive := fun _ => DV) (fun fx => DOp.rec (motive := fun _ => DV) (fun fi => IxT.rec (motive := fun _ => DV)
  (fun n sz _ => .mk fun t _ _ k => fx t fun x => fi t fun i => asNat i (fun i => asPtr x (fun v off => Bool.rec (motive := fun _ => RR) (.err 76) (fN (Nat.add off (Nat.mul i sz)) fun off => k (.ptr v off)) (Nat.blt i n)) (.err 78)) (.err 79))
  (fun sz => .mk fun t _ _ k => fx t fun x => fi t fun i => asNat i (fun i => asSl x (fun v off len => Bool.rec (motive := fun _ => RR) (.err 77) (fN (Nat.add off (Nat.mul i sz)) fun off => k (.ptr v off)) (Nat.blt i len)) (.err 78)) (.err 79))
  (vErr 78) (vErr 78) (ixT T ty)) (decOpd T i)) (decOpd T x)
noncomputable def vIndex (ty : TypeId) (x i : Operand) : DV := DOp.rec (motive := fun _ => DV) (fun fx => DOp.rec (motive := fun _ => DV) (fun fi => IxT.rec (motive := fun _ => DV)
  (fun n sz e => R.rec (motive := fun _ => DV) (fun b => Bool.rec (motive := fun _ => DV)
    (.mk fun t _ _ k => fx t fun x => fi t fun i => asNat i (fun i => asAgg x (fun cs => Bool.rec (motive := fun _ => RR) (.err 80) (nthK (Nat.mul i sz) cs k (.err 21)) (Nat.blt i n)) (.err 82)) (.err 83))
    (.mk fun t _ _ k => fx t fun x => fi t fun i => asNat i (fun i => asAgg x (fun cs => Bool.rec (motive := fun _ => RR) (.err 80) (dropK (Nat.mul i sz) cs fun l => takeK sz l (fun l => k (.agg l)) (.err 20)) (Nat.blt i n)) (.err 82)) (.err 83)) b) (fun e => vErr e) (isAggA T e))
  (fun _ => vErr 82)
  (.mk fun t _ _ k => fx t fun x => fi t fun i => asNat i (fun i => asStr x (fun l => nthB i l (fun c => k (.int .u8 (.ofNat c))) (.err 81)) (.err 82)) (.err 83))
  (vErr 82) (ixT T ty)) (decOpd T i)) (decOpd T x)
noncomputable def slowBin (op : BinOp) (ty : TypeId) (x y : Operand) (a b : AV) (h : Tr AObj) (nx : Nat) (k : KA) : RR :=
  R.rec (motive := fun _ => RR) (fun out => Out.rec (motive := fun _ => RR) (fun v _ => fA v k) (fun _ => .err 200) (fun _ _ _ => .err 200) (fun _ _ => .err 200) (fun _ _ => .err 200) (fun _ => .err 200) (.err 200) out) (fun e => .err e) (binA T ⟨h, nx⟩ op ty x y a b)
inductive BinT where
  | int (k : IntKind)
  | shift (k : IntKind)
  | str
  | other
noncomputable def binT (op : BinOp) (ty : TypeId) : BinT := match T.under ty with
  | some (.int k) => bif isShift op then .shift k else .int k
  | some .string => .str
  | _ => .other
noncomputable def vBin (op : BinOp) (ty : TypeId) (x y : Operand) : DV := DOp.rec (motive := fun _ => DV) (fun fx => DOp.rec (motive := fun _ => DV) (fun fy => BinT.rec (motive := fun _ => DV)
  (fun kd => DKind.rec (motive := fun _ => DV) (fun q => DInt.rec (motive := fun _ => DV) (fun fi => .mk fun t h nx k => fx t fun a => fy t fun b => (fun e : RR => q a (fun m => q b (fun n => fi m n k e) e) e) (slowBin T op ty x y a b h nx k)) (decInt op kd)) (decKind kd))
  (fun kd => DKind.rec (motive := fun _ => DV) (fun q => DInt.rec (motive := fun _ => DV) (fun fi => .mk fun t h nx k => fx t fun a => fy t fun b => (fun e : RR => q a (fun m => asNat b (fun n => fi m n k e) e) e) (slowBin T op ty x y a b h nx k)) (decShift op kd)) (decKind kd))
  (.mk fun t h nx k => fx t fun a => fy t fun b => (fun e : RR => asStr a (fun m => asStr b (fun n => strF op m n k e) e) e) (slowBin T op ty x y a b h nx k))
  (.mk fun t h nx k => fx t fun a => fy t fun b => slowBin T op ty x y a b h nx k) (binT T op ty)) (decOpd T y)) (decOpd T x)
noncomputable def slowConv (src dst : TypeId) (a : AV) (h : Tr AObj) (nx : Nat) (k : KN) (p : AV → (Tm → RR) → RR) (d : List ADef) (r : Bool) : RR :=
  R.rec (motive := fun _ => RR) (fun out => Out.rec (motive := fun _ => RR) (fun v st => St.rec (motive := fun _ => RR) (fun h nx => fT h fun h => fN nx fun nx => fA v fun v => p v fun t => k t h nx d r) st)
    (fun _ => .err 200) (fun _ _ _ => .err 200) (fun _ _ => .err 200) (fun _ _ => .err 200) (fun _ => .err 200) (.err 200) out) (fun e => .err e) (convA T ⟨h, nx⟩ src dst a)
noncomputable def convT (src dst : TypeId) : Option IntKind := match T.under src, T.under dst with
  | some (.int _), some (.int k) => some k
  | _, _ => none
noncomputable def boundK (f : Option Operand) (t : Tm) (dflt hi : Nat) (k : Nat → RR) : RR := Option.rec (motive := fun _ => RR) (k dflt)
  (fun x => DOp.rec (motive := fun _ => RR) (fun g => g t fun a => asNat a (fun n => Bool.rec (motive := fun _ => RR) (.err 16) (k n) (Nat.ble n hi)) (.err 17)) (decOpd T x)) f
noncomputable def isStrTy (ty : TypeId) : Bool := match T.under ty with
  | some .string => true
  | _ => false
noncomputable def vSliceStr (x : Operand) (lo hi : Option Operand) : DV := DOp.rec (motive := fun _ => DV) (fun fx =>
  .mk fun t _ _ k => fx t fun x => asStr x (fun l => fN (lenB l) fun n => boundK T hi t n n fun h => boundK T lo t 0 h fun lo => dropB lo l fun l => takeB (Nat.sub h lo) l fun l => k (.string ⟨⟨l⟩⟩)) (.err 19)) (decOpd T x)
inductive LenT where
  | str
  | sl
  | arr (n : Nat)
  | other
noncomputable def lenT (ty : Option TypeId) : LenT := match ty with
  | some t => match T.under t with
    | some .string => .str
    | some (.slice _) => .sl
    | some (.array n _) => .arr n
    | _ => .other
  | none => .other
noncomputable def vInt (n : Nat) (k : KA) : RR := fN n fun n => k (.int .i64 (.ofNat n))
noncomputable def vNot (x : Operand) : DV := DOp.rec (motive := fun _ => DV) (fun f => .mk fun t _ _ k => f t fun a => asBool a (k (.bool false)) (k (.bool true)) (.err 33)) (decOpd T x)

/-! steps -/
variable (nt : Nat) (all : Array Oper) (o : Oper)
noncomputable def sGen : DStep := .mk fun rec cx t h nx d r k => oneA T rec cx all o ⟨t, ⟨h, nx⟩, d, r⟩ (frk k)
noncomputable def sVal (v : DV) : DStep := DV.rec (motive := fun _ => DStep) (fun fv => DPut.rec (motive := fun _ => DStep) (fun p =>
  .mk fun _ _ t h nx d r k => fv t h nx fun v => p v t fun t => k t h nx d r) (decPut nt o.dst)) v
noncomputable def sMove (x : Operand) : DStep := DOp.rec (motive := fun _ => DStep) (fun f => DPut.rec (motive := fun _ => DStep) (fun p =>
  .mk fun _ _ t h nx d r k => f t fun v => p v t fun t => k t h nx d r) (decPut nt o.dst)) (decOpd T x)
/-- by the operation's own answer -/
noncomputable def outE : Out → (AV → St → RR) → (St → RR) → (Out → RR) → RR := Out.rec (motive := fun _ => (AV → St → RR) → (St → RR) → (Out → RR) → RR)
  (fun v st kv _ _ => kv v st) (fun st _ ks _ => ks st) (fun f args st _ _ ko => ko (.enter f args st)) (fun l args _ _ ko => ko (.round l args)) (fun f args _ _ ko => ko (.defer f args)) (fun v _ _ ko => ko (.panic v)) (fun _ _ ko => ko .recover)
noncomputable def stE : St → (Tr AObj → Nat → RR) → RR := St.rec (motive := fun _ => (Tr AObj → Nat → RR) → RR) (fun h nx k => fT h fun h => fN nx fun nx => k h nx)
noncomputable def outF (dst : Option Tmp) (p : AV → Tm → (Tm → RR) → RR) (rec : Rec) (cx : Cx) (t : Tm) (h : Tr AObj) (nx : Nat) (d : List ADef) (r : Bool) (k : KN) (x : R Out) : RR := R.rec (motive := fun _ => RR) (fun out => outE out
    (fun v st => stE st fun h nx => fA v fun v => p v t fun t => k t h nx d r)
    (fun st => stE st fun h nx => p undefA t fun t => k t h nx d r)
    (fun out => onOut rec cx dst ⟨t, ⟨h, nx⟩, d, r⟩ (frk k) out)) (fun e => .err e) x
noncomputable def sOut (g : St → Tm → R Out) : DStep := DPut.rec (motive := fun _ => DStep) (fun p => .mk fun rec cx t h nx d r k => outF o.dst p rec cx t h nx d r k (g ⟨h, nx⟩ t)) (decPut nt o.dst)
noncomputable def sOut0 (g : St → R Out) : DStep := DPut.rec (motive := fun _ => DStep) (fun p => .mk fun rec cx t h nx d r k => outF o.dst p rec cx t h nx d r k (g ⟨h, nx⟩)) (decPut nt o.dst)
noncomputable def sOut1 (x : Operand) (g : St → AV → R Out) : DStep := DPut.rec (motive := fun _ => DStep) (fun p => DOp.rec (motive := fun _ => DStep) (fun fx => .mk fun rec cx t h nx d r k => fx t fun x => outF o.dst p rec cx t h nx d r k (g ⟨h, nx⟩ x)) (decOpd T x)) (decPut nt o.dst)
noncomputable def sOut2 (x y : Operand) (g : St → AV → AV → R Out) : DStep := DPut.rec (motive := fun _ => DStep) (fun p => DOp.rec (motive := fun _ => DStep) (fun fx => DOp.rec (motive := fun _ => DStep) (fun fy => .mk fun rec cx t h nx d r k => fx t fun x => fy t fun y => outF o.dst p rec cx t h nx d r k (g ⟨h, nx⟩ x y)) (decOpd T y)) (decOpd T x)) (decPut nt o.dst)
noncomputable def sOutL (x : Operand) (l : List Operand) (g : St → AV → List AV → R Out) : DStep := DPut.rec (motive := fun _ => DStep) (fun p => DOp.rec (motive := fun _ => DStep) (fun fx => DOps.rec (motive := fun _ => DStep) (fun fl => .mk fun rec cx t h nx d r k => fx t fun x => fl t fun l => outF o.dst p rec cx t h nx d r k (g ⟨h, nx⟩ x l)) (decOpds T l)) (decOpd T x)) (decPut nt o.dst)
inductive DParts where | mk (f : Tm → (List (Nat × AV) → RR) → RR)
noncomputable def decParts (l : List (Nat × Operand)) : DParts := List.rec (motive := fun _ => DParts) (.mk fun _ k => k [])
  (fun x _ ih => Prod.rec (motive := fun _ => DParts) (fun i x => DOp.rec (motive := fun _ => DParts) (fun f => .mk fun t k => f t fun a => DParts.rec (motive := fun _ => RR) (fun g => g t fun l => k ((i, a) :: l)) ih) (decOpd T x)) x) l
noncomputable def sOutP (l : List (Nat × Operand)) (g : St → List (Nat × AV) → R Out) : DStep := DPut.rec (motive := fun _ => DStep) (fun p => DParts.rec (motive := fun _ => DStep) (fun fl => .mk fun rec cx t h nx d r k => fl t fun l => outF o.dst p rec cx t h nx d r k (g ⟨h, nx⟩ l)) (decParts T l)) (decPut nt o.dst)
noncomputable def optK (f : Option Operand) (t : Tm) (k : Option AV → RR) : RR := Option.rec (motive := fun _ => RR) (k none) (fun x => DOp.rec (motive := fun _ => RR) (fun g => g t fun a => k (some a)) (decOpd T x)) f
noncomputable def sSlice (ty : TypeId) (x : Operand) (lo hi : Option Operand) : DStep := DPut.rec (motive := fun _ => DStep) (fun p => DOp.rec (motive := fun _ => DStep) (fun fx => .mk fun rec cx t h nx d r k => fx t fun x => optK T lo t fun lo => optK T hi t fun hi => outF o.dst p rec cx t h nx d r k ((sliceA T ty x lo hi).bind fun v => .ok (.val v ⟨h, nx⟩))) (decOpd T x)) (decPut nt o.dst)
noncomputable def stK (n v off : Nat) (x : AV) (h : Tr AObj) (k : Tr AObj → RR) : RR := Bool.rec (motive := fun _ => RR)
  (cellsK x (fun cs => Bool.rec (motive := fun _ => RR) (.err 14) (Bool.rec (motive := fun _ => RR) (.err 11) (hgetK (pth v) h (.err 10) fun ob => asCells ob (fun l e x => owK off l cs (fun l => hsetK (pth v) h (.cells l e x) k) (.err 9)) (.err 10)) (allSingle cs)) (Nat.beq (lenB cs) n))
    (Bool.rec (motive := fun _ => RR) (.err 14) (oneCell x (hgetK (pth v) h (.err 10) fun ob => asCells ob (fun l e b => owK off l [x] (fun l => hsetK (pth v) h (.cells l e b) k) (.err 9)) (.err 10)) (.err 11)) (Nat.beq 1 n)))
  (.err 8) (Nat.blt v 1000)
noncomputable def sStore (ty : TypeId) (a x : Operand) : DStep := DOp.rec (motive := fun _ => DStep) (fun fa => DOp.rec (motive := fun _ => DStep) (fun fx => R.rec (motive := fun _ => DStep) (fun n => forceN n fun n =>
  DPut.rec (motive := fun _ => DStep) (fun p => .mk fun _ _ t h nx d r k => fa t fun a => fx t fun x => asPtr a (fun v off => stK n v off x h fun h => p undefA t fun t => k t h nx d r) (.err 15)) (decPut nt o.dst))
  (fun e => .mk fun _ _ _ _ _ _ _ _ => .err e) (sizeA T ty)) (decOpd T x)) (decOpd T a)
noncomputable def hasBody (f : FuncId) : Bool := match T.func f with
  | some fn => (match fn.body with | some _ => true | none => false)
  | none => false
/-- what comes back from a call -/
noncomputable def backK (t : Tm) (d : List ADef) (r : Bool) (p : AV → Tm → (Tm → RR) → RR) (k : KN) (x : RR) : RR := R.rec (motive := fun _ => RR) (fun res => Res.rec (motive := fun _ => RR) (fun _ _ => .err 138)
  (fun v st _ => St.rec (motive := fun _ => RR) (fun h nx => p v t fun t => k t h nx d r) st) (fun v st _ => .ok (.ext (.panic v) ⟨t, st, d, r⟩)) res) (fun e => .err e) x
noncomputable def sCall (f : FuncId) (args : List Operand) : DStep := DOps.rec (motive := fun _ => DStep) (fun g => DPut.rec (motive := fun _ => DStep) (fun p =>
  .mk fun rec _ t h nx d r k => g t fun args => backK t d r p k (rec (.call f args ⟨h, nx⟩ none))) (decPut nt o.dst)) (decOpds T args)
noncomputable def sLen (ts : Array TypeId) (x : Operand) : DStep := LenT.rec (motive := fun _ => DStep)
  (sVal nt o (DOp.rec (motive := fun _ => DV) (fun f => .mk fun t _ _ k => f t fun a => asStr a (fun l => vInt (lenB l) k) (.err 107)) (decOpd T x)))
  (sVal nt o (DOp.rec (motive := fun _ => DV) (fun f => .mk fun t _ _ k => f t fun a => lenSl a (fun n => k (.int .i64 (.ofNat n))) (.err 107)) (decOpd T x)))
  (fun n => sVal nt o (DOp.rec (motive := fun _ => DV) (fun f => .mk fun t _ _ k => f t fun _ => vInt n k) (decOpd T x)))
  (sOut1 T nt o x fun s x => opLen T s ts[0]? x) (lenT T ts[0]?)
noncomputable def sConv (src dst : TypeId) (x : Operand) : DStep := DOp.rec (motive := fun _ => DStep) (fun f => DPut.rec (motive := fun _ => DStep) (fun p => Option.rec (motive := fun _ => DStep)
  (.mk fun _ _ t h nx d r k => f t fun a => slowConv T src dst a h nx k (fun v kt => p v t kt) d r)
  (fun kd => .mk fun _ _ t h nx d r k => f t fun a => asNat a (fun n => wrapK kd n (fun n => p (.int kd (.ofNat n)) t fun t => k t h nx d r) (slowConv T src dst a h nx k (fun v kt => p v t kt) d r)) (slowConv T src dst a h nx k (fun v kt => p v t kt) d r))
  (convT T src dst)) (decPut nt o.dst)) (decOpd T x)
noncomputable def isFn : Operand → Option FuncId
  | .func f => some f
  | _ => none
noncomputable def sCallee (c : Call) : DStep := Callee.rec (motive := fun _ => DStep)
  (fun f => Option.rec (motive := fun _ => DStep) (sOutL T nt o f c.args.toList fun s f args => callV T s f args)
    (fun fid => Bool.rec (motive := fun _ => DStep) (sOutL T nt o f c.args.toList fun s f args => callV T s f args) (sCall T nt o fid c.args.toList) (hasBody T fid)) (isFn f))
  (fun _ _ => sGen T all o)
  (fun b => match b, c.args.toList with
    | .len, [x] => sLen T nt o c.argTypes x
    | .append, [x, y] => sOut2 T nt o x y fun s x y => opAppend T s c.argTypes[0]? c.argTypes[1]? x y
    | b, args => sOut nt o fun s t => callB T s t b args c.argTypes o.type) c.callee
noncomputable def sBase : DStep := Op.rec (motive := fun _ => DStep)
  (fun x => sMove T nt o x) (fun x => sMove T nt o x) (fun c a b => sVal nt o (vPick T c a b))
  (fun elem => sOut0 nt o fun s => opAlloc T s elem)
  (fun elem x => sOut1 T nt o x fun s x => opBox s elem x)
  (fun ty parts => sOutP T nt o parts.toList fun s ps => opBuild T s ty ps)
  (fun ty len parts => sOutP T nt o parts.toList fun s ps => opBuildSlice T s ty len ps)
  (fun _ _ _ _ => sGen T all o)
  (fun ty a => sVal nt o (vLoad T ty a)) (fun ty a x => sStore T nt o ty a x)
  (fun _ => sGen T all o) (fun _ => sGen T all o)
  (fun x => sVal nt o (vNilCheck T x))
  (fun op ty x y _ => sVal nt o (vBin T op ty x y))
  (fun op _ x => match op with | .not => sVal nt o (vNot T x) | op => sOut1 T nt o x fun s x => (opt 33 (toV x)).bind fun v => pureV T s (Op.unary op v))
  (fun src dst x => sConv T nt o src dst x)
  (fun _ _ => sGen T all o)
  (fun ty x => sOut1 T nt o x fun s x => opMakeInterface T s ty x)
  (fun fn a b => sOut nt o fun s t => opMakeFunc T s t fn a.toList b.toList)
  (fun _ _ => sGen T all o) (fun _ _ => sGen T all o)
  (fun ty l c => sOut2 T nt o l c fun s l c => opMakeSlice T s ty l c)
  (fun ty x lo hi mx => Option.rec (motive := fun _ => DStep) (Bool.rec (motive := fun _ => DStep) (sSlice T nt o ty x lo hi) (sVal nt o (vSliceStr T x lo hi)) (isStrTy T ty)) (fun _ => sGen T all o) mx)
  (fun st x f => sVal nt o (vFieldAddr T st x f))
  (fun st x f => sVal nt o (vField T st x f))
  (fun ty x i => sVal nt o (vIndexAddr T ty x i))
  (fun ty x i => sVal nt o (vIndex T ty x i))
  (fun _ _ _ _ => sGen T all o) (fun _ _ _ _ => sGen T all o) (fun _ _ _ => sGen T all o) (fun _ _ _ _ => sGen T all o)
  (fun ty x => sOut1 T nt o x fun s x => opRange T s ty x)
  (fun it b => Bool.rec (motive := fun _ => DStep) (sGen T all o) (sOut1 T nt o it fun s it => opNext s it) b)
  (fun _ => sGen T all o) (fun _ _ _ _ => sGen T all o)
  (fun tu i => sVal nt o (vExtract T tu i))
  (fun c => sCallee T nt all o c)
  (fun _ => sGen T all o) (fun _ => sGen T all o) (fun _ => sGen T all o) (fun _ _ => sGen T all o) (fun _ _ _ => sGen T all o) (fun _ _ => sGen T all o) o.op
noncomputable def guardOf (g : Nat) : Option Tmp := match all[g]? with
  | some p => p.dst
  | none => none
noncomputable def decStep : DStep := Option.rec (motive := fun _ => DStep) (sBase T nt all o)
  (fun gw => Prod.rec (motive := fun _ => DStep) (fun g want => DPut.rec (motive := fun _ => DStep) (fun p => Option.rec (motive := fun _ => DStep)
    (.mk fun _ _ t h nx d r k => p undefA t fun t => k t h nx d r)
    (fun dg => DStep.rec (motive := fun _ => DStep) (fun f => Slot.rec (motive := fun _ => DStep) (fun gt _ => Bool.rec (motive := fun _ => DStep)
      (.mk fun rec cx t h nx d r k => gt t fun v => asBool v (p undefA t fun t => k t h nx d r) (f rec cx t h nx d r k) (p undefA t fun t => k t h nx d r))
      (.mk fun rec cx t h nx d r k => gt t fun v => asBool v (f rec cx t h nx d r k) (p undefA t fun t => k t h nx d r) (p undefA t fun t => k t h nx d r)) want) (slot dg)) (sBase T nt all o))
    (guardOf all g)) (decPut nt o.dst)) gw) o.guard
end

section
variable (T : Tab)
noncomputable def decOps (nt : Nat) (all : Array Oper) (l : List Oper) : DStep := List.rec (motive := fun _ => DStep) (.mk fun _ _ t h nx d r k => k t h nx d r)
  (fun o _ ih => DStep.rec (motive := fun _ => DStep) (fun f => .mk fun rec cx t h nx d r k => f rec cx t h nx d r fun t h nx d r => DStep.rec (motive := fun _ => RR) (fun g => g rec cx t h nx d r k) ih) (decStep T nt all o)) l

noncomputable def resK (kn : KN) (kx : Ext → KN) (x : RR) : RR := R.rec (motive := fun _ => RR) (fun res => Res.rec (motive := fun _ => RR)
  (fun e fr => Ext.rec (motive := fun _ => RR) (frk kn fr) (fun id => frk (kx (.exit id)) fr) (fun l => frk (kx (.goto l)) fr) (frk (kx .ret) fr) (fun v => .ok (.ext (.panic v) fr)) e)
  (fun _ _ _ => .err 138) (fun _ _ _ => .err 138) res) (fun e => .err e) x
noncomputable def exitIs (id : Nat) : Ext → Bool := Ext.rec (motive := fun _ => Bool) false (fun i => Nat.beq i id) (fun _ => false) false (fun _ => false)
noncomputable def decC (nt : Nat) (c : Code) : DC := Code.rec (motive := fun _ => DC)
  (.mk fun _ _ t h nx d r kn _ => kn t h nx d r)
  (fun _ ops draw => Bool.rec (motive := fun _ => DC) (DStep.rec (motive := fun _ => DC) (fun g => .mk fun rec cx t h nx d r kn _ => g rec cx t h nx d r kn) (decOps T nt ops ops.toList))
    (.mk fun rec cx t h nx d r kn kx => resK kn kx (doRegion rec cx ops true ⟨t, ⟨h, nx⟩, d, r⟩)) draw)
  (fun _ _ iha ihb => DC.rec (motive := fun _ => DC) (fun f => .mk fun rec cx t h nx d r kn kx => f rec cx t h nx d r (fun t h nx d r => DC.rec (motive := fun _ => RR) (fun g => g rec cx t h nx d r kn kx) ihb) kx) iha)
  (fun c _ _ iha ihb => DOp.rec (motive := fun _ => DC) (fun fc => .mk fun rec cx t h nx d r kn kx => fc t fun v => asBool v (DC.rec (motive := fun _ => RR) (fun g => g rec cx t h nx d r kn kx) iha) (DC.rec (motive := fun _ => RR) (fun g => g rec cx t h nx d r kn kx) ihb) (.err 130)) (decOpd T c))
  (fun id _ ih => DC.rec (motive := fun _ => DC) (fun f => .mk fun rec cx t h nx d r kn kx => f rec cx t h nx d r kn fun e t h nx d r => Bool.rec (motive := fun _ => RR) (kx e t h nx d r) (kn t h nx d r) (exitIs id e)) ih)
  (fun c ih => DC.rec (motive := fun _ => DC) (fun f => .mk fun rec cx t h nx d r kn kx => f rec cx t h nx d r (fun t h nx d r => resK kn kx (rec (.again cx c ⟨t, ⟨h, nx⟩, d, r⟩))) kx) ih)
  (fun f ps a b _ _ => .mk fun rec cx t h nx d r kn kx => resK kn kx (doRangeFunc T rec cx f ps a b ⟨t, ⟨h, nx⟩, d, r⟩))
  (fun id => .mk fun _ _ t h nx d r _ kx => kx (.exit id) t h nx d r)
  (fun c _ => .mk fun rec cx t h nx d r kn kx => resK kn kx (rec (.scope cx c c ⟨t, ⟨h, nx⟩, d, r⟩)))
  (fun _ => .mk fun _ _ t h nx d r kn _ => kn t h nx d r)
  (fun l => .mk fun _ _ t h nx d r _ kx => kx (.goto l) t h nx d r)
  (.mk fun _ _ t h nx d r _ kx => kx .ret t h nx d r)
  (fun _ => .mk fun _ _ _ _ _ _ _ _ _ => .err 137) c

/-! calls -/
inductive DRes where | mk (f : Tm → Tr AObj → Nat → KA → RR)
noncomputable def resTmps : List ResultVar → Option (List Operand)
  | [] => some []
  | .tmp i :: l => (match resTmps l with | some r => some (.tmp i :: r) | none => none)
  | .cell .. :: _ => none
noncomputable def one (l : List AV) (k : KA) : RR := List.rec (motive := fun _ => RR) (k (.tuple [])) (fun a m _ => List.rec (motive := fun _ => RR) (k a) (fun b m _ => k (.tuple (a :: b :: m))) m) l
noncomputable def decRes (l : List ResultVar) : DRes := Option.rec (motive := fun _ => DRes)
  (.mk fun t h nx k => R.rec (motive := fun _ => RR) (fun l => fL l fun l => one l k) (fun e => .err e) (resultsA T ⟨h, nx⟩ t l))
  (fun l => DOps.rec (motive := fun _ => DRes) (fun f => .mk fun t _ _ k => f t fun l => one l k) (decOpds T l)) (resTmps l)
inductive DF where
  | mk (nt : Nat) (fn : Func) (f : Rec → Cx → Tm → Tr AObj → Nat → List ADef → Bool → KN → (Ext → KN) → RR) (res : Tm → Tr AObj → Nat → KA → RR)
  | bad
noncomputable def decF (f : FuncId) : DF := Option.rec (motive := fun _ => DF) .bad (fun fn => Option.rec (motive := fun _ => DF) .bad
  (fun c => forceN fn.ntmps fun nt => DC.rec (motive := fun _ => DF) (fun g => DRes.rec (motive := fun _ => DF) (fun q => .mk nt fn g q) (decRes T fn.results.toList)) (decC T nt c)) fn.body) (T.func f)
noncomputable def argsK : List AV → Nat → Tm → (Tm → RR) → RR := List.rec (motive := fun _ => Nat → Tm → (Tm → RR) → RR)
  (fun _ t k => k t) (fun a _ ih i t k => Slot.rec (motive := fun _ => RR) (fun _ s => s a t fun t => ih (Nat.succ i) t k) (slot i))
noncomputable def leaveK (rec : Rec) (cx : Cx) (fn : Func) (x : RR) : RR := R.rec (motive := fun _ => RR) (fun res => Res.rec (motive := fun _ => RR)
  (fun e fr => Ext.rec (motive := fun _ => RR) (.err 143) (fun _ => .err 143) (fun _ => .err 143) (rec (.leave cx fn none fr)) (fun v => rec (.leave cx fn (some v) fr)) e)
  (fun v st rc => .ok (.ret v st rc)) (fun _ _ _ => .err 143) res) (fun e => .err e) x
noncomputable def finK (q : Tm → Tr AObj → Nat → KA → RR) : KN := fun t h nx d r => List.rec (motive := fun _ => RR) (q t h nx fun v => .ok (.ret v ⟨h, nx⟩ r)) (fun _ _ _ => .ok (.ext .ret ⟨t, ⟨h, nx⟩, d, r⟩)) d
noncomputable def retK (q : Tm → Tr AObj → Nat → KA → RR) : Ext → KN := Ext.rec (motive := fun _ => KN) (fun _ _ _ _ _ => .err 143) (fun _ _ _ _ _ _ => .err 143) (fun _ _ _ _ _ _ => .err 143) (finK q) (fun _ _ _ _ _ _ => .err 143)
noncomputable def callF (rec : Rec) (f : FuncId) (args : List AV) (h : Tr AObj) (nx : Nat) (pan : Option AV) : RR := DF.rec (motive := fun _ => RR)
  (fun nt fn g q => Bool.rec (motive := fun _ => RR) (.err 141) (argsK args 0 Tm.nil fun t => leaveK rec ⟨f, nt, none, pan⟩ fn (g rec ⟨f, nt, none, pan⟩ t h nx [] false (finK q) (retK q))) (Nat.ble (lenB args) nt))
  (.err 141) (decF T f)

/-! what a drawn operation leaves for the end's look -/
inductive DNote where | mk (f : Nat → Tm → Tr AObj → Nat → List ADef → Bool → Tm → Tr AObj → Nat → List ADef → Bool → List Ld → List (Nat × St × St) → (List Ld → List (Nat × St × St) → RR) → RR)
noncomputable def loadOf : Op → Option (TypeId × Operand)
  | .load ty a => some (ty, a)
  | _ => none
noncomputable def decNote (all : Array Oper) (o : Oper) : DNote := Option.rec (motive := fun _ => DNote)
  (Option.rec (motive := fun _ => DNote) (Bool.rec (motive := fun _ => DNote)
      (.mk fun i _ h nx _ _ _ h' nx' _ _ lds sn k => k lds ((i, ⟨h, nx⟩, ⟨h', nx'⟩) :: sn))
      (.mk fun _ _ _ _ _ _ _ _ _ _ _ lds sn k => k lds sn) (isPure T o.op))
    (fun ta => Prod.rec (motive := fun _ => DNote) (fun ty a => DOp.rec (motive := fun _ => DNote) (fun fa => DV.rec (motive := fun _ => DNote) (fun fv =>
      .mk fun i t h nx _ _ _ _ _ _ _ lds sn k => fa t fun a => fv t h nx fun v => k (⟨i, ty, a, v⟩ :: lds) sn) (vLoad T ty a)) (decOpd T a)) ta) (loadOf o.op))
  (fun _ => .mk fun i t h nx d r t' h' nx' d' r' lds sn k => noteDraw T all i o ⟨t, ⟨h, nx⟩, d, r⟩ ⟨t', ⟨h', nx'⟩, d', r'⟩ lds sn k) o.guard
noncomputable def drawF (rec : Rec) (cx : Cx) (all : Array Oper) (i : Nat) (l : List Oper) (fr : Fr) (lds : List Ld) (sn : List (Nat × St × St)) : RR := List.rec (motive := fun _ => RR) (drawEnd T all fr lds sn)
  (fun o l _ => Cx.rec (motive := fun _ => RR) (fun fn nt rd pan => Fr.rec (motive := fun _ => RR) (fun t st d r => St.rec (motive := fun _ => RR) (fun h nx =>
    DStep.rec (motive := fun _ => RR) (fun f => f rec ⟨fn, nt, rd, pan⟩ t h nx d r fun t' h' nx' d' r' => DNote.rec (motive := fun _ => RR) (fun q => q i t h nx d r t' h' nx' d' r' lds sn fun lds sn => fN (Nat.succ i) fun i => rec (.draw ⟨fn, nt, rd, pan⟩ all i l ⟨t', ⟨h', nx'⟩, d', r'⟩ lds sn)) (decNote T all o))
    (decStep T nt all o)) st) fr) cx) l

noncomputable def codeF (rec : Rec) (cx : Cx) (c : Code) (fr : Fr) (kn : KN) : RR := Cx.rec (motive := fun _ => RR) (fun fn nt rd pan => Fr.rec (motive := fun _ => RR) (fun t st d r => St.rec (motive := fun _ => RR) (fun h nx =>
    DC.rec (motive := fun _ => RR) (fun f => f rec ⟨fn, nt, rd, pan⟩ t h nx d r kn fun e t h nx d r => .ok (.ext e ⟨t, ⟨h, nx⟩, d, r⟩)) (decC T nt c)) st) fr) cx

noncomputable def forceRes (x : RR) : RR := R.rec (motive := fun _ => RR) (fun res => Res.rec (motive := fun _ => RR) (fun e fr => .ok (.ext e fr))
  (fun v st rc => fA v fun v => forceS st fun st => Bool.rec (motive := fun _ => RR) (.ok (.ret v st false)) (.ok (.ret v st true)) rc) (fun v st rc => .ok (.pan v st rc)) res) (fun e => .err e) x

/-- calls that are known: their answers are theorems of their own -/
noncomputable def knownK : List (List AV × AV) → List AV → KA → RR → RR := List.rec (motive := fun _ => List AV → KA → RR → RR) (fun _ _ e => e)
  (fun p _ ih args k e => Prod.rec (motive := fun _ => RR) (fun as v => Bool.rec (motive := fun _ => RR) (ih args k e) (k v) (beqL as args)) p)
variable (K : FuncId → List (List AV × AV))
noncomputable def taskF (rec : Rec) (t : Task) : RR := Task.rec (motive := fun _ => RR)
  (fun cx c fr => codeF T rec cx c fr fun t h nx d r => .ok (.ext .normal ⟨t, ⟨h, nx⟩, d, r⟩))
  (fun cx body c fr => doScope rec cx body c fr)
  (fun cx c fr => codeF T rec cx c fr fun t h nx d r => rec (.again cx c ⟨t, ⟨h, nx⟩, d, r⟩))
  (fun cx all l fr => doOps T rec cx all l fr)
  (fun cx all i l fr lds sn => drawF T rec cx all i l fr lds sn)
  (fun f args st pan => St.rec (motive := fun _ => RR) (fun h nx => Option.rec (motive := fun _ => RR) (knownK (K f) args (fun v => .ok (.ret v ⟨h, nx⟩ false)) (callF T rec f args h nx pan)) (fun _ => callF T rec f args h nx pan) pan) st)
  (fun cx fn p fr => forceRes (doLeave T rec cx fn p fr))
  (fun l args st => forceRes (doRound T rec l args st)) t
end

noncomputable def runF (T : Tab) (K : FuncId → List (List AV × AV)) (n : Nat) : Task → RR := Nat.rec (motive := fun _ => Task → RR) (fun _ => .err 0) (fun _ ih t => taskF T K ih t) n
end Go.Ex
