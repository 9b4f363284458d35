/- The executor: a big-step reading of the program as the model runs it, made for evaluation by the kernel, and its soundness (part ExA). -/
import GoSem.Step
import Derived.Below
import Derived.Laws.Cells
import Derived.Laws.CopyRow
set_option linter.unusedVariables false
set_option linter.unusedSimpArgs false
set_option linter.unusedSectionVars false
namespace Go.Ex
open Go

/-! ### forcing: what the kernel's reduction would carry along unevaluated -/
noncomputable def forceN {α : Type} (n : Nat) (k : Nat → α) : α := Nat.rec (motive := fun _ => α) (k 0) (fun m _ => k (Nat.succ m)) n
noncomputable def forceI {α : Type} (n : Int) (k : Int → α) : α := Int.rec (motive := fun _ => α) (fun n => forceN n fun n => k (.ofNat n)) (fun n => forceN n fun n => k (.negSucc n)) n
noncomputable def forceBytes {β : Type} (l : List UInt8) : (List UInt8 → β) → β := List.rec (motive := fun _ => (List UInt8 → β) → β) (fun k => k [])
  (fun a _ ih k => forceN (UInt8.toNat a) fun n => ih fun l => k (UInt8.ofNat n :: l)) l

inductive AV where
  | bool (b : Bool)
  | int (k : IntKind) (n : Int)
  | float (k : FloatKind) (bits : Nat)
  | string (s : ByteArray)
  | nilptr
  | ptr (v off : Nat)
  | nilslice
  | slice (v off len cap : Nat)
  | sliceU (v off len esz : Nat)
  | sliceE
  | nilmap
  | map (v : Nat)
  | func (fn : FuncId) (first captured : List AV)
  | yieldF (v : Nat)
  | nilFunc
  | iface (t : TypeId) (x : AV)
  | nilIface
  | agg (l : List AV)
  | tuple (l : List AV)
  deriving Inhabited

abbrev undefA : AV := .tuple []

noncomputable def forceA {β : Type} (a : AV) : (AV → β) → β := AV.rec (motive_1 := fun _ => (AV → β) → β) (motive_2 := fun _ => (List AV → β) → β)
  (fun b k => Bool.rec (motive := fun _ => β) (k (.bool false)) (k (.bool true)) b)
  (fun kd n k => forceI n fun n => k (.int kd n))
  (fun kd n k => forceN n fun n => k (.float kd n))
  (fun s k => ByteArray.rec (motive := fun _ => β) (fun d => Array.rec (motive := fun _ => β) (fun l => forceBytes l fun l => k (.string ⟨⟨l⟩⟩)) d) s)
  (fun k => k .nilptr)
  (fun v o k => forceN v fun v => forceN o fun o => k (.ptr v o))
  (fun k => k .nilslice)
  (fun v o n c k => forceN v fun v => forceN o fun o => forceN n fun n => forceN c fun c => k (.slice v o n c))
  (fun v o n c k => forceN v fun v => forceN o fun o => forceN n fun n => forceN c fun c => k (.sliceU v o n c))
  (fun k => k .sliceE)
  (fun k => k .nilmap)
  (fun v k => forceN v fun v => k (.map v))
  (fun f _ _ iha ihb k => iha fun a => ihb fun b => k (.func f a b))
  (fun v k => forceN v fun v => k (.yieldF v))
  (fun k => k .nilFunc)
  (fun t _ ih k => ih fun x => k (.iface t x))
  (fun k => k .nilIface)
  (fun _ ih k => ih fun l => k (.agg l))
  (fun _ ih k => ih fun l => k (.tuple l))
  (fun k => k [])
  (fun _ _ iha ihl k => iha fun a => ihl fun l => k (a :: l)) a
noncomputable def forceAs {β : Type} (l : List AV) : (List AV → β) → β := AV.rec_1 (motive_1 := fun _ => (AV → β) → β) (motive_2 := fun _ => (List AV → β) → β)
  (fun b k => Bool.rec (motive := fun _ => β) (k (.bool false)) (k (.bool true)) b)
  (fun kd n k => forceI n fun n => k (.int kd n))
  (fun kd n k => forceN n fun n => k (.float kd n))
  (fun s k => ByteArray.rec (motive := fun _ => β) (fun d => Array.rec (motive := fun _ => β) (fun l => forceBytes l fun l => k (.string ⟨⟨l⟩⟩)) d) s)
  (fun k => k .nilptr)
  (fun v o k => forceN v fun v => forceN o fun o => k (.ptr v o))
  (fun k => k .nilslice)
  (fun v o n c k => forceN v fun v => forceN o fun o => forceN n fun n => forceN c fun c => k (.slice v o n c))
  (fun v o n c k => forceN v fun v => forceN o fun o => forceN n fun n => forceN c fun c => k (.sliceU v o n c))
  (fun k => k .sliceE)
  (fun k => k .nilmap)
  (fun v k => forceN v fun v => k (.map v))
  (fun f _ _ iha ihb k => iha fun a => ihb fun b => k (.func f a b))
  (fun v k => forceN v fun v => k (.yieldF v))
  (fun k => k .nilFunc)
  (fun t _ ih k => ih fun x => k (.iface t x))
  (fun k => k .nilIface)
  (fun _ ih k => ih fun l => k (.agg l))
  (fun _ ih k => ih fun l => k (.tuple l))
  (fun k => k [])
  (fun _ _ iha ihl k => iha fun a => ihl fun l => k (a :: l)) l

mutual
noncomputable def ofV : Value → Option AV
  | .bool b => some (.bool b)
  | .int k n => some (.int k n)
  | .float k n => some (.float k n)
  | .string s => some (.string s)
  | .pointer none => some .nilptr
  | .slice none 0 0 => some .nilslice
  | .map none => some .nilmap
  | .nilFunc => some .nilFunc
  | .nilIface => some .nilIface
  | .iface t v => (ofV v).map (.iface t)
  | .agg ⟨l⟩ => (ofVs l).map .agg
  | .tuple ⟨l⟩ => (ofVs l).map .tuple
  | .func (.func f) ⟨[]⟩ ⟨[]⟩ => some (.func f [] [])
  | _ => none
noncomputable def ofVs : List Value → Option (List AV)
  | [] => some []
  | v :: l => match ofV v with
    | some a => (ofVs l).map (a :: ·)
    | none => none
end

mutual
noncomputable def toV : AV → Option Value
  | .bool b => some (.bool b)
  | .int k n => some (.int k n)
  | .float k n => some (.float k n)
  | .string s => some (.string s)
  | .nilptr => some (.pointer none)
  | .nilslice => some (.slice none 0 0)
  | .nilmap => some (.map none)
  | .nilFunc => some .nilFunc
  | .nilIface => some .nilIface
  | .iface t v => (toV v).map (.iface t)
  | .agg l => (toVs l).map fun l => .agg ⟨l⟩
  | .tuple l => (toVs l).map fun l => .tuple ⟨l⟩
  | _ => none
noncomputable def toVs : List AV → Option (List Value)
  | [] => some []
  | v :: l => match toV v with
    | some a => (toVs l).map (a :: ·)
    | none => none
end

/-! ### tries -/
inductive Tr (α : Type) where
  | nil
  | node (l : Tr α) (v : Option α) (r : Tr α)
  deriving Inhabited

noncomputable def Tr.get {α : Type} (t : Tr α) : Nat → Option α := Tr.rec (motive := fun _ => Nat → Option α) (fun _ => none)
  (fun _ v _ ihl ihr n => Bool.rec (Bool.rec (ihr (Nat.sub (Nat.div n 2) 1)) (ihl (Nat.div n 2)) (Nat.beq (Nat.mod n 2) 1)) v (Nat.beq n 0)) t
noncomputable def Tr.mkL {α : Type} (l : Tr α) (v : Option α) (r : Tr α) : Tr α :=
  Tr.rec (motive := fun _ => Tr α) (.node .nil v r) (fun a b c _ _ => .node (.node a b c) v r) l
noncomputable def Tr.mkR {α : Type} (l : Tr α) (v : Option α) (r : Tr α) : Tr α :=
  Tr.rec (motive := fun _ => Tr α) (.node l v .nil) (fun a b c _ _ => .node l v (.node a b c)) r
noncomputable def Tr.one {α : Type} (f : Nat) : Nat → Option α → Tr α := Nat.rec (motive := fun _ => Nat → Option α → Tr α) (fun _ _ => .nil)
  (fun _ ih n a => Bool.rec (Bool.rec (Tr.mkR .nil none (ih (Nat.sub (Nat.div n 2) 1) a)) (Tr.mkL (ih (Nat.div n 2) a) none .nil) (Nat.beq (Nat.mod n 2) 1)) (.node .nil a .nil) (Nat.beq n 0)) f
noncomputable def Tr.set {α : Type} (t : Tr α) : Nat → Option α → Tr α := Tr.rec (motive := fun _ => Nat → Option α → Tr α) (fun n a => Tr.one (Nat.succ n) n a)
  (fun l v r ihl ihr n a => Bool.rec (Bool.rec (Tr.mkR l v (ihr (Nat.sub (Nat.div n 2) 1) a)) (Tr.mkL (ihl (Nat.div n 2) a) v r) (Nat.beq (Nat.mod n 2) 1)) (.node l a r) (Nat.beq n 0)) t
noncomputable def Tr.put {α : Type} (t : Tr α) (n : Nat) (a : α) : Tr α := t.set n (some a)
noncomputable def Tr.del {α : Type} (t : Tr α) (n : Nat) : Tr α := t.set n none
noncomputable def forceT {α : Type} {β : Type} (t : Tr α) (k : Tr α → β) : β := Tr.rec (motive := fun _ => β) (k .nil) (fun l v r _ _ => k (.node l v r)) t

inductive W1 where
  | mk (a0 a1 a2 a3 a4 a5 a6 a7 a8 a9 a10 a11 a12 a13 a14 a15 a16 a17 : AV)
/-- a frame's temporaries: the first 324 in rows of 18, the others in a trie -/
inductive Tm where
  | mk (b0 b1 b2 b3 b4 b5 b6 b7 b8 b9 b10 b11 b12 b13 b14 b15 b16 b17 : W1) (rest : Tr AV)
noncomputable def W1.z : W1 := .mk undefA undefA undefA undefA undefA undefA undefA undefA undefA undefA undefA undefA undefA undefA undefA undefA undefA undefA
noncomputable def Tm.nil : Tm := .mk W1.z W1.z W1.z W1.z W1.z W1.z W1.z W1.z W1.z W1.z W1.z W1.z W1.z W1.z W1.z W1.z W1.z W1.z .nil
noncomputable def nthW : Nat → List AV → AV := Nat.rec (motive := fun _ => List AV → AV) (fun l => List.rec (motive := fun _ => AV) undefA (fun a _ _ => a) l) (fun _ ih l => List.rec (motive := fun _ => AV) undefA (fun _ r _ => ih r) l)
noncomputable def W1.get (w : W1) (i : Nat) : AV := W1.rec (motive := fun _ => AV) (fun a0 a1 a2 a3 a4 a5 a6 a7 a8 a9 a10 a11 a12 a13 a14 a15 a16 a17 => nthW i [a0, a1, a2, a3, a4, a5, a6, a7, a8, a9, a10, a11, a12, a13, a14, a15, a16, a17]) w
noncomputable def W1.set (w : W1) (i : Nat) (v : AV) : W1 := W1.rec (motive := fun _ => W1) (fun a0 a1 a2 a3 a4 a5 a6 a7 a8 a9 a10 a11 a12 a13 a14 a15 a16 a17 => match i with
  | 0 => .mk v a1 a2 a3 a4 a5 a6 a7 a8 a9 a10 a11 a12 a13 a14 a15 a16 a17
  | 1 => .mk a0 v a2 a3 a4 a5 a6 a7 a8 a9 a10 a11 a12 a13 a14 a15 a16 a17
  | 2 => .mk a0 a1 v a3 a4 a5 a6 a7 a8 a9 a10 a11 a12 a13 a14 a15 a16 a17
  | 3 => .mk a0 a1 a2 v a4 a5 a6 a7 a8 a9 a10 a11 a12 a13 a14 a15 a16 a17
  | 4 => .mk a0 a1 a2 a3 v a5 a6 a7 a8 a9 a10 a11 a12 a13 a14 a15 a16 a17
  | 5 => .mk a0 a1 a2 a3 a4 v a6 a7 a8 a9 a10 a11 a12 a13 a14 a15 a16 a17
  | 6 => .mk a0 a1 a2 a3 a4 a5 v a7 a8 a9 a10 a11 a12 a13 a14 a15 a16 a17
  | 7 => .mk a0 a1 a2 a3 a4 a5 a6 v a8 a9 a10 a11 a12 a13 a14 a15 a16 a17
  | 8 => .mk a0 a1 a2 a3 a4 a5 a6 a7 v a9 a10 a11 a12 a13 a14 a15 a16 a17
  | 9 => .mk a0 a1 a2 a3 a4 a5 a6 a7 a8 v a10 a11 a12 a13 a14 a15 a16 a17
  | 10 => .mk a0 a1 a2 a3 a4 a5 a6 a7 a8 a9 v a11 a12 a13 a14 a15 a16 a17
  | 11 => .mk a0 a1 a2 a3 a4 a5 a6 a7 a8 a9 a10 v a12 a13 a14 a15 a16 a17
  | 12 => .mk a0 a1 a2 a3 a4 a5 a6 a7 a8 a9 a10 a11 v a13 a14 a15 a16 a17
  | 13 => .mk a0 a1 a2 a3 a4 a5 a6 a7 a8 a9 a10 a11 a12 v a14 a15 a16 a17
  | 14 => .mk a0 a1 a2 a3 a4 a5 a6 a7 a8 a9 a10 a11 a12 a13 v a15 a16 a17
  | 15 => .mk a0 a1 a2 a3 a4 a5 a6 a7 a8 a9 a10 a11 a12 a13 a14 v a16 a17
  | 16 => .mk a0 a1 a2 a3 a4 a5 a6 a7 a8 a9 a10 a11 a12 a13 a14 a15 v a17
  | 17 => .mk a0 a1 a2 a3 a4 a5 a6 a7 a8 a9 a10 a11 a12 a13 a14 a15 a16 v
  | _ => .mk a0 a1 a2 a3 a4 a5 a6 a7 a8 a9 a10 a11 a12 a13 a14 a15 a16 a17) w
noncomputable def Tm.row (t : Tm) (i : Nat) : W1 := Tm.rec (motive := fun _ => W1) (fun b0 b1 b2 b3 b4 b5 b6 b7 b8 b9 b10 b11 b12 b13 b14 b15 b16 b17 _ => match i with
  | 0 => b0
  | 1 => b1
  | 2 => b2
  | 3 => b3
  | 4 => b4
  | 5 => b5
  | 6 => b6
  | 7 => b7
  | 8 => b8
  | 9 => b9
  | 10 => b10
  | 11 => b11
  | 12 => b12
  | 13 => b13
  | 14 => b14
  | 15 => b15
  | 16 => b16
  | 17 => b17
  | _ => W1.z) t
noncomputable def Tm.setRow (t : Tm) (i : Nat) (w : W1) : Tm := Tm.rec (motive := fun _ => Tm) (fun b0 b1 b2 b3 b4 b5 b6 b7 b8 b9 b10 b11 b12 b13 b14 b15 b16 b17 rest => match i with
  | 0 => .mk w b1 b2 b3 b4 b5 b6 b7 b8 b9 b10 b11 b12 b13 b14 b15 b16 b17 rest
  | 1 => .mk b0 w b2 b3 b4 b5 b6 b7 b8 b9 b10 b11 b12 b13 b14 b15 b16 b17 rest
  | 2 => .mk b0 b1 w b3 b4 b5 b6 b7 b8 b9 b10 b11 b12 b13 b14 b15 b16 b17 rest
  | 3 => .mk b0 b1 b2 w b4 b5 b6 b7 b8 b9 b10 b11 b12 b13 b14 b15 b16 b17 rest
  | 4 => .mk b0 b1 b2 b3 w b5 b6 b7 b8 b9 b10 b11 b12 b13 b14 b15 b16 b17 rest
  | 5 => .mk b0 b1 b2 b3 b4 w b6 b7 b8 b9 b10 b11 b12 b13 b14 b15 b16 b17 rest
  | 6 => .mk b0 b1 b2 b3 b4 b5 w b7 b8 b9 b10 b11 b12 b13 b14 b15 b16 b17 rest
  | 7 => .mk b0 b1 b2 b3 b4 b5 b6 w b8 b9 b10 b11 b12 b13 b14 b15 b16 b17 rest
  | 8 => .mk b0 b1 b2 b3 b4 b5 b6 b7 w b9 b10 b11 b12 b13 b14 b15 b16 b17 rest
  | 9 => .mk b0 b1 b2 b3 b4 b5 b6 b7 b8 w b10 b11 b12 b13 b14 b15 b16 b17 rest
  | 10 => .mk b0 b1 b2 b3 b4 b5 b6 b7 b8 b9 w b11 b12 b13 b14 b15 b16 b17 rest
  | 11 => .mk b0 b1 b2 b3 b4 b5 b6 b7 b8 b9 b10 w b12 b13 b14 b15 b16 b17 rest
  | 12 => .mk b0 b1 b2 b3 b4 b5 b6 b7 b8 b9 b10 b11 w b13 b14 b15 b16 b17 rest
  | 13 => .mk b0 b1 b2 b3 b4 b5 b6 b7 b8 b9 b10 b11 b12 w b14 b15 b16 b17 rest
  | 14 => .mk b0 b1 b2 b3 b4 b5 b6 b7 b8 b9 b10 b11 b12 b13 w b15 b16 b17 rest
  | 15 => .mk b0 b1 b2 b3 b4 b5 b6 b7 b8 b9 b10 b11 b12 b13 b14 w b16 b17 rest
  | 16 => .mk b0 b1 b2 b3 b4 b5 b6 b7 b8 b9 b10 b11 b12 b13 b14 b15 w b17 rest
  | 17 => .mk b0 b1 b2 b3 b4 b5 b6 b7 b8 b9 b10 b11 b12 b13 b14 b15 b16 w rest
  | _ => .mk b0 b1 b2 b3 b4 b5 b6 b7 b8 b9 b10 b11 b12 b13 b14 b15 b16 b17 rest) t
noncomputable def Tm.rest (t : Tm) : Tr AV := Tm.rec (motive := fun _ => Tr AV) (fun _ _ _ _ _ _ _ _ _ _ _ _ _ _ _ _ _ _ rest => rest) t
noncomputable def Tm.setRest (t : Tm) (r : Tr AV) : Tm := Tm.rec (motive := fun _ => Tm) (fun b0 b1 b2 b3 b4 b5 b6 b7 b8 b9 b10 b11 b12 b13 b14 b15 b16 b17 _ => .mk b0 b1 b2 b3 b4 b5 b6 b7 b8 b9 b10 b11 b12 b13 b14 b15 b16 b17 r) t
noncomputable def Tm.get (t : Tm) (n : Nat) : Option AV := bif Nat.blt n 324 then some ((t.row (n / 18)).get (n % 18)) else t.rest.get n
noncomputable def Tm.put (t : Tm) (n : Nat) (v : AV) : Tm := bif Nat.blt n 324 then t.setRow (n / 18) ((t.row (n / 18)).set (n % 18) v) else t.setRest (t.rest.put n v)
noncomputable def forceW {β : Type} (w : W1) (k : W1 → β) : β := W1.rec (motive := fun _ => β) (fun a0 a1 a2 a3 a4 a5 a6 a7 a8 a9 a10 a11 a12 a13 a14 a15 a16 a17 => k (.mk a0 a1 a2 a3 a4 a5 a6 a7 a8 a9 a10 a11 a12 a13 a14 a15 a16 a17)) w
noncomputable def forceTm {β : Type} (t : Tm) (k : Tm → β) : β := Tm.rec (motive := fun _ => β) (fun b0 b1 b2 b3 b4 b5 b6 b7 b8 b9 b10 b11 b12 b13 b14 b15 b16 b17 rest => forceW b0 fun b0 => forceW b1 fun b1 => forceW b2 fun b2 => forceW b3 fun b3 => forceW b4 fun b4 => forceW b5 fun b5 => forceW b6 fun b6 => forceW b7 fun b7 => forceW b8 fun b8 => forceW b9 fun b9 => forceW b10 fun b10 => forceW b11 fun b11 => forceW b12 fun b12 => forceW b13 fun b13 => forceW b14 fun b14 => forceW b15 fun b15 => forceW b16 fun b16 => forceW b17 fun b17 => forceT rest fun rest => k (.mk b0 b1 b2 b3 b4 b5 b6 b7 b8 b9 b10 b11 b12 b13 b14 b15 b16 b17 rest)) t

structure ALoop where
  nt : Nat
  state : LoopState
  pending : Option Code
  fn : FuncId
  tmps : Tm
  params : List Tmp
  assign : Code
  body : Code

inductive AObj where
  /-- the first cells of a row, known; 'exact': these are all -/
  | cells (l : List AV) (elem : TypeId) (exact : Bool)
  | map (es : List (AV × AV × Nat)) (clock : Nat)
  | strIter (s : ByteArray) (pos : Nat)
  | loop (l : ALoop)
  | deferred (taken : Bool)

structure St where
  heap : Tr AObj
  next : Nat

noncomputable def forceS {β : Type} (s : St) (k : St → β) : β := match s with
  | ⟨h, n⟩ => forceT h fun h => forceN n fun n => k ⟨h, n⟩

inductive R (α : Type) where
  | ok (a : α)
  | err (s : Nat)
  deriving Inhabited

noncomputable def R.bind {α β : Type} (x : R α) (f : α → R β) : R β := R.rec (motive := fun _ => R β) (fun a => f a) (fun s => .err s) x

noncomputable def opt {α : Type} (s : Nat) : Option α → R α
  | some a => .ok a
  | none => .err s

/-- The part of a computation that neither reads nor writes memory, nor asks the tape. -/
noncomputable def psem (P : Program) {α : Type} : Sem α → Option α
  | .pure a => some a
  | .program k => psem P (k P)
  | .mark _ k => psem P k
  | _ => none

/-- a function without a Go body -/
inductive ExtK where
  | noZero
  | same
  | pure (g : Array Value → Sem Value)

/-- what the executor asks of the program -/
structure Tab where
  P : Program
  under : TypeId → Option TypeDesc
  info : TypeId → Option TypeInfo
  func : FuncId → Option Func
  ext : FuncId → Option ExtK
  ng : Nat

section
variable (T : Tab)

noncomputable def sizeA (t : TypeId) : R Nat := match T.info t with
  | some i => .ok i.size
  | none => .err 1
noncomputable def isAggA (t : TypeId) : R Bool := match T.under t with
  | some (.struct _) | some (.array ..) => .ok true
  | some _ => .ok false
  | none => .err 2
noncomputable def zeroA (t : TypeId) : R AV := match T.info t with
  | some i => match i.zero with
    | some z => opt 3 (ofV z)
    | none => .err 4
  | none => .err 5
noncomputable def AV.cells : AV → List AV
  | .agg l => l
  | v => [v]

noncomputable def takeExact {α : Type} : Nat → List α → Option (List α)
  | 0, _ => some []
  | _ + 1, [] => none
  | n + 1, a :: l => match takeExact n l with
    | some r => some (a :: r)
    | none => none

noncomputable def ldCells (H : Tr AObj) (v off n : Nat) : R (List AV) := match H.get v with
  | some (.cells l _ _) => opt 6 (takeExact n (l.drop off))
  | _ => .err 7

noncomputable def overwrite {α : Type} : Nat → List α → List α → Option (List α)
  | 0, l, [] => some l
  | 0, [], _ :: _ => none
  | 0, _ :: l, x :: xs => match overwrite 0 l xs with
    | some r => some (x :: r)
    | none => none
  | n + 1, a :: l, xs => match overwrite n l xs with
    | some r => some (a :: r)
    | none => none
  | _ + 1, [], [] => some []
  | _ + 1, [], _ :: _ => none

noncomputable def single : AV → Bool
  | .agg _ | .tuple _ => false
  | _ => true
noncomputable def allSingle : List AV → Bool
  | [] => true
  | a :: l => single a && allSingle l

/-- ids below 1000 stand for the package-level variables and what they lead to: read only -/
noncomputable def stCells (s : St) (v off : Nat) (cs : List AV) : R St :=
  bif Nat.blt v 1000 then .err 8 else
  bif allSingle cs then match s.heap.get v with
    | some (.cells l e x) => match overwrite off l cs with
      | some l' => .ok { s with heap := s.heap.put v (.cells l' e x) }
      | none => .err 9
    | _ => .err 10
  else .err 11

noncomputable def newObjA (s : St) (o : AObj) : Nat × St := (s.next, { heap := s.heap.put s.next o, next := s.next + 1 })

noncomputable def loadA (s : St) (t : TypeId) : AV → R AV
  | .ptr v off => (isAggA T t).bind fun b => match b with
    | true => (sizeA T t).bind fun n => (ldCells s.heap v off n).bind fun l => .ok (.agg l)
    | false => (ldCells s.heap v off 1).bind fun l => match l with
      | [x] => .ok x
      | _ => .err 12
  | _ => .err 13

noncomputable def storeA (s : St) (t : TypeId) (a x : AV) : R St := match a with
  | .ptr v off => (sizeA T t).bind fun n => bif Nat.beq x.cells.length n then stCells s v off x.cells else .err 14
  | _ => .err 15

noncomputable def fillA (place : Nat → Option (Nat × Nat)) (cells : List AV) : List (Nat × AV) → Option (List AV)
  | [] => some cells
  | (i, v) :: rest => match place i with
    | none => none
    | some (off, size) => bif Nat.beq v.cells.length size && !Nat.beq size 0 then match overwrite off cells v.cells with
        | some cells' => fillA place cells' rest
        | none => none
      else none

noncomputable def repl (n : Nat) (z : List AV) : List AV := match n with
  | 0 => []
  | n + 1 => z ++ repl n z

inductive Out where
  | val (v : AV) (s : St)
  | skip (s : St)
  | enter (f : FuncId) (args : List AV) (s : St)
  | round (l : Nat) (args : List AV)
  | defer (f : AV) (args : List AV)
  | panic (v : AV)
  | recover

noncomputable def bnd (x : Option AV) (dflt hi : Nat) : R Nat := match x with
  | none => .ok dflt
  | some (.int _ (.ofNat n)) => bif Nat.ble n hi then .ok n else .err 16
  | _ => .err 17

noncomputable def sliceA (t : TypeId) (x : AV) (lo hi : Option AV) : R AV :=
  match T.under t, x with
  | some .string, .string s => (bnd hi s.size s.size).bind fun h => (bnd lo 0 h).bind fun l => .ok (.string (s.extract l h))
  | some (.slice e), .nilslice => (bnd hi 0 0).bind fun h => (bnd lo 0 h).bind fun _ => (sizeA T e).bind fun _ => .ok .nilslice
  | some (.slice e), .slice v off len cap => (bnd hi len cap).bind fun h => (bnd lo 0 h).bind fun l => (sizeA T e).bind fun sz =>
    .ok (.slice v (bif Nat.beq cap l then off else off + l * sz) (h - l) (cap - l))
  | some (.slice e), .sliceU v off len esz => (bnd hi len len).bind fun h => (bnd lo 0 h).bind fun l => (sizeA T e).bind fun sz =>
    bif Nat.beq sz esz then (bif Nat.blt l h || Nat.beq l 0 then .ok (.sliceU v (off + l * esz) (h - l) esz) else .ok .sliceE) else .err 18
  | some (.slice e), .sliceE => (bnd hi 0 0).bind fun h => (bnd lo 0 h).bind fun _ => (sizeA T e).bind fun _ => .ok .sliceE
  | some (.array n e), .ptr v off => (bnd hi n n).bind fun h => (bnd lo 0 h).bind fun l => (sizeA T e).bind fun sz =>
    .ok (.slice v (bif Nat.beq n l then off else off + l * sz) (h - l) (n - l))
  | some (.pointer a), .ptr v off => match T.under a with
    | some (.array n e) => (bnd hi n n).bind fun h => (bnd lo 0 h).bind fun l => (sizeA T e).bind fun sz =>
      .ok (.slice v (bif Nat.beq n l then off else off + l * sz) (h - l) (n - l))
    | _ => .err 18
  | _, _ => .err 19

noncomputable def partA (t : TypeId) (cs : List AV) (off : Nat) : R AV := (isAggA T t).bind fun b => match b with
  | true => (sizeA T t).bind fun n => match takeExact n (cs.drop off) with
    | some l => .ok (.agg l)
    | none => .err 20
  | false => opt 21 cs[off]?

noncomputable def byteAVs : List UInt8 → List AV
  | [] => []
  | c :: l => .int .u8 c.toNat :: byteAVs l

noncomputable def firstCellsA (s : St) (size n : Nat) : AV → R (List AV)
  | .slice v off _ _ | .sliceU v off _ _ => ldCells s.heap v off (n * size)
  | .nilslice | .sliceE => .ok []
  | .string b => .ok (byteAVs (b.extract 0 n).data.toList)
  | _ => .err 22
noncomputable def lenA : AV → R Nat
  | .slice _ _ n _ | .sliceU _ _ n _ => .ok n
  | .nilslice | .sliceE => .ok 0
  | .string s => .ok s.size
  | _ => .err 23

noncomputable def newCellsA (s : St) (l : List AV) (e : TypeId) (x : Bool) (k : Nat → St → R Out) : R Out :=
  forceAs l fun l => forceS { heap := s.heap.put s.next (.cells l e x), next := s.next + 1 } fun s' => k s.next s'

noncomputable def smallA (elem : TypeId) : Bool := match T.info elem with
  | some i => Nat.blt i.bytes 100000
  | none => false
/-- an append that may make a new row asks that its element's zero is of its size, and that it stays small -/
noncomputable def growA (elem : TypeId) (size need : Nat) : R Bool := (zeroA T elem).bind fun z =>
  bif Nat.beq z.cells.length size && (smallA T elem && Nat.blt need 1000000) then .ok true else .err 24
noncomputable def elemIs (s : St) (v : Nat) (elem : TypeId) : Bool := match s.heap.get v with
  | some (.cells _ e _) => Nat.beq e elem
  | _ => false
noncomputable def strFits (x : AV) (size : Nat) : Bool := match x with
  | .string _ => Nat.beq size 1
  | _ => true
noncomputable def appendA (s : St) (sType : TypeId) (a x : AV) : R Out :=
  match T.under sType with
  | some (.slice elem) => (sizeA T elem).bind fun size => (lenA x).bind fun n =>
    match n with
    | 0 => match a with
      | .nilslice => .ok (.val .nilslice s)
      | .slice v off len cap => bif Nat.ble len cap then .ok (.val (.slice v off len cap) s) else .err 23
      | .sliceU v off len esz => .ok (.val (.sliceU v off len esz) s)
      | .sliceE => .ok (.val .sliceE s)
      | _ => .err 24
    | n + 1 => bif strFits x size then (firstCellsA s size (n + 1) x).bind fun new => match a with
      | .nilslice => (growA T elem size (n + 1)).bind fun _ => newCellsA s new elem false fun v s => .ok (.val (.sliceU v 0 (n + 1) size) s)
      | .slice v off len cap =>
        bif Nat.ble (len + (n + 1)) cap then (stCells s v (off + len * size) new).bind fun s => .ok (.val (.slice v off (len + (n + 1)) cap) s)
        else (growA T elem size (len + (n + 1))).bind fun _ => (ldCells s.heap v off (len * size)).bind fun old =>
          newCellsA s (old ++ new) elem false fun v s => .ok (.val (.sliceU v 0 (len + (n + 1)) size) s)
      | .sliceU v off len esz =>
        bif Nat.beq esz size && (!Nat.blt v 1000 && (allSingle new && elemIs s v elem)) then (growA T elem size (len + (n + 1))).bind fun _ => (ldCells s.heap v off (len * size)).bind fun old =>
          newCellsA { s with heap := s.heap.del v } (old ++ new) elem false fun v s => .ok (.val (.sliceU v 0 (len + (n + 1)) size) s)
        else .err 25
      | _ => .err 26
      else .err 27
  | _ => .err 27

noncomputable def copyA (s : St) (dType : TypeId) (d x : AV) : R Out :=
  match T.under dType with
  | some (.slice elem) => (sizeA T elem).bind fun size => (lenA x).bind fun nx => (lenA d).bind fun nd =>
    forceN (min nx nd) fun n => (firstCellsA s size n x).bind fun cs => match d with
    | .slice v off _ _ | .sliceU v off _ _ => (stCells s v off cs).bind fun s => .ok (.val (.int .i64 n) s)
    | .nilslice | .sliceE => .ok (.val (.int .i64 n) s)
    | _ => .err 28
  | _ => .err 29

noncomputable def beqBytes : List UInt8 → List UInt8 → Bool
  | [], [] => true
  | a :: l, b :: m => Nat.beq a.toNat b.toNat && beqBytes l m
  | _, _ => false
noncomputable def beqI : Int → Int → Bool
  | .ofNat a, .ofNat b | .negSucc a, .negSucc b => Nat.beq a b
  | _, _ => false
mutual
noncomputable def beqA : AV → AV → Bool
  | .bool a, .bool b => a == b
  | .int k a, .int l b => k == l && beqI a b
  | .float k a, .float l b => k == l && Nat.beq a b
  | .string ⟨⟨a⟩⟩, .string ⟨⟨b⟩⟩ => beqBytes a b
  | .nilptr, .nilptr => true
  | .ptr a b, .ptr c d => Nat.beq a c && Nat.beq b d
  | .nilslice, .nilslice => true
  | .slice a b c d, .slice a' b' c' d' => Nat.beq a a' && Nat.beq b b' && Nat.beq c c' && Nat.beq d d'
  | .sliceU a b c d, .sliceU a' b' c' d' => Nat.beq a a' && Nat.beq b b' && Nat.beq c c' && Nat.beq d d'
  | .nilmap, .nilmap => true
  | .map a, .map b => Nat.beq a b
  | .func f a b, .func g c d => Nat.beq f g && beqL a c && beqL b d
  | .yieldF a, .yieldF b => Nat.beq a b
  | .nilFunc, .nilFunc => true
  | .iface t x, .iface u y => Nat.beq t u && beqA x y
  | .nilIface, .nilIface => true
  | .agg a, .agg b => beqL a b
  | .tuple a, .tuple b => beqL a b
  | _, _ => false
noncomputable def beqL : List AV → List AV → Bool
  | [], [] => true
  | a :: l, b :: m => beqA a b && beqL l m
  | _, _ => false
end

noncomputable def evA (t : Tm) : Operand → R AV
  | .tmp i => match t.get i with
    | some v => .ok v
    | none => .ok undefA
  | .const v => opt 30 (ofV v)
  | .global g => bif Nat.blt g T.ng then .ok (.ptr g 0) else .err 29
  | .func f => .ok (.func f [] [])

noncomputable def evAs (t : Tm) : List Operand → R (List AV)
  | [] => .ok []
  | x :: xs => (evA T t x).bind fun a => (evAs t xs).bind fun l => .ok (a :: l)

noncomputable def evParts (t : Tm) : List (Nat × Operand) → R (List (Nat × AV))
  | [] => .ok []
  | (i, x) :: xs => (evA T t x).bind fun a => (evParts t xs).bind fun l => .ok ((i, a) :: l)

noncomputable def evOpt (t : Tm) : Option Operand → R (Option AV)
  | none => .ok none
  | some x => (evA T t x).bind fun a => .ok (some a)

noncomputable def pureV (s : St) (x : Sem Value) : R Out := match psem T.P x with
  | some v => match ofV v with
    | some a => .ok (.val a s)
    | none => .err 31
  | none => .err 32

noncomputable def evV (t : Tm) (x : Operand) : R Value := (evA T t x).bind fun a => opt 33 (toV a)
noncomputable def evVs (t : Tm) (x : List Operand) : R (List Value) := (evAs T t x).bind fun a => opt 34 (toVs a)

noncomputable def runesA : (s : ByteArray) → (bound i : Nat) → List AV
  | _, 0, _ => []
  | s, b + 1, i => bif Nat.blt i s.size then match Utf8.decode s i with
      | (r, w) => .int .i32 (.ofNat r) :: runesA s b (i + w)
    else []

noncomputable def externA (s : St) (f : FuncId) (fn : Func) (args : List AV) : R Out := match T.ext f with
  | some (.pure g) => match toVs args with
    | some vs => pureV T s (g ⟨vs⟩)
    | none => .err 37
  | some .noZero => match args, (fn.resultTypes[0]?).bind T.under with
    | [.int .i64 (.ofNat n)], some (.slice e) => bif Nat.blt n 100000 then
        newCellsA s [] e false fun v s => .ok (.val (.sliceU v 0 n 1) s)
      else .err 38
    | _, _ => .err 39
  | some .same => match args with
    | [x] => .ok (.val x s)
    | _ => .err 40
  | none => .err 41

noncomputable def callA (s : St) (f : FuncId) (args : List AV) : R Out := match T.func f with
  | none => .err 42
  | some fn => match fn.body with
    | some _ => .ok (.enter f args s)
    | none => externA T s f fn args

noncomputable def callV (s : St) (f : AV) (args : List AV) : R Out := match f with
  | .func f first captured => callA T s f (first ++ args ++ captured)
  | .yieldF l => .ok (.round l args)
  | _ => .err 43

noncomputable def bytesOf : List AV → R (List UInt8)
  | [] => .ok []
  | .int .u8 n :: l => (bytesOf l).bind fun r => .ok (UInt8.ofNat n.toNat :: r)
  | _ => .err 44

noncomputable def runeBytes : List AV → ByteArray → R ByteArray
  | [], acc => .ok acc
  | .int .i32 n :: l, acc => runeBytes l (acc ++ Utf8.encode n)
  | _, _ => .err 45

noncomputable def sameInts : List AV → List AV → Option Bool
  | [], [] => some true
  | .int k a :: l, .int k' b :: m => bif k == k' then (match sameInts l m with | some r => some (beqI a b && r) | none => none) else none
  | _, _ => none
noncomputable def sameKey : AV → AV → Option Bool
  | .agg xs, .agg ys => sameInts xs ys
  | .int k a, .int k' b => bif k == k' then some (beqI a b) else none
  | .string ⟨⟨a⟩⟩, .string ⟨⟨b⟩⟩ => some (beqBytes a b)
  | .bool a, .bool b => some (a == b)
  | _, _ => none
noncomputable def findKeyA (k : AV) : List (AV × AV × Nat) → Nat → Option (Option (Nat × AV))
  | [], _ => some none
  | (k', v, _) :: l, i => match sameKey k k' with
    | some true => some (some (i, v))
    | some false => findKeyA k l (i + 1)
    | none => none

noncomputable def plainKey (d : Option TypeDesc) (k : AV) : Bool := match d, k with
  | some (.int _), .int .. | some .string, .string _ | some .bool, .bool _ => true
  | _, _ => false

noncomputable def intTy (t : TypeId) : Bool := match T.under t with
  | some (.int _) => match T.info t with
    | some i => Nat.beq i.size 1
    | none => false
  | _ => false
noncomputable def fieldsAt : Nat → List Field → Bool
  | _, [] => true
  | i, f :: l => (Nat.beq f.offset i && (!(f.name == "_") && intTy T f.type)) && fieldsAt (i + 1) l
noncomputable def allInts : List AV → Bool
  | [] => true
  | .int _ _ :: l => allInts l
  | _ => false
noncomputable def aggType (kt : TypeId) (n : Nat) : Bool := match T.under kt with
  | some (.array m e) => Nat.beq m n && intTy T e
  | some (.struct fs) => Nat.beq fs.toList.length n && (fieldsAt T 0 fs.toList && !T.P.stoodInHeld kt)
  | _ => false
noncomputable def aggKey (kt : TypeId) : AV → Bool
  | .agg xs => allInts xs && aggType T kt xs.length
  | _ => false
noncomputable def goodKey (kt : TypeId) (k : AV) : Bool := plainKey (T.under kt) k || aggKey T kt k

noncomputable def lit64 : Nat := 9223372036854775808

/-- arithmetic of ints within their bounds -/
noncomputable def intA (op : BinOp) (a b : Int) : Option AV := match op with
  | .add => match a + b with
    | .ofNat n => bif Nat.blt n lit64 then some (.int .i64 (.ofNat n)) else none
    | .negSucc n => bif Nat.blt n lit64 then some (.int .i64 (.negSucc n)) else none
  | .sub => match a - b with
    | .ofNat n => bif Nat.blt n lit64 then some (.int .i64 (.ofNat n)) else none
    | .negSucc n => bif Nat.blt n lit64 then some (.int .i64 (.negSucc n)) else none
  | _ => none

noncomputable def ltI : Int → Int → Bool
  | .ofNat a, .ofNat b => Nat.blt a b
  | .ofNat _, .negSucc _ => false
  | .negSucc _, .ofNat _ => true
  | .negSucc a, .negSucc b => Nat.blt b a

noncomputable def cmpA (op : BinOp) (a b : Int) : Option AV := match op with
  | .eql => some (.bool (beqI a b))
  | .neq => some (.bool (!beqI a b))
  | .lss => some (.bool (ltI a b))
  | .gtr => some (.bool (ltI b a))
  | .leq => some (.bool (!ltI b a))
  | .geq => some (.bool (!ltI a b))
  | _ => none

/-- one of the two is nil, the other not, both of a type -/
noncomputable def nilOne : TypeDesc → AV → AV → Bool
  | .pointer _, .ptr .., .nilptr | .pointer _, .nilptr, .ptr .. => true
  | .slice _, .slice .., .nilslice | .slice _, .nilslice, .slice .. | .slice _, .sliceU .., .nilslice | .slice _, .nilslice, .sliceU ..
  | .slice _, .sliceE, .nilslice | .slice _, .nilslice, .sliceE => true
  | .map .., .map _, .nilmap | .map .., .nilmap, .map _ => true
  | .func .., .func .., .nilFunc | .func .., .nilFunc, .func .. | .func .., .yieldF _, .nilFunc | .func .., .nilFunc, .yieldF _ => true
  | .interface _, .iface .., .nilIface | .interface _, .nilIface, .iface .. => true
  | _, _, _ => false
noncomputable def eqAddr (s : St) (ty : TypeId) (same : Bool) (a b : AV) : R Out := match T.under ty with
  | some d => match nilOne d a b with
    | true => .ok (.val (.bool (!same)) s)
    | false => match d, a, b with
      | .pointer el, .ptr v o1, .ptr v' o2 => (sizeA T el).bind fun n =>
        bif Nat.beq v v' && !Nat.beq n 0 then .ok (.val (.bool (Nat.beq o1 o2 == same)) s) else .err 47
      | _, _, _ => .err 48
  | none => .err 49

noncomputable def binSlow (s : St) (op : BinOp) (ty : TypeId) (x y : Operand) (a b : AV) : R Out := match toV a, toV b with
  | some v, some w => pureV T s (eqGuard op ty x y v w >>= fun _ => binOp op ty v w)
  | _, _ => match op with
    | .eql => eqAddr T s ty true a b
    | .neq => eqAddr T s ty false a b
    | _ => .err 51

noncomputable def cmpInts (s : St) (op : BinOp) (ty : TypeId) (x y : Operand) (k l : IntKind) (m n : Int) : R Out := match k == l with
  | true => match cmpA op m n with
    | some v => .ok (.val v s)
    | none => binSlow T s op ty x y (.int k m) (.int l n)
  | false => binSlow T s op ty x y (.int k m) (.int l n)

noncomputable def binA (s : St) (op : BinOp) (ty : TypeId) (x y : Operand) (a b : AV) : R Out := match a, b with
  | .int .i64 m, .int .i64 n => match intA op m n with
    | some v => .ok (.val v s)
    | none => cmpInts T s op ty x y .i64 .i64 m n
  | .int k m, .int l n => cmpInts T s op ty x y k l m n
  | a, b => binSlow T s op ty x y a b

noncomputable def isStr : AV → Bool
  | .string _ => true
  | _ => false
noncomputable def convFrom (s : St) (e : TypeId) (a : AV) : R Out := bif isStr a then .err 51 else match T.under e with
  | some (.int .u8) => (lenA a).bind fun n => (firstCellsA s 1 n a).bind fun cs => (bytesOf cs).bind fun l => .ok (.val (.string ⟨⟨l⟩⟩) s)
  | some (.int .i32) => (lenA a).bind fun n => (firstCellsA s 1 n a).bind fun cs => (runeBytes cs .empty).bind fun b => .ok (.val (.string b) s)
  | _ => .err 52
noncomputable def convTo (s : St) (e : TypeId) (b : ByteArray) : R Out := match T.under e with
  | some (.int .u8) => newCellsA s (byteAVs b.data.toList) e false fun v s => .ok (.val (.sliceU v 0 b.size 1) s)
  | some (.int .i32) => forceAs (runesA b b.size 0) fun l => newCellsA s l e false fun v s => .ok (.val (.sliceU v 0 l.length 1) s)
  | _ => .err 53
noncomputable def convUns (s : St) (el : TypeId) (v off : Nat) : R Out := match s.heap.get v with
  | some (.cells l _ true) => (sizeA T el).bind fun n => bif Nat.blt off l.length && !Nat.beq n 0 then .ok (.val (.ptr v off) s) else .err 54
  | _ => .err 55
noncomputable def convBack (s : St) (el : TypeId) (v off : Nat) : R Out := match s.heap.get v with
  | some (.cells l e true) => bif !Nat.blt v 1000 && liesAt T.P T.P.depth e (l.length / T.P.cellsOf e) off el 1 then (sizeA T el).bind fun _ => .ok (.val (.ptr v off) s) else .err 56
  | _ => .err 57

noncomputable def convA (s : St) (src dst : TypeId) (a : AV) : R Out := match a with
  | .int .. | .float .. => match toV a with
    | some v => pureV T s (convert src dst v)
    | none => .err 58
  | _ => match T.under src, T.under dst, a with
    | some .string, some (.slice e), .string b => convTo T s e b
    | some (.slice e), some .string, _ => convFrom T s e a
    | some (.pointer el), some .unsafePointer, .ptr v off => convUns T s el v off
    | some .unsafePointer, some (.pointer el), .ptr v off => convBack T s el v off
    | _, _, _ => match toV a with
      | some v => pureV T s (convert src dst v)
      | none => .err 59

noncomputable def opAlloc (s : St) (elem : TypeId) : R Out := (zeroA T elem).bind fun z => newCellsA s z.cells elem true fun v s => .ok (.val (.ptr v 0) s)
noncomputable def opBox (s : St) (elem : TypeId) (x : AV) : R Out := newCellsA s x.cells elem true fun v s => .ok (.val (.ptr v 0) s)
noncomputable def placesA : List Field → Option (List (Nat × Nat))
  | [] => some []
  | f :: l => match T.info f.type with
    | some j => match placesA l with
      | some r => some ((f.offset, j.size) :: r)
      | none => none
    | none => none
noncomputable def opBuild (s : St) (ty : TypeId) (ps : List (Nat × AV)) : R Out := (zeroA T ty).bind fun z => match T.under ty with
  | some (.struct fields) => match placesA T fields.toList with
    | some pl => match fillA (fun i => pl[i]?) z.cells ps with
      | some cs => .ok (.val (.agg cs) s)
      | none => .err 60
    | none => .err 59
  | some (.array _ elem) => (sizeA T elem).bind fun size => match fillA (fun i => some (i * size, size)) z.cells ps with
    | some cs => .ok (.val (.agg cs) s)
    | none => .err 61
  | _ => .err 62
/-- so many zeros of a type, one after the other -/
noncomputable def zerosA (elem : TypeId) (size len : Nat) : R (List AV) := bif Nat.beq (len * size) 0 then .ok [] else (zeroA T elem).bind fun z =>
  bif Nat.beq z.cells.length size then .ok (repl len z.cells) else .err 58
noncomputable def opBuildSlice (s : St) (ty : TypeId) (len : Nat) (ps : List (Nat × AV)) : R Out := match T.under ty with
  | some (.slice elem) => (sizeA T elem).bind fun size => bif Nat.ble (len * size) 100000 then (zerosA T elem size len).bind fun z =>
      match fillA (fun i => some (i * size, size)) z ps with
      | some cs => newCellsA s cs elem true fun v s => .ok (.val (.slice v 0 len len) s)
      | none => .err 63
    else .err 64
  | _ => .err 65
noncomputable def opNilCheck (s : St) : AV → R Out
  | .ptr v o => .ok (.val (.ptr v o) s)
  | .func f a b => .ok (.val (.func f a b) s)
  | .yieldF v => .ok (.val (.yieldF v) s)
  | .iface t v => .ok (.val (.iface t v) s)
  | _ => .err 66
noncomputable def opMakeInterface (s : St) (ty : TypeId) (x : AV) : R Out := match T.under ty with
  | some (.interface _) | none => .err 67
  | some _ => .ok (.val (.iface ty x) s)
noncomputable def opMakeMap (s : St) : Option Operand → R Out
  | none => .ok (.val (.map s.next) { heap := s.heap.put s.next (.map [] 0), next := s.next + 1 })
  | _ => .err 68
noncomputable def opMakeSlice (s : St) (ty : TypeId) (l c : AV) : R Out := match T.under ty, l, c with
  | some (.slice elem), .int _ (.ofNat l), .int _ (.ofNat c) => bif Nat.ble l c && (Nat.blt c 100000 && smallA T elem) then
      (sizeA T elem).bind fun size => (zerosA T elem size c).bind fun z => newCellsA s z elem true fun v s => .ok (.val (.slice v 0 l c) s)
    else .err 69
  | _, _, _ => .err 70
noncomputable def opFieldAddr (s : St) (st : TypeId) (x : AV) (f : Nat) : R Out := match T.under st with
  | some (.struct fields) => match fields[f]?, x with
    | some f, .ptr v off => (sizeA T f.type).bind fun n => bif Nat.beq n 0 then .err 71 else .ok (.val (.ptr v (off + f.offset)) s)
    | _, _ => .err 72
  | _ => .err 73
noncomputable def opField (s : St) (st : TypeId) (x : AV) (f : Nat) : R Out := match T.under st with
  | some (.struct fields) => match fields[f]?, x with
    | some f, .agg cs => (partA T f.type cs f.offset).bind fun v => .ok (.val v s)
    | _, _ => .err 74
  | _ => .err 75
noncomputable def opIndexAddr (s : St) (ty : TypeId) (x i : AV) : R Out := match i with
  | .int _ (.ofNat i) => match T.under ty, x with
    | some (.array n e), .ptr v off => bif Nat.blt i n then (sizeA T e).bind fun sz => .ok (.val (.ptr v (off + i * sz)) s) else .err 76
    | some (.slice e), .slice v off len _ | some (.slice e), .sliceU v off len _ =>
      bif Nat.blt i len then (sizeA T e).bind fun sz => .ok (.val (.ptr v (off + i * sz)) s) else .err 77
    | _, _ => .err 78
  | _ => .err 79
noncomputable def opIndex (s : St) (ty : TypeId) (x i : AV) : R Out := match i with
  | .int _ (.ofNat i) => match T.under ty, x with
    | some (.array n e), .agg cs => bif Nat.blt i n then (sizeA T e).bind fun sz => (partA T e cs (i * sz)).bind fun v => .ok (.val v s) else .err 80
    | some .string, .string ⟨⟨l⟩⟩ => match l[i]? with
      | some b => .ok (.val (.int .u8 b.toNat) s)
      | none => .err 81
    | _, _ => .err 82
  | _ => .err 83
noncomputable def pairA (ok : Bool) (x : AV) (b : Bool) : AV := bif ok then .tuple [x, .bool b] else x
noncomputable def opLookup (s : St) (ty : TypeId) (m k : AV) (ok : Bool) : R Out := match T.under ty with
  | some (.map kt el) => bif goodKey T kt k then match m with
      | .map v => match s.heap.get v with
        | some (.map es _) => match findKeyA k es 0 with
          | some (some (_, x)) => .ok (.val (pairA ok x true) s)
          | some none => (zeroA T el).bind fun z => .ok (.val (pairA ok z false) s)
          | none => .err 161
        | _ => .err 84
      | .nilmap => (zeroA T el).bind fun z => .ok (.val (pairA ok z false) s)
      | _ => .err 85
    else .err 160
  | _ => .err 85
noncomputable def setAt (k : AV) (x : AV) : List (AV × AV × Nat) → Nat → List (AV × AV × Nat)
  | [], _ => []
  | (k0, x0, b) :: l, i => match i with
    | 0 => (k, x, b) :: l
    | i + 1 => (k0, x0, b) :: setAt k x l i
noncomputable def putMap (s : St) (v : Nat) (es : List (AV × AV × Nat)) (clock : Nat) : St := { s with heap := s.heap.put v (.map es clock) }
noncomputable def opMapUpdate (s : St) (ty : TypeId) (m k x : AV) : R Out := match T.under ty with
  | some (.map kt _) => bif goodKey T kt k then match m with
      | .map v => bif Nat.blt v 1000 then .err 87 else match s.heap.get v with
        | some (.map es clock) => match findKeyA k es 0 with
          | some (some (i, _)) => .ok (.skip (putMap s v (setAt k x es i) clock))
          | some none => forceN (clock + 1) fun c => .ok (.skip (putMap s v (es ++ [(k, x, clock)]) c))
          | none => .err 86
        | _ => .err 87
      | _ => .err 88
    else .err 89
  | _ => .err 89
noncomputable def bornAt : List (AV × AV × Nat) → Nat → Nat
  | [], _ => 0
  | (_, _, b) :: _, 0 => b
  | _ :: l, i + 1 => bornAt l i
noncomputable def opMapEntry (s : St) (ty : TypeId) (m k : AV) : R Out := match T.under ty with
  | some (.map kt el) => bif goodKey T kt k then match m with
      | .map v => bif Nat.blt v 1000 then .err 87 else match s.heap.get v with
        | some (.map es clock) => match findKeyA k es 0 with
          | some (some (i, x)) => .ok (.val (.tuple [x, .int .i64 (.ofNat (bornAt es i))]) (putMap s v (setAt k x es i) clock))
          | some none => (zeroA T el).bind fun z => forceN (clock + 1) fun c => .ok (.val (.tuple [z, .int .i64 (.ofNat clock)]) (putMap s v (es ++ [(k, z, clock)]) c))
          | none => .err 90
        | _ => .err 90
      | _ => .err 91
    else .err 92
  | _ => .err 92
noncomputable def findBorn (b : Nat) : List (AV × AV × Nat) → Nat → Option (Nat × AV)
  | [], _ => none
  | (k, _, b') :: l, i => bif Nat.beq b b' then some (i, k) else findBorn b l (i + 1)
noncomputable def opEntryStore (s : St) (m st x : AV) : R Out := match m, st with
  | .map v, .int _ (.ofNat b) => bif Nat.blt v 1000 then .err 87 else match s.heap.get v with
    | some (.map es clock) => match findBorn b es 0 with
      | some (i, k) => .ok (.skip (putMap s v (setAt k x es i) clock))
      | none => .err 93
    | _ => .err 94
  | _, _ => .err 95
noncomputable def opRange (s : St) (ty : TypeId) (x : AV) : R Out := match T.under ty, x with
  | some .string, .string b => .ok (.val (.ptr s.next 0) { heap := s.heap.put s.next (.strIter b 0), next := s.next + 1 })
  | _, _ => .err 96
noncomputable def opNext (s : St) (it : AV) : R Out := match it with
  | .ptr v 0 => bif Nat.blt v 1000 then .err 96 else match s.heap.get v with
    | some (.strIter b pos) => bif Nat.blt pos b.size then match Utf8.decode b pos with
        | (c, w) => forceN (pos + w) fun p => .ok (.val (.tuple [.bool true, .int .i64 (.ofNat pos), .int .i32 (.ofNat c)]) { s with heap := s.heap.put v (.strIter b p) })
      else .ok (.val (.tuple [.bool false]) s)
    | _ => .err 97
  | _ => .err 98
noncomputable def opTypeAssert (s : St) (x : AV) (asserted : TypeId) (ok : Bool) : R Out := match T.under asserted, x with
  | some (.interface _), _ | none, _ => .err 99
  | some _, .nilIface => bif ok then (zeroA T asserted).bind fun z => .ok (.val (.tuple [z, .bool false]) s) else .err 100
  | some _, .iface ty v => bif Nat.beq ty asserted then .ok (.val (pairA ok v true) s)
    else bif ok then (zeroA T asserted).bind fun z => .ok (.val (.tuple [z, .bool false]) s) else .err 101
  | some _, _ => .err 102
noncomputable def opExtract (s : St) (tu : AV) (i : Nat) : R Out := match tu with
  | .tuple vs => match vs[i]? with
    | some v => .ok (.val v s)
    | none => .err 103
  | _ => .err 104
noncomputable def lenMap (s : St) (v : Nat) : R Out := match s.heap.get v with
  | some (.map es _) => .ok (.val (.int .i64 (.ofNat es.length)) s)
  | _ => .err 105
noncomputable def intOut (s : St) (n : Nat) : R Out := .ok (.val (.int .i64 (.ofNat n)) s)
noncomputable def opLen (s : St) (t : Option TypeId) (x : AV) : R Out := match t with
  | some t => match T.under t, x with
    | some (.map ..), .map v => lenMap s v
    | some (.map ..), .nilmap => intOut s 0
    | some (.slice _), .slice _ _ n _ | some (.slice _), .sliceU _ _ n _ => intOut s n
    | some (.slice _), .nilslice | some (.slice _), .sliceE => intOut s 0
    | some .string, .string b => intOut s b.size
    | some (.array n _), _ => intOut s n
    | some (.pointer a), _ => match T.under a with
      | some (.array n _) => intOut s n
      | _ => .err 106
    | _, _ => .err 107
  | none => .err 108
noncomputable def opCap (s : St) (t : Option TypeId) (x : AV) : R Out := match t with
  | some t => match T.under t, x with
    | some (.slice _), .slice _ _ _ c => intOut s c
    | some (.slice _), .nilslice => intOut s 0
    | _, _ => .err 109
  | none => .err 109
noncomputable def opAppend (s : St) (t1 t2 : Option TypeId) (x y : AV) : R Out := match t1, t2 with
  | some t1, some t2 => match T.under t2 with
    | some (.int _) | none => .err 110
    | some _ => appendA T s t1 x y
  | _, _ => .err 111
noncomputable def opSliceData (s : St) : AV → R Out
  | .slice v off _ (_ + 1) => .ok (.val (.ptr v off) s)
  | .sliceU v off (_ + 1) _ => .ok (.val (.ptr v off) s)
  | .nilslice => .ok (.val .nilptr s)
  | _ => .err 112
noncomputable def isByte (t : TypeId) : Bool := match T.under t, T.info t with
  | some (.int .u8), some i => Nat.beq i.size 1
  | _, _ => false
noncomputable def ptrByte (pt : TypeId) : Bool := match T.under pt with
  | some (.pointer u) => isByte T u
  | _ => false
noncomputable def opString (s : St) (pt : TypeId) (x n : AV) : R Out := match x, n with
  | .nilptr, .int _ (.ofNat 0) => .ok (.val (.string ⟨⟨[]⟩⟩) s)
  | .ptr v off, .int _ (.ofNat n) => match n with
    | 0 => .ok (.val (.string ⟨⟨[]⟩⟩) s)
    | n + 1 => bif Nat.blt v 1000 || !Nat.blt n 100000 then .err 113 else match s.heap.get v with
      | some (.cells l e _) => bif isByte T e && ptrByte T pt then match takeExact (n + 1) (l.drop off) with
          | some cs => (bytesOf cs).bind fun b => .ok (.val (.string ⟨⟨b⟩⟩) { s with heap := s.heap.del v })
          | none => .err 114
        else .err 115
      | _ => .err 116
  | _, _ => .err 117

noncomputable def callB (s : St) (t : Tm) (b : Builtin) (args : List Operand) (ats : Array TypeId) (ty : TypeId) : R Out := match b, args with
  | .len, [x] => (evA T t x).bind fun x => opLen T s ats[0]? x
  | .cap, [x] => (evA T t x).bind fun x => opCap T s ats[0]? x
  | .append, [x, y] => (evA T t x).bind fun x => (evA T t y).bind fun y => opAppend T s ats[0]? ats[1]? x y
  | .copy, [x, y] => (evA T t x).bind fun x => (evA T t y).bind fun y => match ats[0]? with
    | some ty => copyA T s ty x y
    | none => .err 118
  | .max, _ => (evVs T t args).bind fun vs => pureV T s (Builtin.max_ ats ty ⟨vs⟩)
  | .min, _ => (evVs T t args).bind fun vs => pureV T s (Builtin.min_ ats ty ⟨vs⟩)
  | .recover, _ => .ok .recover
  | .unsafeSliceData, [x] => (evA T t x).bind fun x => opSliceData s x
  | .unsafeString, [x, n] => (evA T t x).bind fun x => (evA T t n).bind fun n => match ats[0]? with
    | some pt => opString T s pt x n
    | none => .err 112
  | _, _ => .err 119

noncomputable def opCall (s : St) (t : Tm) (ty : TypeId) (c : Call) : R Out := match c.callee with
  | .value f => (evA T t f).bind fun f => (evAs T t c.args.toList).bind fun args => callV T s f args
  | .builtin b => callB T s t b c.args.toList c.argTypes ty
  | .invoke .. => .err 120

noncomputable def opDefer (t : Tm) (c : Call) : R Out := match c.callee with
  | .value f => (evA T t f).bind fun f => (evAs T t c.args.toList).bind fun args => match f with
    | .func .. => .ok (.defer f args)
    | _ => .err 121
  | _ => .err 122

noncomputable def opPanic (x : AV) : R Out := match x with
  | .iface t v => .ok (.panic (.iface t v))
  | _ => .err 123

noncomputable def opPick (s : St) (t : Tm) (c a b : Operand) : R Out := (evA T t c).bind fun c => match c with
  | .bool true => (evA T t a).bind fun v => .ok (.val v s)
  | .bool false => (evA T t b).bind fun v => .ok (.val v s)
  | _ => .err 124

noncomputable def opMakeFunc (s : St) (t : Tm) (fn : Fn) (a b : List Operand) : R Out := match fn with
  | .func f => (evAs T t a).bind fun a => (evAs T t b).bind fun b => .ok (.val (.func f a b) s)
  | _ => .err 125

noncomputable def opSlice (s : St) (t : Tm) (ty : TypeId) (x : Operand) (lo hi mx : Option Operand) : R Out := match mx with
  | none => (evA T t x).bind fun x => (evOpt T t lo).bind fun lo => (evOpt T t hi).bind fun hi => (sliceA T ty x lo hi).bind fun v => .ok (.val v s)
  | some _ => .err 126

noncomputable def opA (s : St) (t : Tm) (o : Oper) : R Out := match o.op with
  | .move x | .assign x => (evA T t x).bind fun v => .ok (.val v s)
  | .pick c a b => opPick T s t c a b
  | .alloc elem => opAlloc T s elem
  | .box elem x => (evA T t x).bind fun x => opBox s elem x
  | .build ty parts => (evParts T t parts.toList).bind fun ps => opBuild T s ty ps
  | .buildSlice ty len parts => (evParts T t parts.toList).bind fun ps => opBuildSlice T s ty len ps
  | .load ty a => (evA T t a).bind fun a => (loadA T s ty a).bind fun v => .ok (.val v s)
  | .store ty a x => (evA T t a).bind fun a => (evA T t x).bind fun x => (storeA T s ty a x).bind fun s => .ok (.skip s)
  | .nilCheck x => (evA T t x).bind fun x => opNilCheck s x
  | .binOp op ty x y _ => (evA T t x).bind fun a => (evA T t y).bind fun b => binA T s op ty x y a b
  | .unOp op _ x => (evV T t x).bind fun v => pureV T s (Op.unary op v)
  | .convert src dst x => (evA T t x).bind fun a => convA T s src dst a
  | .makeInterface ty x => (evA T t x).bind fun x => opMakeInterface T s ty x
  | .makeFunc fn a b => opMakeFunc T s t fn a.toList b.toList
  | .makeMap _ r => opMakeMap s r
  | .makeSlice ty l c => (evA T t l).bind fun l => (evA T t c).bind fun c => opMakeSlice T s ty l c
  | .slice ty x lo hi mx => opSlice T s t ty x lo hi mx
  | .fieldAddr st x f => (evA T t x).bind fun x => opFieldAddr T s st x f
  | .field st x f => (evA T t x).bind fun x => opField T s st x f
  | .indexAddr ty x i => (evA T t x).bind fun x => (evA T t i).bind fun i => opIndexAddr T s ty x i
  | .index ty x i => (evA T t x).bind fun x => (evA T t i).bind fun i => opIndex T s ty x i
  | .lookup ty m k ok => (evA T t m).bind fun m => (evA T t k).bind fun k => opLookup T s ty m k ok
  | .mapUpdate ty m k x | .insert ty m k x => (evA T t m).bind fun m => (evA T t k).bind fun k => (evA T t x).bind fun x => opMapUpdate T s ty m k x
  | .mapEntry ty m k => (evA T t m).bind fun m => (evA T t k).bind fun k => opMapEntry T s ty m k
  | .entryStore _ m st x => (evA T t m).bind fun m => (evA T t st).bind fun st => (evA T t x).bind fun x => opEntryStore s m st x
  | .range ty x => (evA T t x).bind fun x => opRange T s ty x
  | .next it true => (evA T t it).bind fun it => opNext s it
  | .typeAssert x _ asserted ok => (evA T t x).bind fun x => opTypeAssert T s x asserted ok
  | .extract tu i => (evA T t tu).bind fun tu => opExtract s tu i
  | .call c => opCall T s t o.type c
  | .defer c => opDefer T t c
  | .panic x => (evA T t x).bind opPanic
  | _ => .err 127
end

/-! ### control -/
inductive Ext where
  | normal | exit (id : Nat) | goto (l : Nat) | ret | panic (v : AV)
  deriving Inhabited

inductive ADef where
  | call (f : AV) (args : List AV)
  | collected (v : Nat)

structure Fr where
  tmps : Tm
  st : St
  defers : List ADef
  recd : Bool

structure Cx where
  fn : FuncId
  nt : Nat
  round : Option Nat
  pan : Option AV

structure Ld where
  i : Nat
  ty : TypeId
  a : AV
  v : AV

inductive Task where
  | code (cx : Cx) (c : Code) (fr : Fr)
  | scope (cx : Cx) (body c : Code) (fr : Fr)
  | again (cx : Cx) (c : Code) (fr : Fr)
  | ops (cx : Cx) (all : Array Oper) (l : List Oper) (fr : Fr)
  | draw (cx : Cx) (all : Array Oper) (i : Nat) (l : List Oper) (fr : Fr) (lds : List Ld) (sn : List (Nat × St × St))
  | call (f : FuncId) (args : List AV) (st : St) (pan : Option AV)
  | leave (cx : Cx) (fn : Func) (p : Option AV) (fr : Fr)
  | round (l : Nat) (args : List AV) (st : St)

inductive Res where
  | ext (e : Ext) (fr : Fr)
  | ret (v : AV) (st : St) (recd : Bool)
  | pan (v : AV) (st : St) (recd : Bool)

/-- a value is put, forced; then on -/
noncomputable def putF (cx : Cx) (fr : Fr) (st : St) (d : Option Tmp) (v : AV) (k : Fr → R Res) : R Res := forceS st fun st => match d with
  | some d => bif Nat.blt d cx.nt then forceA v fun v => forceTm (fr.tmps.put d v) fun t => k { tmps := t, st, defers := fr.defers, recd := fr.recd } else .err 155
  | none => k { tmps := fr.tmps, st, defers := fr.defers, recd := fr.recd }

noncomputable def yieldedA (ops : Array Oper) (t : Tm) (j : Nat) : Option Bool := match ops[j]? with
  | some o => match o.dst with
    | some d => match t.get d with
      | some (.bool b) => some b
      | _ => none
    | none => none
  | none => none

/-! what a region that asks the tape must show: its temporaries and its effects come in one order -/
noncomputable def memOp (d : Tmp) : List Operand → Bool
  | [] => false
  | x :: l => (match x with | .tmp t => Nat.beq t d | _ => false) || memOp d l
noncomputable def guardTmp (all : Array Oper) (o : Oper) (d : Tmp) : Bool := match o.guard with
  | some (g, _) => match all[g]? with
    | some p => match p.dst with
      | some t => Nat.beq t d
      | none => false
    | none => false
  | none => false
noncomputable def looks (all : Array Oper) (o : Oper) (d : Tmp) : Bool := memOp d o.op.operands.toList || guardTmp all o d
noncomputable def dstLooks (all : Array Oper) (x y : Oper) : Bool := match x.dst with
  | some d => looks all y d
  | none => false
noncomputable def dstSame (x y : Oper) : Bool := match x.dst, y.dst with
  | some a, some b => Nat.beq a b
  | _, _ => false
noncomputable def pairOK (all : Array Oper) (b : Array Nat) (i : Nat) (x : Oper) (j : Nat) (y : Oper) : Bool :=
  !dstSame x y && (Nat.testBit (b.getD j 0) i || (!dstLooks all x y && !dstLooks all y x))
noncomputable def edgesLt (j : Nat) : List Edge → Bool
  | [] => true
  | e :: l => (!Region.binds .any e || Nat.blt e.on j) && edgesLt j l
noncomputable def pairsWith (all : Array Oper) (b : Array Nat) (i : Nat) (x : Oper) : Nat → List Oper → Bool
  | _, [] => true
  | j, y :: l => pairOK all b i x j y && pairsWith all b i x (j + 1) l
noncomputable def staticFrom (all : Array Oper) (b : Array Nat) : Nat → List Oper → Bool
  | _, [] => true
  | i, x :: l => edgesLt i x.after.toList && (pairsWith all b i x (i + 1) l && staticFrom all b (i + 1) l)
noncomputable def drawStatic (all : Array Oper) : Bool := staticFrom all (Region.before all) 0 all.toList
noncomputable def chainWith (b : Array Nat) (j : Nat) : List (Nat × St × St) → Bool
  | [] => true
  | (i, _, _) :: l => (Nat.beq i j || (Nat.testBit (b.getD j 0) i || Nat.testBit (b.getD i 0) j)) && chainWith b j l
noncomputable def chainOK (b : Array Nat) : List (Nat × St × St) → Bool
  | [] => true
  | (j, _, _) :: l => chainWith b j l && chainOK b l

section
variable (T : Tab)

noncomputable def isPure (o : Op) : Bool := match o with
  | .move _ | .assign _ | .pick .. | .build .. | .nilCheck _ | .binOp .. | .unOp .. | .makeInterface .. | .makeFunc .. | .slice .. | .fieldAddr .. | .field .. | .indexAddr .. | .index .. | .extract .. => true
  | .convert src _ _ => match T.under src with
    | some (.int _) | some (.float _) => true
    | _ => false
  | .call c => match c.callee, c.argTypes[0]? with
    | .builtin .len, some t => match T.under t with
      | some (.slice _) | some .string => true
      | _ => false
    | .builtin .cap, some t => match T.under t with
      | some (.slice _) => true
      | _ => false
    | .builtin .unsafeSliceData, _ => true
    | _, _ => false
  | _ => false

noncomputable def sameAt (s : St) (l : Ld) : Bool := match loadA T s l.ty l.a with
  | .ok v => beqA v l.v
  | .err _ => false
noncomputable def stableOne (b : Array Nat) (l : Ld) : List (Nat × St × St) → Bool
  | [] => true
  | (j, s0, s1) :: sn => ((Nat.testBit (b.getD j 0) l.i || Nat.testBit (b.getD l.i 0) j) || (sameAt T s0 l && sameAt T s1 l)) && stableOne b l sn
noncomputable def stable (b : Array Nat) (sn : List (Nat × St × St)) : List Ld → Bool
  | [] => true
  | l :: ls => stableOne T b l sn && stable b sn ls

noncomputable def resultsA (s : St) (t : Tm) : List ResultVar → R (List AV)
  | [] => .ok []
  | .tmp i :: l => (evA T t (.tmp i)).bind fun v => (resultsA s t l).bind fun r => .ok (v :: r)
  | .cell a ty :: l => (evA T t (.tmp a)).bind fun a => (loadA T s ty a).bind fun v => (resultsA s t l).bind fun r => .ok (v :: r)
noncomputable def oneOrTuple : List AV → AV
  | [v] => v
  | vs => .tuple vs

noncomputable def initT : Nat → List AV → Tm → Tm
  | _, [], t => t
  | i, a :: l, t => forceTm (t.put i a) fun t => initT (i + 1) l t

noncomputable def putParams (nt : Nat) : List Tmp → List AV → Tm → Option (Tm)
  | [], [], t => some t
  | p :: ps, a :: l, t => bif Nat.blt p nt then forceTm (t.put p a) fun t => putParams nt ps l t else none
  | _, _, _ => none

variable (rec : Task → R Res)

noncomputable def doSeq (cx : Cx) (a b : Code) (fr : Fr) : R Res := match rec (.code cx a fr) with
  | .ok (.ext .normal fr) => rec (.code cx b fr)
  | r => r
noncomputable def doCond (cx : Cx) (c : Operand) (a b : Code) (fr : Fr) : R Res := match evA T fr.tmps c with
  | .ok (.bool true) => rec (.code cx a fr)
  | .ok (.bool false) => rec (.code cx b fr)
  | .err e => .err e
  | _ => .err 130
noncomputable def doBlock (cx : Cx) (id : Nat) (c : Code) (fr : Fr) : R Res := match rec (.code cx c fr) with
  | .ok (.ext (.exit id') fr) => bif Nat.beq id' id then .ok (.ext .normal fr) else .ok (.ext (.exit id') fr)
  | r => r
noncomputable def doLoop (cx : Cx) (c : Code) (fr : Fr) : R Res := match rec (.code cx c fr) with
  | .ok (.ext .normal fr) => rec (.again cx c fr)
  | r => r
noncomputable def doScope (cx : Cx) (body c : Code) (fr : Fr) : R Res := match rec (.code cx c fr) with
  | .ok (.ext (.goto l) fr) => match findLabel body l with
    | some rest => rec (.scope cx body rest fr)
    | none => .ok (.ext (.goto l) fr)
  | r => r
noncomputable def drawEnd (ops : Array Oper) (fr : Fr) (lds : List Ld) (sn : List (Nat × St × St)) : R Res :=
  bif chainOK (Region.before ops) sn && stable T (Region.before ops) sn lds then .ok (.ext .normal fr) else .err 131
noncomputable def doRegion (cx : Cx) (ops : Array Oper) (draw : Bool) (fr : Fr) : R Res := match draw with
  | true => bif drawStatic ops then match rec (.draw cx ops 0 ops.toList fr [] []) with
      | .ok (.ext .normal fr) => .ok (.ext .normal fr)
      | .ok _ => .err 154
      | .err e => .err e
    else .err 156
  | false => rec (.ops cx ops ops.toList fr)
noncomputable def loopEnd (cx : Cx) (l : Nat) (fr : Fr) (st : St) : R Res := match st.heap.get l with
  | some (.loop lp) => bif Nat.blt l 1000 then .err 158 else match lp.state with
    | .busy => .err 132
    | _ => forceS { st with heap := st.heap.put l (.loop { lp with state := .exhausted }) } fun st => match lp.pending with
      | none => .ok (.ext .normal { fr with st })
      | some c => rec (.code cx c { fr with st })
  | _ => .err 133
noncomputable def doRangeFunc (cx : Cx) (f : Operand) (params : Array Tmp) (assign body : Code) (fr : Fr) : R Res := (evA T fr.tmps f).bind fun f => match cx.round with
  | some _ => .err 134
  | none => forceS { heap := fr.st.heap.put fr.st.next (.deferred false), next := fr.st.next + 1 } fun st =>
    forceS { heap := st.heap.put st.next (.loop { nt := cx.nt, state := .ready, pending := none, fn := cx.fn, tmps := fr.tmps, params := params.toList, assign, body }), next := st.next + 1 } fun st2 =>
    match callV T st2 f [.yieldF st.next] with
    | .ok (.enter g args st3) => match rec (.call g args st3 none) with
      | .ok (.ret _ st4 _) => loopEnd rec cx st.next { fr with defers := .collected fr.st.next :: fr.defers } st4
      | .ok (.pan v st4 _) => .ok (.ext (.panic v) { fr with st := st4, defers := .collected fr.st.next :: fr.defers })
      | .err e => .err e
      | _ => .err 135
    | .err e => .err e
    | _ => .err 136

noncomputable def doCode (cx : Cx) (c : Code) (fr : Fr) : R Res := match c with
  | .skip | .label _ => .ok (.ext .normal fr)
  | .seq a b => doSeq rec cx a b fr
  | .cond c a b => doCond T rec cx c a b fr
  | .block id c => doBlock rec cx id c fr
  | .loop c => doLoop rec cx c fr
  | .exit id => .ok (.ext (.exit id) fr)
  | .ret => .ok (.ext .ret fr)
  | .goto l => .ok (.ext (.goto l) fr)
  | .region _ ops draw => doRegion rec cx ops draw fr
  | .rangeFunc f ps a b => doRangeFunc T rec cx f ps a b fr
  | .scope c => rec (.scope cx c c fr)
  | .refuse _ => .err 137

noncomputable def afterCall (cx : Cx) (fr : Fr) (d : Option Tmp) (r : R Res) (k : Fr → R Res) : R Res := match r with
  | .ok (.ret v st _) => putF cx fr st d v k
  | .ok (.pan v st _) => .ok (.ext (.panic v) { fr with st })
  | .err e => .err e
  | _ => .err 138

noncomputable def onOut (cx : Cx) (d : Option Tmp) (fr : Fr) (k : Fr → R Res) : Out → R Res
  | .val v st => putF cx fr st d v k
  | .skip st => putF cx fr st d undefA k
  | .enter f args st => afterCall cx fr d (rec (.call f args st none)) k
  | .round l args => afterCall cx fr d (rec (.round l args fr.st)) k
  | .defer f args => match cx.round with
    | some _ => .err 139
    | none => putF cx { fr with defers := .call f args :: fr.defers } fr.st d undefA k
  | .panic v => .ok (.ext (.panic v) fr)
  | .recover => match cx.round with
    | some _ => .err 140
    | none => match cx.pan, fr.recd with
      | some v, false => putF cx { fr with recd := true } fr.st d v k
      | _, _ => putF cx fr fr.st d .nilIface k

noncomputable def oneA (cx : Cx) (all : Array Oper) (o : Oper) (fr : Fr) (k : Fr → R Res) : R Res :=
  match Region.wanted o (yieldedA all fr.tmps) with
  | true => match opA T fr.st fr.tmps o with
    | .ok out => onOut rec cx o.dst fr k out
    | .err e => .err e
  | false => putF cx fr fr.st o.dst undefA k

noncomputable def doOps (cx : Cx) (all : Array Oper) (l : List Oper) (fr : Fr) : R Res := match l with
  | [] => .ok (.ext .normal fr)
  | o :: l => oneA T rec cx all o fr fun fr => rec (.ops cx all l fr)

noncomputable def noteDraw (all : Array Oper) (i : Nat) (o : Oper) (fr fr' : Fr) (lds : List Ld) (sn : List (Nat × St × St)) (k : List Ld → List (Nat × St × St) → R Res) : R Res :=
  match Region.wanted o (yieldedA all fr.tmps) with
  | false => k lds sn
  | true => match o.op with
    | .load ty a => (evA T fr.tmps a).bind fun a => (loadA T fr.st ty a).bind fun v => forceA v fun v => k ({ i, ty, a, v } :: lds) sn
    | op => bif isPure T op then k lds sn else k lds ((i, fr.st, fr'.st) :: sn)

noncomputable def doDraw (cx : Cx) (all : Array Oper) (i : Nat) (l : List Oper) (fr : Fr) (lds : List Ld) (sn : List (Nat × St × St)) : R Res := match l with
  | [] => drawEnd T all fr lds sn
  | o :: l => oneA T rec cx all o fr fun fr' => noteDraw T all i o fr fr' lds sn fun lds sn => forceN (i + 1) fun i => rec (.draw cx all i l fr' lds sn)

noncomputable def doCall (f : FuncId) (args : List AV) (st : St) (pan : Option AV) : R Res := match T.func f with
  | none => .err 141
  | some fn => match fn.body with
    | none => .err 142
    | some c => match rec (.code { fn := f, nt := max fn.ntmps args.length, round := none, pan } c { tmps := initT 0 args Tm.nil, st, defers := [], recd := false }) with
      | .ok (.ext .normal fr) | .ok (.ext .ret fr) => rec (.leave { fn := f, nt := max fn.ntmps args.length, round := none, pan } fn none fr)
      | .ok (.ext (.panic v) fr) => rec (.leave { fn := f, nt := max fn.ntmps args.length, round := none, pan } fn (some v) fr)
      | .err e => .err e
      | _ => .err 143

noncomputable def leaveEnd (fn : Func) (p : Option AV) (fr : Fr) : R Res := match p with
  | some v => .ok (.pan v fr.st fr.recd)
  | none => (resultsA T fr.st fr.tmps fn.results.toList).bind fun vs => .ok (.ret (oneOrTuple vs) fr.st fr.recd)
noncomputable def leaveCollected (cx : Cx) (fn : Func) (p : Option AV) (fr : Fr) (d : Nat) (ds : List ADef) : R Res := match fr.st.heap.get d with
  | some (.deferred false) => bif Nat.blt d 1000 then .err 158 else forceS { fr.st with heap := fr.st.heap.put d (.deferred true) } fun st => rec (.leave cx fn p { fr with defers := ds, st })
  | _ => .err 144
noncomputable def leaveCall (cx : Cx) (fn : Func) (p : Option AV) (fr : Fr) (f : AV) (args : List AV) (ds : List ADef) : R Res := match callV T fr.st f args with
  | .ok (.enter g args st) => match rec (.call g args st p) with
    | .ok (.ret _ st recd) => rec (.leave cx fn (bif recd then none else p) { fr with defers := ds, st })
    | .err e => .err e
    | _ => .err 145
  | .err e => .err e
  | _ => .err 146
noncomputable def doLeave (cx : Cx) (fn : Func) (p : Option AV) (fr : Fr) : R Res := match fr.defers with
  | [] => leaveEnd T fn p fr
  | .collected d :: ds => leaveCollected rec cx fn p fr d ds
  | .call f args :: ds => leaveCall T rec cx fn p fr f args ds

noncomputable def jumpOf : Ext → Option Code
  | .exit id => some (.exit id)
  | .ret => some .ret
  | .goto g => some (.goto g)
  | _ => none
noncomputable def isNone {α : Type} : Option α → Bool
  | none => true
  | some _ => false
noncomputable def roundEnd (l : Nat) (e : Ext) (fr : Fr) : R Res := match e with
  | .panic v => match fr.defers with
    | [] => .ok (.pan v fr.st false)
    | _ :: _ => .err 157
  | e => match fr.st.heap.get l with
    | some (.loop lp) => bif Nat.blt l 1000 then .err 158 else .ok (.ret (.bool (isNone (jumpOf e))) { fr.st with heap := fr.st.heap.put l (.loop { lp with state := bif isNone (jumpOf e) then .ready else .done, pending := jumpOf e }) } false)
    | _ => .err 147
noncomputable def roundBody (l : Nat) (cx : Cx) (body : Code) (fr : Fr) : R Res := match fr.st.heap.get l with
  | some (.loop lp) => match lp.state with
    | .ready => bif Nat.blt l 1000 then .err 158 else forceS { fr.st with heap := fr.st.heap.put l (.loop { lp with state := .busy }) } fun st => match rec (.code cx body { fr with st }) with
      | .ok (.ext e fr) => roundEnd l e fr
      | .err e => .err e
      | _ => .err 148
    | _ => .err 149
  | _ => .err 150
noncomputable def doRound (l : Nat) (args : List AV) (st : St) : R Res := match st.heap.get l with
  | some (.loop lp) => match T.func lp.fn with
    | none => .err 159
    | some _ => match putParams lp.nt lp.params args lp.tmps with
    | some tmps => match rec (.code { fn := lp.fn, nt := lp.nt, round := some l, pan := none } lp.assign { tmps, st, defers := [], recd := false }) with
      | .ok (.ext .normal fr) => roundBody rec l { fn := lp.fn, nt := lp.nt, round := some l, pan := none } lp.body fr
      | .err e => .err e
      | _ => .err 151
    | none => .err 152
  | _ => .err 153

noncomputable def doTask : Task → R Res
  | .code cx c fr => doCode T rec cx c fr
  | .scope cx body c fr => doScope rec cx body c fr
  | .again cx c fr => doLoop rec cx c fr
  | .ops cx all l fr => doOps T rec cx all l fr
  | .draw cx all i l fr lds sn => doDraw T rec cx all i l fr lds sn
  | .call f args st pan => doCall T rec f args st pan
  | .leave cx fn p fr => doLeave T rec cx fn p fr
  | .round l args st => doRound T rec l args st
end

noncomputable def run (T : Tab) (n : Nat) : Task → R Res := Nat.rec (motive := fun _ => Task → R Res) (fun _ => .err 0) (fun _ ih t => doTask T ih t) n

noncomputable def isTrue : R Res → Bool
  | .ok (.ret (.bool b) _ _) => b
  | _ => false
noncomputable def errOf : R Res → Nat
  | .err e => e
  | _ => 0
end Go.Ex
namespace Go.Ex
open Go

/-! ### forcing changes nothing -/
theorem forceN_eq {α : Type} (n : Nat) (k : Nat → α) : forceN n k = k n := by cases n <;> rfl
theorem forceI_eq {α : Type} (n : Int) (k : Int → α) : forceI n k = k n := by cases n <;> simp [forceI, forceN_eq]
theorem forceT_eq {α β : Type} (t : Tr α) (k : Tr α → β) : forceT t k = k t := by cases t <;> rfl
theorem forceS_eq {β : Type} (s : St) (k : St → β) : forceS s k = k s := by
  obtain ⟨h, n⟩ := s
  simp [forceS, forceT_eq, forceN_eq]
theorem forceBytes_eq {β : Type} (l : List UInt8) (k : List UInt8 → β) : forceBytes l k = k l := by
  induction l generalizing k with
  | nil => rfl
  | cons a l ih =>
    show forceN a.toNat (fun n => forceBytes l fun l => k (UInt8.ofNat n :: l)) = _
    rw [forceN_eq, ih]
    simp
theorem forceA_eq {β : Type} (a : AV) : ∀ k : AV → β, forceA a k = k a :=
  AV.rec (motive_1 := fun a => ∀ k : AV → β, forceA a k = k a) (motive_2 := fun l => ∀ k : List AV → β, forceAs l k = k l)
    (fun b k => by cases b <;> rfl)
    (fun kd n k => by show forceI n (fun n => k (.int kd n)) = _; rw [forceI_eq])
    (fun kd n k => by show forceN n (fun n => k (.float kd n)) = _; rw [forceN_eq])
    (fun s k => by obtain ⟨⟨l⟩⟩ := s; show forceBytes l (fun l => k (.string ⟨⟨l⟩⟩)) = _; rw [forceBytes_eq])
    (fun k => rfl)
    (fun v o k => by show forceN v (fun v => forceN o fun o => k (.ptr v o)) = _; simp only [forceN_eq])
    (fun k => rfl)
    (fun v o n c k => by show forceN v (fun v => forceN o fun o => forceN n fun n => forceN c fun c => k (.slice v o n c)) = _; simp only [forceN_eq])
    (fun v o n c k => by show forceN v (fun v => forceN o fun o => forceN n fun n => forceN c fun c => k (.sliceU v o n c)) = _; simp only [forceN_eq])
    (fun k => rfl)
    (fun k => rfl)
    (fun v k => by show forceN v (fun v => k (.map v)) = _; rw [forceN_eq])
    (fun f a b iha ihb k => by show forceAs a (fun a => forceAs b fun b => k (.func f a b)) = _; rw [iha, ihb])
    (fun v k => by show forceN v (fun v => k (.yieldF v)) = _; rw [forceN_eq])
    (fun k => rfl)
    (fun t x ih k => by show forceA x (fun x => k (.iface t x)) = _; rw [ih])
    (fun k => rfl)
    (fun l ih k => by show forceAs l (fun l => k (.agg l)) = _; rw [ih])
    (fun l ih k => by show forceAs l (fun l => k (.tuple l)) = _; rw [ih])
    (fun k => rfl)
    (fun a l iha ihl k => by show forceA a (fun a => forceAs l fun l => k (a :: l)) = _; rw [iha, ihl]) a
theorem forceAs_eq {β : Type} (l : List AV) (k : List AV → β) : forceAs l k = k l := by
  induction l generalizing k with
  | nil => rfl
  | cons a l ih =>
    show forceA a (fun a => forceAs l fun l => k (a :: l)) = _
    rw [forceA_eq, ih]

/-! ### tries -/
theorem Tr.get_nil {α : Type} (n : Nat) : (Tr.nil : Tr α).get n = none := rfl
theorem Tr.get_node {α : Type} (l : Tr α) (v : Option α) (r : Tr α) (n : Nat) :
    (Tr.node l v r).get n = if n = 0 then v else if n % 2 = 1 then l.get (n / 2) else r.get (n / 2 - 1) := by
  show Bool.rec (motive := fun _ => Option α) (Bool.rec (motive := fun _ => Option α) (r.get (n / 2 - 1)) (l.get (n / 2)) (Nat.beq (n % 2) 1)) v (Nat.beq n 0) = _
  by_cases h : n = 0
  · subst h; rfl
  · have h0 : Nat.beq n 0 = false := by
      cases n with
      | zero => exact absurd rfl h
      | succ m => rfl
    rw [h0, if_neg h]
    by_cases h1 : n % 2 = 1
    · rw [if_pos h1, h1]; rfl
    · have h2 : Nat.beq (n % 2) 1 = false := by
        have : n % 2 = 0 := by omega
        rw [this]; rfl
      rw [h2, if_neg h1]
theorem Tr.mkL_eq {α : Type} (l : Tr α) (v : Option α) (r : Tr α) : Tr.mkL l v r = .node l v r := by cases l <;> rfl
theorem Tr.mkR_eq {α : Type} (l : Tr α) (v : Option α) (r : Tr α) : Tr.mkR l v r = .node l v r := by cases r <;> rfl
theorem Tr.one_zero {α : Type} (n : Nat) (a : Option α) : Tr.one 0 n a = .nil := rfl
theorem Tr.one_succ {α : Type} (f n : Nat) (a : Option α) : Tr.one (f + 1) n a =
    if n = 0 then .node .nil a .nil else if n % 2 = 1 then .node (Tr.one f (n / 2) a) none .nil else .node .nil none (Tr.one f (n / 2 - 1) a) := by
  show Bool.rec (motive := fun _ => Tr α) (Bool.rec (motive := fun _ => Tr α) (Tr.mkR .nil none (Tr.one f (n / 2 - 1) a)) (Tr.mkL (Tr.one f (n / 2) a) none .nil) (Nat.beq (n % 2) 1)) (.node .nil a .nil) (Nat.beq n 0) = _
  by_cases h : n = 0
  · subst h; rfl
  · have h0 : Nat.beq n 0 = false := by
      cases n with
      | zero => exact absurd rfl h
      | succ m => rfl
    rw [h0, if_neg h]
    by_cases h1 : n % 2 = 1
    · rw [if_pos h1, h1]; exact Tr.mkL_eq ..
    · have h2 : Nat.beq (n % 2) 1 = false := by
        have : n % 2 = 0 := by omega
        rw [this]; rfl
      rw [h2, if_neg h1]; exact Tr.mkR_eq ..
theorem Tr.set_nil {α : Type} (n : Nat) (a : Option α) : (Tr.nil : Tr α).set n a = Tr.one (n + 1) n a := rfl
theorem Tr.set_node {α : Type} (l : Tr α) (v : Option α) (r : Tr α) (n : Nat) (a : Option α) : (Tr.node l v r).set n a =
    if n = 0 then .node l a r else if n % 2 = 1 then .node (l.set (n / 2) a) v r else .node l v (r.set (n / 2 - 1) a) := by
  show Bool.rec (motive := fun _ => Tr α) (Bool.rec (motive := fun _ => Tr α) (Tr.mkR l v (r.set (n / 2 - 1) a)) (Tr.mkL (l.set (n / 2) a) v r) (Nat.beq (n % 2) 1)) (.node l a r) (Nat.beq n 0) = _
  by_cases h : n = 0
  · subst h; rfl
  · have h0 : Nat.beq n 0 = false := by
      cases n with
      | zero => exact absurd rfl h
      | succ m => rfl
    rw [h0, if_neg h]
    by_cases h1 : n % 2 = 1
    · rw [if_pos h1, h1]; exact Tr.mkL_eq ..
    · have h2 : Nat.beq (n % 2) 1 = false := by
        have : n % 2 = 0 := by omega
        rw [this]; rfl
      rw [h2, if_neg h1]; exact Tr.mkR_eq ..

theorem Tr.get_one {α : Type} (f : Nat) : ∀ (n m : Nat) (a : Option α), n < f → (Tr.one f n a).get m = if m = n then a else none := by
  induction f with
  | zero => intro n m a h; omega
  | succ f ih =>
    intro n m a h
    rw [Tr.one_succ]
    by_cases hn : n = 0
    · subst hn
      rw [if_pos rfl, Tr.get_node]
      by_cases hm : m = 0
      · simp [hm]
      · simp [hm, Tr.get_nil]
    · rw [if_neg hn]
      by_cases h1 : n % 2 = 1
      · rw [if_pos h1, Tr.get_node]
        by_cases hm : m = 0
        · rw [if_pos hm, if_neg (by omega)]
        · rw [if_neg hm]
          by_cases hm1 : m % 2 = 1
          · rw [if_pos hm1, ih _ _ _ (by omega)]
            by_cases e : m = n
            · rw [if_pos (by omega), if_pos e]
            · rw [if_neg (by omega), if_neg e]
          · rw [if_neg hm1, if_neg (by omega), Tr.get_nil]
      · rw [if_neg h1, Tr.get_node]
        by_cases hm : m = 0
        · rw [if_pos hm, if_neg (by omega)]
        · rw [if_neg hm]
          by_cases hm1 : m % 2 = 1
          · rw [if_pos hm1, if_neg (by omega), Tr.get_nil]
          · rw [if_neg hm1, ih _ _ _ (by omega)]
            by_cases e : m = n
            · rw [if_pos (by omega), if_pos e]
            · rw [if_neg (by omega), if_neg e]

theorem Tr.get_set {α : Type} (t : Tr α) : ∀ (n m : Nat) (a : Option α), (t.set n a).get m = if m = n then a else t.get m := by
  induction t with
  | nil => intro n m a; rw [Tr.set_nil, Tr.get_one _ _ _ _ (by omega), Tr.get_nil]
  | node l v r ihl ihr =>
    intro n m a
    rw [Tr.set_node]
    by_cases hn : n = 0
    · subst hn
      rw [if_pos rfl, Tr.get_node, Tr.get_node]
      by_cases hm : m = 0
      · simp [hm]
      · simp [hm]
    · rw [if_neg hn]
      by_cases h1 : n % 2 = 1
      · rw [if_pos h1, Tr.get_node, Tr.get_node]
        by_cases hm : m = 0
        · rw [if_pos hm, if_neg (by omega), if_pos hm]
        · rw [if_neg hm, if_neg hm]
          by_cases hm1 : m % 2 = 1
          · rw [if_pos hm1, if_pos hm1, ihl]
            by_cases e : m = n
            · rw [if_pos (by omega), if_pos e]
            · rw [if_neg (by omega), if_neg e]
          · rw [if_neg hm1, if_neg hm1, if_neg (by omega)]
      · rw [if_neg h1, Tr.get_node, Tr.get_node]
        by_cases hm : m = 0
        · rw [if_pos hm, if_neg (by omega), if_pos hm]
        · rw [if_neg hm, if_neg hm]
          by_cases hm1 : m % 2 = 1
          · rw [if_pos hm1, if_pos hm1, if_neg (by omega)]
          · rw [if_neg hm1, if_neg hm1, ihr]
            by_cases e : m = n
            · rw [if_pos (by omega), if_pos e]
            · rw [if_neg (by omega), if_neg e]
theorem Tr.get_put {α : Type} (t : Tr α) (n m : Nat) (a : α) : (t.put n a).get m = if m = n then some a else t.get m := Tr.get_set t n m (some a)
theorem Tr.get_del {α : Type} (t : Tr α) (n m : Nat) : (t.del n).get m = if m = n then none else t.get m := Tr.get_set t n m none

theorem W1.get_set (w : W1) (i j : Nat) (v : AV) (hi : i < 18) : (w.set i v).get j = if j = i then v else w.get j := by
  obtain ⟨a0, a1, a2, a3, a4, a5, a6, a7, a8, a9, a10, a11, a12, a13, a14, a15, a16, a17⟩ := w
  rcases (by omega : i = 0 ∨ i = 1 ∨ i = 2 ∨ i = 3 ∨ i = 4 ∨ i = 5 ∨ i = 6 ∨ i = 7 ∨ i = 8 ∨ i = 9 ∨ i = 10 ∨ i = 11 ∨ i = 12 ∨ i = 13 ∨ i = 14 ∨ i = 15 ∨ i = 16 ∨ i = 17) with rfl | rfl | rfl | rfl | rfl | rfl | rfl | rfl | rfl | rfl | rfl | rfl | rfl | rfl | rfl | rfl | rfl | rfl <;>
  (by_cases hj : j < 18
   · rcases (by omega : j = 0 ∨ j = 1 ∨ j = 2 ∨ j = 3 ∨ j = 4 ∨ j = 5 ∨ j = 6 ∨ j = 7 ∨ j = 8 ∨ j = 9 ∨ j = 10 ∨ j = 11 ∨ j = 12 ∨ j = 13 ∨ j = 14 ∨ j = 15 ∨ j = 16 ∨ j = 17) with rfl | rfl | rfl | rfl | rfl | rfl | rfl | rfl | rfl | rfl | rfl | rfl | rfl | rfl | rfl | rfl | rfl | rfl <;> rfl
   · rw [if_neg (by omega)]
     match j, hj with
     | j + 18, _ => rfl)
theorem Tm.row_setRow (t : Tm) (i j : Nat) (w : W1) (hi : i < 18) : (t.setRow i w).row j = if j = i then w else t.row j := by
  obtain ⟨b0, b1, b2, b3, b4, b5, b6, b7, b8, b9, b10, b11, b12, b13, b14, b15, b16, b17, rest⟩ := t
  rcases (by omega : i = 0 ∨ i = 1 ∨ i = 2 ∨ i = 3 ∨ i = 4 ∨ i = 5 ∨ i = 6 ∨ i = 7 ∨ i = 8 ∨ i = 9 ∨ i = 10 ∨ i = 11 ∨ i = 12 ∨ i = 13 ∨ i = 14 ∨ i = 15 ∨ i = 16 ∨ i = 17) with rfl | rfl | rfl | rfl | rfl | rfl | rfl | rfl | rfl | rfl | rfl | rfl | rfl | rfl | rfl | rfl | rfl | rfl <;>
  (by_cases hj : j < 18
   · rcases (by omega : j = 0 ∨ j = 1 ∨ j = 2 ∨ j = 3 ∨ j = 4 ∨ j = 5 ∨ j = 6 ∨ j = 7 ∨ j = 8 ∨ j = 9 ∨ j = 10 ∨ j = 11 ∨ j = 12 ∨ j = 13 ∨ j = 14 ∨ j = 15 ∨ j = 16 ∨ j = 17) with rfl | rfl | rfl | rfl | rfl | rfl | rfl | rfl | rfl | rfl | rfl | rfl | rfl | rfl | rfl | rfl | rfl | rfl <;> rfl
   · rw [if_neg (by omega)]
     match j, hj with
     | j + 18, _ => rfl)
theorem Tm.rest_setRow (t : Tm) (i : Nat) (w : W1) : (t.setRow i w).rest = t.rest := by
  obtain ⟨b0, b1, b2, b3, b4, b5, b6, b7, b8, b9, b10, b11, b12, b13, b14, b15, b16, b17, rest⟩ := t
  by_cases hi : i < 18
  · rcases (by omega : i = 0 ∨ i = 1 ∨ i = 2 ∨ i = 3 ∨ i = 4 ∨ i = 5 ∨ i = 6 ∨ i = 7 ∨ i = 8 ∨ i = 9 ∨ i = 10 ∨ i = 11 ∨ i = 12 ∨ i = 13 ∨ i = 14 ∨ i = 15 ∨ i = 16 ∨ i = 17) with rfl | rfl | rfl | rfl | rfl | rfl | rfl | rfl | rfl | rfl | rfl | rfl | rfl | rfl | rfl | rfl | rfl | rfl <;> rfl
  · match i, hi with
    | i + 18, _ => rfl
theorem Tm.row_setRest (t : Tm) (i : Nat) (r : Tr AV) : (t.setRest r).row i = t.row i := by cases t; rfl
theorem Tm.rest_setRest (t : Tm) (r : Tr AV) : (t.setRest r).rest = r := by cases t; rfl
theorem Tm.get_put (t : Tm) (n m : Nat) (v : AV) : (t.put n v).get m = if m = n then some v else t.get m := by
  unfold Tm.put Tm.get
  cases hn : Nat.blt n 324 with
  | true =>
    have hn' : n < 324 := Nat.le_of_ble_eq_true hn
    cases hm : Nat.blt m 324 with
    | true =>
      have hm' : m < 324 := Nat.le_of_ble_eq_true hm
      simp only [cond_true]
      rw [Tm.row_setRow _ _ _ _ (by omega)]
      by_cases hq : m / 18 = n / 18
      · rw [if_pos hq, W1.get_set _ _ _ _ (by omega)]
        by_cases hr : m % 18 = n % 18
        · rw [if_pos hr, if_pos (by omega)]
        · rw [if_neg hr, if_neg (by omega), hq]
      · rw [if_neg hq, if_neg (by intro h; subst h; exact hq rfl)]
    | false =>
      have hm' : ¬ m < 324 := fun h => by rw [show Nat.blt m 324 = true from Nat.ble_eq_true_of_le h] at hm; cases hm
      simp only [cond_true, cond_false]
      rw [Tm.rest_setRow, if_neg (by omega)]
  | false =>
    have hn' : ¬ n < 324 := fun h => by rw [show Nat.blt n 324 = true from Nat.ble_eq_true_of_le h] at hn; cases hn
    cases hm : Nat.blt m 324 with
    | true =>
      have hm' : m < 324 := Nat.le_of_ble_eq_true hm
      simp only [cond_true, cond_false]
      rw [Tm.row_setRest, if_neg (by omega)]
    | false =>
      simp only [cond_false]
      rw [Tm.rest_setRest, Tr.get_put]
theorem W1.get_z (i : Nat) : W1.z.get i = undefA := by
  by_cases hi : i < 18
  · rcases (by omega : i = 0 ∨ i = 1 ∨ i = 2 ∨ i = 3 ∨ i = 4 ∨ i = 5 ∨ i = 6 ∨ i = 7 ∨ i = 8 ∨ i = 9 ∨ i = 10 ∨ i = 11 ∨ i = 12 ∨ i = 13 ∨ i = 14 ∨ i = 15 ∨ i = 16 ∨ i = 17) with rfl | rfl | rfl | rfl | rfl | rfl | rfl | rfl | rfl | rfl | rfl | rfl | rfl | rfl | rfl | rfl | rfl | rfl <;> rfl
  · match i, hi with
    | i + 18, _ => cases i <;> rfl
theorem Tm.row_nil (i : Nat) : Tm.nil.row i = W1.z := by
  by_cases hi : i < 18
  · rcases (by omega : i = 0 ∨ i = 1 ∨ i = 2 ∨ i = 3 ∨ i = 4 ∨ i = 5 ∨ i = 6 ∨ i = 7 ∨ i = 8 ∨ i = 9 ∨ i = 10 ∨ i = 11 ∨ i = 12 ∨ i = 13 ∨ i = 14 ∨ i = 15 ∨ i = 16 ∨ i = 17) with rfl | rfl | rfl | rfl | rfl | rfl | rfl | rfl | rfl | rfl | rfl | rfl | rfl | rfl | rfl | rfl | rfl | rfl <;> rfl
  · match i, hi with
    | i + 18, _ => rfl
theorem Tm.get_nil (n : Nat) : (Tm.nil.get n).getD undefA = undefA := by
  unfold Tm.get
  rw [Tm.row_nil, W1.get_z]
  cases Nat.blt n 324 with
  | true => rfl
  | false => exact congrArg (·.getD undefA) (Tr.get_nil n)
theorem forceW_eq {β : Type} (w : W1) (k : W1 → β) : forceW w k = k w := by cases w; rfl
theorem forceTm_eq {β : Type} (t : Tm) (k : Tm → β) : forceTm t k = k t := by
  cases t
  simp only [forceTm, forceW_eq, forceT_eq]

/-! ### results -/
theorem R.bind_ok {α β : Type} {x : R α} {f : α → R β} {b : β} (h : x.bind f = .ok b) : ∃ a, x = .ok a ∧ f a = .ok b := by
  cases x with
  | ok a => exact ⟨a, rfl, h⟩
  | err s => cases h
theorem opt_ok {α : Type} {s : Nat} {x : Option α} {a : α} (h : opt s x = .ok a) : x = some a := by
  cases x with
  | none => cases h
  | some b => cases h; rfl

/-! ### the relation -/
/-- where a virtual block lies: the real block, the place in it where it begins, the real block's number of cells -/
structure PI where
  block : Nat
  base : Nat
  size : Nat

abbrev Phi := Nat → Option PI
def Phi.le (φ ψ : Phi) : Prop := ∀ v i, φ v = some i → ψ v = some i
theorem Phi.le_refl (φ : Phi) : φ.le φ := fun _ _ h => h
theorem Phi.le_trans {φ ψ χ : Phi} (h : φ.le ψ) (h' : ψ.le χ) : φ.le χ := fun v i e => h' v i (h v i e)

def PI.at (i : PI) (off : Nat) : Addr := ⟨i.block, i.base + off, none⟩

mutual
def VR (φ : Phi) : AV → Value → Prop
  | .bool b, v => v = .bool b
  | .int k n, v => v = .int k n
  | .float k n, v => v = .float k n
  | .string s, v => v = .string s
  | .nilptr, v => v = .pointer none
  | .ptr b off, v => ∃ i, φ b = some i ∧ v = .pointer (some (i.at off))
  | .nilslice, v => v = .slice none 0 0
  | .slice b off len cap, v => ∃ i, φ b = some i ∧ v = .slice (some (i.at off)) len cap
  | .sliceU b off len esz, v => ∃ i c, φ b = some i ∧ len ≤ c ∧ i.base + off + c * esz ≤ i.size ∧ v = .slice (some (i.at off)) len c
  | .sliceE, v => ∃ a c, v = .slice (some a) 0 c
  | .nilmap, v => v = .map none
  | .map b, v => ∃ i, φ b = some i ∧ v = .map (some i.block)
  | .func f x y, v => ∃ xs ys, VRs φ x xs ∧ VRs φ y ys ∧ v = .func (.func f) ⟨xs⟩ ⟨ys⟩
  | .yieldF b, v => ∃ i, φ b = some i ∧ v = .func (.yield i.block) ⟨[]⟩ ⟨[]⟩
  | .nilFunc, v => v = .nilFunc
  | .iface t x, v => ∃ y, VR φ x y ∧ v = .iface t y
  | .nilIface, v => v = .nilIface
  | .agg l, v => ∃ xs, VRs φ l xs ∧ v = .agg ⟨xs⟩
  | .tuple l, v => ∃ xs, VRs φ l xs ∧ v = .tuple ⟨xs⟩
def VRs (φ : Phi) : List AV → List Value → Prop
  | [], vs => vs = []
  | a :: l, vs => ∃ x xs, VR φ a x ∧ VRs φ l xs ∧ vs = x :: xs
end

mutual
theorem VR.mono {φ ψ : Phi} (h : φ.le ψ) : ∀ {a : AV} {v : Value}, VR φ a v → VR ψ a v
  | .bool _, _, e => e
  | .int _ _, _, e => e
  | .float _ _, _, e => e
  | .string _, _, e => e
  | .nilptr, _, e => e
  | .ptr _ _, _, ⟨i, a, b⟩ => ⟨i, h _ _ a, b⟩
  | .nilslice, _, e => e
  | .slice .., _, ⟨i, a, b⟩ => ⟨i, h _ _ a, b⟩
  | .sliceU .., _, ⟨i, c, a, b⟩ => ⟨i, c, h _ _ a, b⟩
  | .sliceE, _, e => e
  | .nilmap, _, e => e
  | .map _, _, ⟨i, a, b⟩ => ⟨i, h _ _ a, b⟩
  | .func .., _, ⟨xs, ys, a, b, c⟩ => ⟨xs, ys, VRs.mono h a, VRs.mono h b, c⟩
  | .yieldF _, _, ⟨i, a, b⟩ => ⟨i, h _ _ a, b⟩
  | .nilFunc, _, e => e
  | .iface _ _, _, ⟨y, a, b⟩ => ⟨y, VR.mono h a, b⟩
  | .nilIface, _, e => e
  | .agg _, _, ⟨xs, a, b⟩ => ⟨xs, VRs.mono h a, b⟩
  | .tuple _, _, ⟨xs, a, b⟩ => ⟨xs, VRs.mono h a, b⟩
theorem VRs.mono {φ ψ : Phi} (h : φ.le ψ) : ∀ {l : List AV} {vs : List Value}, VRs φ l vs → VRs ψ l vs
  | [], _, e => e
  | _ :: _, _, ⟨x, xs, a, b, c⟩ => ⟨x, xs, VR.mono h a, VRs.mono h b, c⟩
end

theorem VRs.length {φ : Phi} : ∀ {l : List AV} {vs : List Value}, VRs φ l vs → vs.length = l.length
  | [], _, e => by rw [e]; rfl
  | _ :: _, _, ⟨_, _, _, b, c⟩ => by rw [c]; simp [VRs.length b]
theorem VRs.append {φ : Phi} : ∀ {l m : List AV} {vs ws : List Value}, VRs φ l vs → VRs φ m ws → VRs φ (l ++ m) (vs ++ ws)
  | [], _, _, _, e, h => by rw [e]; exact h
  | _ :: _, _, _, _, ⟨x, xs, a, b, c⟩, h => by rw [c]; exact ⟨x, _, a, VRs.append b h, rfl⟩
theorem VRs.drop {φ : Phi} : ∀ (n : Nat) {l : List AV} {vs : List Value}, VRs φ l vs → VRs φ (l.drop n) (vs.drop n)
  | 0, _, _, h => by simpa using h
  | _ + 1, [], _, e => by rw [e]; simp [VRs]
  | n + 1, _ :: _, _, ⟨_, _, _, b, c⟩ => by rw [c]; simpa using VRs.drop n b
theorem VRs.getElem? {φ : Phi} : ∀ {l : List AV} {vs : List Value} (_ : VRs φ l vs) (k : Nat) {a : AV}, l[k]? = some a → ∃ v, vs[k]? = some v ∧ VR φ a v
  | [], _, _, k, a, h => by simp at h
  | _ :: _, _, ⟨x, xs, a, b, c⟩, 0, y, h => by simp at h; subst h; exact ⟨x, by simp [c], a⟩
  | _ :: _, _, ⟨x, xs, a, b, c⟩, k + 1, y, h => by
    obtain ⟨v, h1, h2⟩ := VRs.getElem? b k (a := y) (by simpa using h)
    exact ⟨v, by simpa [c] using h1, h2⟩
theorem VRs.take {φ : Phi} : ∀ (n : Nat) {l r : List AV} {vs : List Value}, takeExact n l = some r → VRs φ l vs → VRs φ r (vs.take n) ∧ n ≤ vs.length ∧ r.length = n
  | 0, l, r, vs, h, _ => by
    have : r = [] := by cases l <;> simp [takeExact] at h <;> exact h
    subst this; simp [VRs]
  | n + 1, [], _, _, h, _ => by simp [takeExact] at h
  | n + 1, a :: l, r, vs, h, ⟨x, xs, ha, hl, hv⟩ => by
    simp only [takeExact] at h
    cases ht : takeExact n l with
    | none => rw [ht] at h; simp at h
    | some r' =>
      rw [ht] at h
      simp at h
      subst h
      obtain ⟨h1, h2, h3⟩ := VRs.take n ht hl
      subst hv
      exact ⟨⟨x, _, ha, h1, by simp⟩, by simp; exact h2, by simp [h3]⟩

theorem VRs.take' {φ : Phi} : ∀ (n : Nat) {l : List AV} {vs : List Value}, VRs φ l vs → VRs φ (l.take n) (vs.take n)
  | 0, _, _, _ => by simp [VRs]
  | _ + 1, [], _, e => by rw [e]; simp [VRs]
  | n + 1, _ :: _, _, ⟨x, xs, a, b, c⟩ => by rw [c]; exact ⟨x, _, a, VRs.take' n b, by simp⟩

/-! ### values without addresses -/
mutual
theorem ofV_VR (φ : Phi) : ∀ (v : Value) {a : AV}, ofV v = some a → VR φ a v
  | .bool b, _, h => by simp [ofV] at h; subst h; rfl
  | .int k n, _, h => by simp [ofV] at h; subst h; rfl
  | .float k n, _, h => by simp [ofV] at h; subst h; rfl
  | .string s, _, h => by simp [ofV] at h; subst h; rfl
  | .pointer none, _, h => by simp [ofV] at h; subst h; rfl
  | .pointer (some _), _, h => by simp [ofV] at h
  | .slice none 0 0, _, h => by simp [ofV] at h; subst h; rfl
  | .slice none (_ + 1) _, _, h => by simp [ofV] at h
  | .slice none 0 (_ + 1), _, h => by simp [ofV] at h
  | .slice (some _) _ _, _, h => by simp [ofV] at h
  | .map none, _, h => by simp [ofV] at h; subst h; rfl
  | .map (some _), _, h => by simp [ofV] at h
  | .chan _, _, h => by simp [ofV] at h
  | .complex .., _, h => by simp [ofV] at h
  | .nilFunc, _, h => by simp [ofV] at h; subst h; rfl
  | .nilIface, _, h => by simp [ofV] at h; subst h; rfl
  | .iface t v, _, h => by
    simp only [ofV] at h
    cases hv : ofV v with
    | none => rw [hv] at h; simp at h
    | some x => rw [hv] at h; simp at h; subst h; exact ⟨v, ofV_VR φ v hv, rfl⟩
  | .agg ⟨l⟩, _, h => by
    simp only [ofV] at h
    cases hv : ofVs l with
    | none => rw [hv] at h; simp at h
    | some x => rw [hv] at h; simp at h; subst h; exact ⟨l, ofVs_VR φ l hv, rfl⟩
  | .tuple ⟨l⟩, _, h => by
    simp only [ofV] at h
    cases hv : ofVs l with
    | none => rw [hv] at h; simp at h
    | some x => rw [hv] at h; simp at h; subst h; exact ⟨l, ofVs_VR φ l hv, rfl⟩
  | .func f ⟨x⟩ ⟨y⟩, _, h => by
    cases f <;> cases x <;> cases y <;> simp [ofV] at h
    subst h
    exact ⟨[], [], rfl, rfl, rfl⟩
theorem ofVs_VR (φ : Phi) : ∀ (vs : List Value) {l : List AV}, ofVs vs = some l → VRs φ l vs
  | [], _, h => by simp [ofVs] at h; subst h; rfl
  | v :: vs, _, h => by
    simp only [ofVs] at h
    cases hv : ofV v with
    | none => rw [hv] at h; simp at h
    | some x =>
      rw [hv] at h
      cases hl : ofVs vs with
      | none => rw [hl] at h; simp at h
      | some xs =>
        rw [hl] at h
        simp at h
        subst h
        exact ⟨v, vs, ofV_VR φ v hv, ofVs_VR φ vs hl, rfl⟩
end

mutual
theorem toV_eq {φ : Phi} : ∀ (a : AV) {v w : Value}, toV a = some v → VR φ a w → w = v
  | .bool _, _, _, h, e => by simp [toV] at h; subst h; exact e
  | .int _ _, _, _, h, e => by simp [toV] at h; subst h; exact e
  | .float _ _, _, _, h, e => by simp [toV] at h; subst h; exact e
  | .string _, _, _, h, e => by simp [toV] at h; subst h; exact e
  | .nilptr, _, _, h, e => by simp [toV] at h; subst h; exact e
  | .nilslice, _, _, h, e => by simp [toV] at h; subst h; exact e
  | .nilmap, _, _, h, e => by simp [toV] at h; subst h; exact e
  | .nilFunc, _, _, h, e => by simp [toV] at h; subst h; exact e
  | .nilIface, _, _, h, e => by simp [toV] at h; subst h; exact e
  | .ptr .., _, _, h, _ => by simp [toV] at h
  | .slice .., _, _, h, _ => by simp [toV] at h
  | .sliceU .., _, _, h, _ => by simp [toV] at h
  | .sliceE, _, _, h, _ => by simp [toV] at h
  | .map _, _, _, h, _ => by simp [toV] at h
  | .func .., _, _, h, _ => by simp [toV] at h
  | .yieldF _, _, _, h, _ => by simp [toV] at h
  | .iface t a, _, _, h, ⟨y, hy, e⟩ => by
    simp only [toV] at h
    cases hv : toV a with
    | none => rw [hv] at h; simp at h
    | some x => rw [hv] at h; simp at h; subst h; rw [e, toV_eq a hv hy]
  | .agg l, _, _, h, ⟨xs, hx, e⟩ => by
    simp only [toV] at h
    cases hv : toVs l with
    | none => rw [hv] at h; simp at h
    | some x => rw [hv] at h; simp at h; subst h; rw [e, toVs_eq l hv hx]
  | .tuple l, _, _, h, ⟨xs, hx, e⟩ => by
    simp only [toV] at h
    cases hv : toVs l with
    | none => rw [hv] at h; simp at h
    | some x => rw [hv] at h; simp at h; subst h; rw [e, toVs_eq l hv hx]
theorem toVs_eq {φ : Phi} : ∀ (l : List AV) {vs ws : List Value}, toVs l = some vs → VRs φ l ws → ws = vs
  | [], _, _, h, e => by simp [toVs] at h; subst h; exact e
  | a :: l, _, _, h, ⟨x, xs, hx, hxs, e⟩ => by
    simp only [toVs] at h
    cases hv : toV a with
    | none => rw [hv] at h; simp at h
    | some y =>
      rw [hv] at h
      cases hl : toVs l with
      | none => rw [hl] at h; simp at h
      | some ys =>
        rw [hl] at h
        simp at h
        subst h
        rw [e, toV_eq a hv hx, toVs_eq l hl hxs]
end
end Go.Ex
namespace Go.Ex
open Go Go.RowKit

/-! ### memory -/
def TR (φ : Phi) (t : Tm) (tmps : Array Value) : Prop := ∀ i, VR φ ((t.get i).getD undefA) (tmps.getD i undef)
theorem TR.mono {φ ψ : Phi} (h : φ.le ψ) {t : Tm} {tmps : Array Value} (ht : TR φ t tmps) : TR ψ t tmps := fun i => (ht i).mono h

structure LR (φ : Phi) (lp : ALoop) (L : Loop) : Prop where
  state : L.state = lp.state
  pending : L.pending = lp.pending
  fn : L.fn = lp.fn
  params : L.params.toList = lp.params
  assign : L.assign = lp.assign
  body : L.body = lp.body
  tmps : TR φ lp.tmps L.tmps
  size : L.tmps.size = lp.nt

def ER (φ : Phi) : List (AV × AV × Nat) → List MapEntry → Prop
  | [], es => es = []
  | (k, x, b) :: l, es => ∃ e r, VR φ k e.key ∧ VR φ x e.val ∧ e.born = b ∧ ER φ l r ∧ es = e :: r
theorem ER.mono {φ ψ : Phi} (h : φ.le ψ) : ∀ {l : List (AV × AV × Nat)} {es : List MapEntry}, ER φ l es → ER ψ l es
  | [], _, e => e
  | (_, _, _) :: _, _, ⟨e, r, a, b, c, d, f⟩ => ⟨e, r, a.mono h, b.mono h, c, ER.mono h d, f⟩

/-- what a virtual block says of the real one -/
def OR (φ : Phi) (v : Nat) (i : PI) (w : World) : AObj → Prop
  | .cells l e x => ∃ c e' fr, w.heap[i.block]? = some (.cells c e' fr) ∧ c.size = i.size ∧ (x = true → i.base = 0 ∧ c.size = l.length) ∧
      (1000 ≤ v → e' = e ∧ ∀ k, k < c.size → ¬ (fr.1 ≤ k ∧ k < fr.2)) ∧ i.base + l.length ≤ c.size ∧ VRs φ l ((c.toList.drop i.base).take l.length)
  | .map es clock => ∃ es', w.heap[i.block]? = some (.map es' clock) ∧ ER φ es es'.toList
  | .strIter s pos => w.heap[i.block]? = some (.stringIter s pos) ∧ i.base = 0
  | .loop lp => ∃ L, w.heap[i.block]? = some (.loop L) ∧ LR φ lp L
  | .deferred t => w.heap[i.block]? = some (.deferred (if t then none else some []))

theorem OR.mono {φ ψ : Phi} {v : Nat} {i : PI} {w w' : World} {o : AObj} (h : φ.le ψ) (hw : w'.heap[i.block]? = w.heap[i.block]?) (ho : OR φ v i w o) : OR ψ v i w' o := by
  cases o with
  | cells l e x =>
    obtain ⟨c, e', fr, h1, h2, h3, h4, h5, h6⟩ := ho
    exact ⟨c, e', fr, hw.trans h1, h2, h3, h4, h5, h6.mono h⟩
  | map es clock =>
    obtain ⟨es', h1, h2⟩ := ho
    exact ⟨es', hw.trans h1, h2.mono h⟩
  | strIter s pos => exact ⟨hw.trans ho.1, ho.2⟩
  | loop lp =>
    obtain ⟨L, h1, h2⟩ := ho
    exact ⟨L, hw.trans h1, ⟨h2.state, h2.pending, h2.fn, h2.params, h2.assign, h2.body, h2.tmps.mono h, h2.size⟩⟩
  | deferred t => exact hw.trans ho

theorem OR.lt {φ : Phi} {v : Nat} {i : PI} {w : World} {o : AObj} (ho : OR φ v i w o) : i.block < w.heap.size := by
  have key : ∀ {x : Obj}, w.heap[i.block]? = some x → i.block < w.heap.size := fun h => by
    rcases Nat.lt_or_ge i.block w.heap.size with hlt | hge
    · exact hlt
    · rw [Array.getElem?_eq_none hge] at h; cases h
  cases o with
  | cells l e x => obtain ⟨c, e', fr, h1, _⟩ := ho; exact key h1
  | map es clock => obtain ⟨es', h1, _⟩ := ho; exact key h1
  | strIter s pos => exact key ho.1
  | loop lp => obtain ⟨L, h1, _⟩ := ho; exact key h1
  | deferred t => exact key ho

/-- the executor's memory against the model's: B: the blocks from which on all is the run's own; W: the world in which it began -/
structure SR (ng B : Nat) (W : World) (φ : Phi) (s : St) (w : World) : Prop where
  heap : ∀ v o, s.heap.get v = some o → ∃ i, φ v = some i ∧ OR φ v i w o
  inj : ∀ u v i j, 1000 ≤ u → 1000 ≤ v → (s.heap.get u).isSome → (s.heap.get v).isSome → φ u = some i → φ v = some j → i.block = j.block → u = v
  own : ∀ v i, 1000 ≤ v → (s.heap.get v).isSome → φ v = some i → B ≤ i.block
  glob : ∀ v i, v < 1000 → φ v = some i → i.block < B
  fresh : ∀ v, s.next ≤ v → φ v = none
  low : 1000 ≤ s.next
  below : Below B W w
  bsize : B ≤ w.heap.size
  globals : ∀ g, g < ng → ∃ n, φ g = some ⟨g, 0, n⟩

section
variable {ng B : Nat} {W : World} {φ : Phi} {s : St} {w : World}

theorem SR.drew (h : SR ng B W φ s w) : SR ng B W φ s { w with drawn := w.drawn + 1 } :=
  ⟨fun v o e => by obtain ⟨i, h1, h2⟩ := h.heap v o e; exact ⟨i, h1, h2.mono (Phi.le_refl φ) rfl⟩, h.inj, h.own, h.glob, h.fresh, h.low,
    ⟨h.below.os, h.below.tape, h.below.output, h.below.size, h.below.block⟩, h.bsize, h.globals⟩

def Phi.put (φ : Phi) (v : Nat) (i : PI) : Phi := fun u => if u = v then some i else φ u
theorem Phi.le_put {φ : Phi} {v : Nat} {i : PI} (h : φ v = none) : φ.le (φ.put v i) := by
  intro u j e
  unfold Phi.put
  rw [if_neg]
  · exact e
  · intro hu; subst hu; rw [h] at e; cases e
theorem Phi.put_same (φ : Phi) (v : Nat) (i : PI) : φ.put v i v = some i := by simp [Phi.put]
theorem Phi.put_other (φ : Phi) {u v : Nat} (i : PI) (h : u ≠ v) : φ.put v i u = φ u := by simp [Phi.put, h]

theorem pushed_new (w : World) (o : Obj) : (w.alloc o).heap[w.heap.size]? = some o := heap_alloc_new w o
theorem pushed_old (w : World) (o : Obj) {b : Nat} (h : b < w.heap.size) : (w.alloc o).heap[b]? = w.heap[b]? := heap_alloc_old w o b h

/-- a new block -/
theorem SR.alloc (h : SR ng B W φ s w) (o : AObj) (obj : Obj) (n : Nat)
    (ho : OR (φ.put s.next ⟨w.heap.size, 0, n⟩) s.next ⟨w.heap.size, 0, n⟩ (w.alloc obj) o) :
    SR ng B W (φ.put s.next ⟨w.heap.size, 0, n⟩) { heap := s.heap.put s.next o, next := s.next + 1 } (w.alloc obj) := by
  have hnone := h.fresh s.next (Nat.le_refl _)
  have hle : φ.le (φ.put s.next ⟨w.heap.size, 0, n⟩) := Phi.le_put hnone
  have hne : ∀ v, φ v ≠ none → v ≠ s.next := fun v hv e => hv (e ▸ hnone)
  have hold : ∀ v, v ≠ s.next → ((s.heap.put s.next o).get v).isSome → (s.heap.get v).isSome := fun v hv => by rw [Tr.get_put, if_neg hv]; exact id
  have hlt : ∀ v i, v ≠ s.next → ((s.heap.put s.next o).get v).isSome → φ v = some i → i.block < w.heap.size := by
    intro v i hv hs hi
    obtain ⟨x, hx⟩ := Option.isSome_iff_exists.1 (hold v hv hs)
    obtain ⟨j, hj, hor⟩ := h.heap v x hx
    rw [hi] at hj
    cases hj
    exact hor.lt
  refine ⟨?_, ?_, ?_, ?_, ?_, by have := h.low; show 1000 ≤ s.next + 1; omega, ?_, ?_, ?_⟩
  · intro v x e
    rw [Tr.get_put] at e
    by_cases hv : v = s.next
    · subst hv
      rw [if_pos rfl] at e
      cases e
      exact ⟨_, Phi.put_same .., ho⟩
    · rw [if_neg hv] at e
      obtain ⟨i, h1, h2⟩ := h.heap v x e
      exact ⟨i, hle v i h1, h2.mono hle (pushed_old w obj h2.lt)⟩
  · intro u v i j hu1 hv1 hu hv hi hj hb
    by_cases e1 : u = s.next
    · by_cases e2 : v = s.next
      · rw [e1, e2]
      · rw [e1, Phi.put_same] at hi
        cases hi
        rw [Phi.put_other _ _ e2] at hj
        have := hlt v j e2 hv hj
        simp at hb
        omega
    · rw [Phi.put_other _ _ e1] at hi
      by_cases e2 : v = s.next
      · rw [e2, Phi.put_same] at hj
        cases hj
        have := hlt u i e1 hu hi
        simp at hb
        omega
      · rw [Phi.put_other _ _ e2] at hj
        exact h.inj u v i j hu1 hv1 (hold u e1 hu) (hold v e2 hv) hi hj hb
  · intro v i hv hs hi
    by_cases e : v = s.next
    · rw [e, Phi.put_same] at hi
      cases hi
      exact h.bsize
    · rw [Phi.put_other _ _ e] at hi
      exact h.own v i hv (hold v e hs) hi
  · intro v i hv hi
    have e : v ≠ s.next := by have := h.low; omega
    rw [Phi.put_other _ _ e] at hi
    exact h.glob v i hv hi
  · intro v hv
    have e : v ≠ s.next := by have : s.next + 1 ≤ v := hv; omega
    rw [Phi.put_other _ _ e]
    exact h.fresh v (by have : s.next + 1 ≤ v := hv; omega)
  · exact h.below.trans ⟨rfl, rfl, rfl, by simp, fun k hk => pushed_old w obj (Nat.lt_of_lt_of_le hk h.bsize)⟩
  · have := h.bsize; simp; omega
  · intro g hg
    obtain ⟨m, hm⟩ := h.globals g hg
    exact ⟨m, hle _ _ hm⟩

/-- one block of the run's own is written -/
theorem SR.write (h : SR ng B W φ s w) {v : Nat} (hv : 1000 ≤ v) {i : PI} (hi : φ v = some i) {o0 : AObj} (h0 : s.heap.get v = some o0) (o : AObj) (w' : World)
    (hos : w'.os = w.os) (htape : w'.tape = w.tape) (hout : w'.output = w.output) (hsize : w'.heap.size = w.heap.size)
    (hother : ∀ b, b ≠ i.block → w'.heap[b]? = w.heap[b]?) (ho : OR φ v i w' o) :
    SR ng B W φ { s with heap := s.heap.put v o } w' := by
  have hlive : (s.heap.get v).isSome := by rw [h0]; rfl
  have hB := h.own v i hv hlive hi
  have hold : ∀ u, ((s.heap.put v o).get u).isSome → (s.heap.get u).isSome := fun u => by
    rw [Tr.get_put]
    by_cases e : u = v
    · subst e; intro _; exact hlive
    · rw [if_neg e]; exact id
  refine ⟨?_, ?_, ?_, h.glob, h.fresh, h.low, ?_, ?_, h.globals⟩
  · intro u x e
    rw [Tr.get_put] at e
    by_cases hu : u = v
    · subst hu
      rw [if_pos rfl] at e
      cases e
      exact ⟨i, hi, ho⟩
    · rw [if_neg hu] at e
      obtain ⟨j, h1, h2⟩ := h.heap u x e
      refine ⟨j, h1, h2.mono (Phi.le_refl φ) (hother j.block ?_)⟩
      intro eb
      by_cases h1000 : 1000 ≤ u
      · exact hu (h.inj u v j i h1000 hv (by rw [e]; rfl) hlive h1 hi eb)
      · have := h.glob u j (by omega) h1
        omega
  · intro a b x y ha hb hsa hsb hx hy hxy
    exact h.inj a b x y ha hb (hold a hsa) (hold b hsb) hx hy hxy
  · intro a x ha hs hx
    exact h.own a x ha (hold a hs) hx
  · exact h.below.trans ⟨hos, htape, hout, by omega, fun k hk => hother k (by omega)⟩
  · rw [hsize]; exact h.bsize

/-- a virtual block is forgotten -/
theorem SR.forget (h : SR ng B W φ s w) (v : Nat) : SR ng B W φ { s with heap := s.heap.del v } w := by
  have hold : ∀ u, ((s.heap.del v).get u).isSome → (s.heap.get u).isSome := fun u => by
    rw [Tr.get_del]
    by_cases e : u = v
    · rw [if_pos e]; intro h; cases h
    · rw [if_neg e]; exact id
  refine ⟨?_, fun a b x y ha hb hsa hsb => h.inj a b x y ha hb (hold a hsa) (hold b hsb), fun a x ha hs => h.own a x ha (hold a hs), h.glob, h.fresh, h.low, h.below, h.bsize, h.globals⟩
  intro u x e
  rw [Tr.get_del] at e
  by_cases hu : u = v
  · rw [if_pos hu] at e; cases e
  · rw [if_neg hu] at e
    exact h.heap u x e
end
end Go.Ex
namespace Go.Ex
open Go Go.RowKit

/-- what the executor's tables say of the program -/
structure TabOK (T : Tab) : Prop where
  mixed : T.P.follows .mixedOrders = true
  under : ∀ t d, T.under t = some d → T.P.underlying t = some d
  info : ∀ t i, T.info t = some i → T.P.info? t = some i
  func : ∀ f fn, T.func f = some fn → T.P.funcs[f]? = some fn ∧ (fn.name == "runtime.NumGoroutine") = false
  ext : ∀ f g, T.ext f = some (.pure g) → ∀ (args : Array Value) (w : World) (v : Value), (g args).run T.P w = .ok v w → (callFunc f args).run T.P w = .ok (.value v) w
  same : ∀ f, T.ext f = some .same → ∀ (x : Value) (w : World), (callFunc f #[x]).run T.P w = .ok (.value x) w
  noZero : ∀ f fn, T.ext f = some .noZero → T.func f = some fn → ∀ (args : Array Value) (w : World),
    (callFunc f args).run T.P w = (Extern.BytealgMakeNoZero.makeNoZero fn.params fn.resultTypes args >>= fun v => pure (Next.value v)).run T.P w

section
variable {ng B : Nat} {W : World} {φ : Phi} {s : St} {w : World} {T : Tab}

theorem at_add (i : PI) (off j : Nat) : (i.at off).add j = i.at (off + j) := by
  unfold Addr.add PI.at
  split
  · subst_vars; simp
  · simp [Nat.add_assoc]

theorem cell_block {w : World} {b : Nat} {c : Array Value} {e : TypeId} {fr : Nat × Nat} (h : w.heap[b]? = some (.cells c e fr)) (k : Nat) :
    w.cell? ⟨b, k, none⟩ = c[k]? := by simp [World.cell?, h]

theorem ldCells_ok (h : SR ng B W φ s w) {v off n : Nat} {l : List AV} (hl : ldCells s.heap v off n = .ok l) :
    ∃ i vs, φ v = some i ∧ VRs φ l vs ∧ vs.length = n ∧ ∀ j x, vs[j]? = some x → w.cell? (i.at (off + j)) = some x := by
  unfold ldCells at hl
  cases hg : s.heap.get v with
  | none => rw [hg] at hl; cases hl
  | some o =>
    rw [hg] at hl
    cases o with
    | cells l0 e x =>
      have ht := opt_ok hl
      obtain ⟨i, hi, c, e', fr, h1, h2, h3, h4, h5, h6⟩ := h.heap v _ hg
      have hd := h6.drop off
      obtain ⟨q1, q2, q3⟩ := VRs.take n ht hd
      refine ⟨i, _, hi, q1, ?_, ?_⟩
      · simp only [List.length_take] at q2 ⊢
        omega
      · intro j x hx
        rw [PI.at, cell_block h1]
        rw [List.getElem?_take] at hx
        split at hx
        · rw [List.getElem?_drop, List.getElem?_take] at hx
          split at hx
          · rw [List.getElem?_drop] at hx
            simpa [Nat.add_assoc] using hx
          · cases hx
        · cases hx
    | _ => cases hl

theorem run_loadCells_at (a : Addr) (P : Program) (w : World) (vs : List Value) (n : Nat) (hn : vs.length = n) (h : ∀ j x, vs[j]? = some x → w.cell? (a.add j) = some x) :
    (loadCells a n).run P w = .ok ⟨vs⟩ w := by
  have := run_loadCells_list (P := P) w a vs h
  rw [hn] at this
  simpa using this

theorem isAggA_ok (hT : TabOK T) {t : TypeId} {b : Bool} (h : isAggA T t = .ok b) (w : World) : (isAgg t).run T.P w = .ok b w := by
  unfold isAggA at h
  cases hu : T.under t with
  | none => rw [hu] at h; cases h
  | some d =>
    rw [hu] at h
    have := hT.under t d hu
    unfold isAgg
    cases d <;> simp at h <;> subst h <;> simp [run_underlying this]
theorem sizeA_info {t : TypeId} {n : Nat} (hT : TabOK T) (h : sizeA T t = .ok n) : ∃ i, T.P.info? t = some i ∧ i.size = n := by
  unfold sizeA at h
  cases hu : T.info t with
  | none => rw [hu] at h; cases h
  | some d => rw [hu] at h; cases h; exact ⟨d, hT.info t d hu, rfl⟩
theorem sizeA_ok (hT : TabOK T) {t : TypeId} {n : Nat} (h : sizeA T t = .ok n) (w : World) : (sizeOf t).run T.P w = .ok n w := by
  obtain ⟨i, h1, h2⟩ := sizeA_info hT h
  simp [sizeOf, typeInfo, h1, h2]
theorem zeroA_ok (hT : TabOK T) {t : TypeId} {z : AV} (h : zeroA T t = .ok z) (w : World) : ∃ zv, (zeroValue t).run T.P w = .ok zv w ∧ VR φ z zv ∧ ∃ i, T.P.info? t = some i ∧ i.zero = some zv := by
  unfold zeroA at h
  cases hu : T.info t with
  | none => rw [hu] at h; cases h
  | some d =>
    rw [hu] at h
    have hi := hT.info t d hu
    cases hz : d.zero with
    | none => simp only [hz] at h; cases h
    | some zv =>
      simp only [hz] at h
      exact ⟨zv, by simp [zeroValue, typeInfo, hi, hz], ofV_VR φ zv (opt_ok h), d, hi, hz⟩

theorem loadA_ok (hT : TabOK T) (h : SR ng B W φ s w) {t : TypeId} {a : AV} {x : AV} (hx : loadA T s t a = .ok x) {av : Value} (ha : VR φ a av) :
    ∃ v, VR φ x v ∧ (Instr.loadAt t av).run T.P w = .ok v w := by
  cases a with
  | ptr b off =>
    obtain ⟨i, hi, rfl⟩ := ha
    simp only [loadA] at hx
    obtain ⟨g, hg, hx⟩ := R.bind_ok hx
    have hag := isAggA_ok hT hg w
    cases g with
    | true =>
      simp only at hx
      obtain ⟨n, hn, hx⟩ := R.bind_ok hx
      obtain ⟨l, hl, hx⟩ := R.bind_ok hx
      cases hx
      obtain ⟨i', vs, hi', hv, hlen, hc⟩ := ldCells_ok h hl
      rw [hi] at hi'; cases hi'
      refine ⟨_, ⟨vs, hv, rfl⟩, ?_⟩
      have hr := run_loadCells_at (i.at off) T.P w vs n hlen (fun j x hj => by rw [at_add]; exact hc j x hj)
      simp [Instr.loadAt, Instr.sureAddr, loadVar, hag, sizeA_ok hT hn w, hr]
    | false =>
      simp only at hx
      obtain ⟨l, hl, hx⟩ := R.bind_ok hx
      obtain ⟨i', vs, hi', hv, hlen, hc⟩ := ldCells_ok h hl
      rw [hi] at hi'; cases hi'
      match l, hx with
      | [y], hx =>
        cases hx
        obtain ⟨z, zs, hz, hzs, rfl⟩ := hv
        have := hc 0 z (by simp)
        refine ⟨z, hz, ?_⟩
        simp at this
        simp [Instr.loadAt, Instr.sureAddr, loadVar, hag, this]
  | _ => cases hx

theorem VR.cells {φ : Phi} {a : AV} {v : Value} (h : VR φ a v) : VRs φ a.cells v.cells.toList := by
  cases a with
  | agg l => obtain ⟨xs, h1, rfl⟩ := h; simpa [AV.cells, Value.cells] using h1
  | bool b => cases h; exact ⟨_, [], rfl, rfl, by simp [Value.cells]⟩
  | int k n => cases h; exact ⟨_, [], rfl, rfl, by simp [Value.cells]⟩
  | float k n => cases h; exact ⟨_, [], rfl, rfl, by simp [Value.cells]⟩
  | string b => cases h; exact ⟨_, [], rfl, rfl, by simp [Value.cells]⟩
  | nilptr => cases h; exact ⟨_, [], rfl, rfl, by simp [Value.cells]⟩
  | nilslice => cases h; exact ⟨_, [], rfl, rfl, by simp [Value.cells]⟩
  | nilmap => cases h; exact ⟨_, [], rfl, rfl, by simp [Value.cells]⟩
  | nilFunc => cases h; exact ⟨_, [], rfl, rfl, by simp [Value.cells]⟩
  | nilIface => cases h; exact ⟨_, [], rfl, rfl, by simp [Value.cells]⟩
  | ptr v o => obtain ⟨i, hi, rfl⟩ := h; exact ⟨_, [], ⟨i, hi, rfl⟩, rfl, by simp [Value.cells]⟩
  | slice a b c d => obtain ⟨i, hi, rfl⟩ := h; exact ⟨_, [], ⟨i, hi, rfl⟩, rfl, by simp [Value.cells]⟩
  | sliceU a b c d => obtain ⟨i, n, h1, h2, h3, rfl⟩ := h; exact ⟨_, [], ⟨i, n, h1, h2, h3, rfl⟩, rfl, by simp [Value.cells]⟩
  | sliceE => obtain ⟨x, c, rfl⟩ := h; exact ⟨_, [], ⟨x, c, rfl⟩, rfl, by simp [Value.cells]⟩
  | map v => obtain ⟨i, hi, rfl⟩ := h; exact ⟨_, [], ⟨i, hi, rfl⟩, rfl, by simp [Value.cells]⟩
  | func f a b => obtain ⟨xs, ys, h1, h2, rfl⟩ := h; exact ⟨_, [], ⟨xs, ys, h1, h2, rfl⟩, rfl, by simp [Value.cells]⟩
  | yieldF v => obtain ⟨i, hi, rfl⟩ := h; exact ⟨_, [], ⟨i, hi, rfl⟩, rfl, by simp [Value.cells]⟩
  | iface t x => obtain ⟨y, hy, rfl⟩ := h; exact ⟨_, [], ⟨y, hy, rfl⟩, rfl, by simp [Value.cells]⟩
  | tuple l => obtain ⟨xs, h1, rfl⟩ := h; exact ⟨_, [], ⟨xs, h1, rfl⟩, rfl, by simp [Value.cells]⟩

theorem single_one {φ : Phi} {a : AV} {v : Value} (h : VR φ a v) (hs : single a = true) : v.oneCell' = true := by
  cases a with
  | agg l => cases hs
  | tuple l => cases hs
  | bool b => cases h; rfl
  | int k n => cases h; rfl
  | float k n => cases h; rfl
  | string b => cases h; rfl
  | nilptr => cases h; rfl
  | nilslice => cases h; rfl
  | nilmap => cases h; rfl
  | nilFunc => cases h; rfl
  | nilIface => cases h; rfl
  | ptr v o => obtain ⟨i, hi, rfl⟩ := h; rfl
  | slice a b c d => obtain ⟨i, hi, rfl⟩ := h; rfl
  | sliceU a b c d => obtain ⟨i, n, h1, h2, h3, rfl⟩ := h; rfl
  | sliceE => obtain ⟨x, c, rfl⟩ := h; rfl
  | map v => obtain ⟨i, hi, rfl⟩ := h; rfl
  | func f a b => obtain ⟨xs, ys, h1, h2, rfl⟩ := h; rfl
  | yieldF v => obtain ⟨i, hi, rfl⟩ := h; rfl
  | iface t x => obtain ⟨y, hy, rfl⟩ := h; rfl
theorem allSingle_one {φ : Phi} : ∀ {l : List AV} {vs : List Value}, VRs φ l vs → allSingle l = true → ∀ v ∈ vs, v.oneCell' = true
  | [], _, h, _, v, hv => by rw [h] at hv; cases hv
  | a :: l, _, ⟨x, xs, h1, h2, e⟩, hs, v, hv => by
    simp only [allSingle, Bool.and_eq_true] at hs
    rw [e] at hv
    rcases List.mem_cons.1 hv with rfl | hv
    · exact single_one h1 hs.1
    · exact allSingle_one h2 hs.2 v hv

/-- cells of one block are written, one after the other -/
theorem run_storeCells_block (P : Program) (g o : Nat) (t : TypeId) (fr : Nat × Nat) : ∀ (vs : List Value) (i : Nat) (cur : Array Value) (w : World),
    w.heap[g]? = some (.cells cur t fr) → o + i + vs.length ≤ cur.size → (∀ v ∈ vs, v.oneCell' = true) → (∀ k, k < cur.size → ¬ (fr.1 ≤ k ∧ k < fr.2)) →
    ∃ w', (storeCells ⟨g, o, none⟩ vs i).run P w = .ok () w' ∧ w'.heap[g]? = some (.cells (cur.toList.take (o + i) ++ vs ++ cur.toList.drop (o + i + vs.length)).toArray t fr) ∧
      (∀ b, b ≠ g → w'.heap[b]? = w.heap[b]?) ∧ w'.os = w.os ∧ w'.tape = w.tape ∧ w'.output = w.output ∧ w'.heap.size = w.heap.size
  | [], i, cur, w, hg, _, _, _ => by
    refine ⟨w, rfl, ?_, fun _ _ => rfl, rfl, rfl, rfl, rfl⟩
    simpa using hg
  | v :: rest, i, cur, w, hg, hl, h1, hf => by
    have hi : o + i < cur.size := by simp at hl; omega
    have hadd : (⟨g, o, none⟩ : Addr).add i = ⟨g, o + i, none⟩ := by unfold Addr.add; split <;> simp_all
    have hcell : w.cell? ⟨g, o + i, none⟩ = some cur[o + i] := by simp [World.cell?, hg, hi]
    have hfro : w.frozen? ⟨g, o + i, none⟩ = false := by
      have := hf (o + i) hi
      simp only [World.frozen?, hg]
      by_cases c1 : fr.1 ≤ o + i
      · by_cases c2 : o + i < fr.2
        · exact absurd ⟨c1, c2⟩ this
        · simp [c2]
      · simp [c1]
    have hlt : g < w.heap.size := by
      rcases Nat.lt_or_ge g w.heap.size with h | h
      · exact h
      · rw [Array.getElem?_eq_none h] at hg; cases hg
    have hheap : (w.setCell ⟨g, o + i, none⟩ v).heap[g]? = some (.cells (cur.setIfInBounds (o + i) v) t fr) := by
      simp [World.setCell, Array.getElem?_modify, hg]
    have hst : (store ((⟨g, o, none⟩ : Addr).add i) v).run P w = .ok () (w.setCell ⟨g, o + i, none⟩ v) := by
      rw [hadd, run_store P w _ v _ (h1 v (by simp)), hcell]
      simp [hfro]
    obtain ⟨w', q1, q2, q3, q4, q5, q6, q7⟩ := run_storeCells_block P g o t fr rest (i + 1) (cur.setIfInBounds (o + i) v) (w.setCell ⟨g, o + i, none⟩ v) hheap
      (by simp at hl ⊢; omega) (fun x hx => h1 x (by simp [hx])) (fun k hk => hf k (by simpa using hk))
    refine ⟨w', ?_, ?_, ?_, q4, q5, q6, ?_⟩
    · simp only [storeCells, Sem.run_bind, hst, Result.andThen_ok, q1]
    · rw [q2]
      congr 2
      have e := list_seg_step cur.toList (o + i) v rest (by simp at hl ⊢; omega)
      simpa [Array.toList_setIfInBounds, Nat.add_assoc] using e
    · intro b hb
      rw [q3 b hb]
      exact Below.heap_setCell w ⟨g, o + i, none⟩ v b hb
    · rw [q7]; simp [World.setCell]
end
end Go.Ex
