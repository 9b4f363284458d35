/- The executor: a big-step reading of the program as the model runs it, made for evaluation by the kernel, and its soundness (part ExG). -/
import Derived.Test.YtmkdjmoifkffgaaGreatDoorExH
import Derived.Test.YtmkdjmoifkffgaaGreatDoorExF
import Derived.Laws.Strings
set_option linter.unusedVariables false
set_option linter.unusedSimpArgs false
set_option linter.unusedSectionVars false
namespace Go.Ex
open Go Go.RowKit

/-! ### what the lean executor's parts answer -/
section elims
variable {res : Res} {a : AV} {e : RR}
theorem asPtr_ok {k : Nat → Nat → RR} (h : asPtr a k e = .ok res) : (∃ v o, k v o = .ok res ∧ a = .ptr v o) ∨ e = .ok res := by
  cases a <;> first | exact .inr h | exact .inl ⟨_, _, h, rfl⟩
theorem asBool_ok {kt kf : RR} (h : asBool a kt kf e = .ok res) : (kt = .ok res ∧ a = .bool true) ∨ (kf = .ok res ∧ a = .bool false) ∨ e = .ok res := by
  cases a with
  | bool b => cases b with
    | true => exact .inl ⟨h, rfl⟩
    | false => exact .inr (.inl ⟨h, rfl⟩)
  | _ => exact .inr (.inr h)
theorem asNat_ok {k : Nat → RR} (h : asNat a k e = .ok res) : (∃ kd n, k n = .ok res ∧ a = .int kd (.ofNat n)) ∨ e = .ok res := by
  cases a with
  | int kd n => cases n with
    | ofNat n => exact .inl ⟨kd, n, h, rfl⟩
    | negSucc n => exact .inr h
  | _ => exact .inr h
theorem decKind_ok (kd : IntKind) : ∃ q, decKind kd = .mk q ∧ ∀ {a : AV} {k : Nat → RR} {e : RR} {res : Res}, q a k e = .ok res → (∃ n, k n = .ok res ∧ a = .int kd (.ofNat n)) ∨ e = .ok res := by
  cases kd <;> refine ⟨_, rfl, fun {a k e res} h => ?_⟩ <;>
  (cases a with
    | int kd n => cases kd <;> cases n <;> first | exact .inr h | exact .inl ⟨_, h, rfl⟩
    | _ => exact .inr h)
theorem asAgg_ok {k : List AV → RR} (h : asAgg a k e = .ok res) : (∃ l, k l = .ok res ∧ a = .agg l) ∨ e = .ok res := by
  cases a <;> first | exact .inr h | exact .inl ⟨_, h, rfl⟩
theorem asTuple_ok {k : List AV → RR} (h : asTuple a k e = .ok res) : (∃ l, k l = .ok res ∧ a = .tuple l) ∨ e = .ok res := by
  cases a <;> first | exact .inr h | exact .inl ⟨_, h, rfl⟩
theorem asStr_ok {k : List UInt8 → RR} (h : asStr a k e = .ok res) : (∃ l, k l = .ok res ∧ a = .string ⟨⟨l⟩⟩) ∨ e = .ok res := by
  cases a with
  | string s => obtain ⟨⟨l⟩⟩ := s; exact .inl ⟨l, h, rfl⟩
  | _ => exact .inr h
theorem asSl_ok {k : Nat → Nat → Nat → RR} (h : asSl a k e = .ok res) : (∃ v o n c, (a = .slice v o n c ∨ a = .sliceU v o n c) ∧ k v o n = .ok res) ∨ e = .ok res := by
  cases a <;> first | exact .inr h | exact .inl ⟨_, _, _, _, .inl rfl, h⟩ | exact .inl ⟨_, _, _, _, .inr rfl, h⟩
theorem lenSl_ok {k : Nat → RR} (h : lenSl a k e = .ok res) : (∃ n, ((∃ v o c, a = .slice v o n c) ∨ (∃ v o c, a = .sliceU v o n c) ∨ ((a = .nilslice ∨ a = .sliceE) ∧ n = 0)) ∧ k n = .ok res) ∨ e = .ok res := by
  cases a <;> first
    | exact .inl ⟨_, .inl ⟨_, _, _, rfl⟩, h⟩
    | exact .inl ⟨_, .inr (.inl ⟨_, _, _, rfl⟩), h⟩
    | exact .inl ⟨_, .inr (.inr ⟨.inl rfl, rfl⟩), h⟩
    | exact .inl ⟨_, .inr (.inr ⟨.inr rfl, rfl⟩), h⟩
    | exact .inr h
theorem nonNil_ok {k : KA} (h : nonNil a k e = .ok res) : (((∃ v o, a = .ptr v o) ∨ (∃ f x y, a = .func f x y) ∨ (∃ v, a = .yieldF v) ∨ (∃ t x, a = .iface t x)) ∧ k a = .ok res) ∨ e = .ok res := by
  cases a <;> first
    | exact .inl ⟨.inl ⟨_, _, rfl⟩, h⟩
    | exact .inl ⟨.inr (.inl ⟨_, _, _, rfl⟩), h⟩
    | exact .inl ⟨.inr (.inr (.inl ⟨_, rfl⟩)), h⟩
    | exact .inl ⟨.inr (.inr (.inr ⟨_, _, rfl⟩)), h⟩
    | exact .inr h
theorem cellsK_eq (a : AV) (k : List AV → RR) (k1 : RR) : cellsK a k k1 = match a with | .agg l => k l | _ => k1 := by cases a <;> rfl
theorem oneCell_ok {k : RR} (h : oneCell a k e = .ok res) : (single a = true ∧ k = .ok res) ∨ e = .ok res := by
  cases a <;> first | exact .inr h | exact .inl ⟨rfl, h⟩
theorem asCells_ok {o : AObj} {k : List AV → TypeId → Bool → RR} (h : asCells o k e = .ok res) : (∃ l t x, k l t x = .ok res ∧ o = .cells l t x) ∨ e = .ok res := by
  cases o <;> first | exact .inr h | exact .inl ⟨_, _, _, h, rfl⟩
end elims

theorem fN_eq (n : Nat) (k : Nat → RR) : fN n k = k n := by cases n <;> rfl
theorem boolK_eq (b : Bool) (k : KA) : boolK b k = k (.bool b) := by cases b <;> rfl
theorem bool_rec_ok {b : Bool} {x y : RR} {res : Res} (h : Bool.rec (motive := fun _ => RR) x y b = .ok res) : (b = true ∧ y = .ok res) ∨ (b = false ∧ x = .ok res) := by
  cases b with
  | true => exact .inl ⟨rfl, h⟩
  | false => exact .inr ⟨rfl, h⟩

/-! ### paths in memory -/
theorem pthOf_succ (f n : Nat) : pthOf (f + 1) n = if n = 0 then .here else if n % 2 = 1 then .l (pthOf f (n / 2)) else .r (pthOf f (n / 2 - 1)) := by
  show Bool.rec (motive := fun _ => Pth) (Bool.rec (motive := fun _ => Pth) (.r (pthOf f (n / 2 - 1))) (.l (pthOf f (n / 2))) (Nat.beq (n % 2) 1)) .here (Nat.beq n 0) = _
  by_cases h : n = 0
  · subst h; rfl
  · have h0 : Nat.beq n 0 = false := by
      cases n with
      | zero => exact absurd rfl h
      | succ m => rfl
    rw [h0, if_neg h]
    by_cases h1 : n % 2 = 1
    · rw [if_pos h1, h1]; rfl
    · have h2 : Nat.beq (n % 2) 1 = false := by
        have : n % 2 = 0 := by omega
        rw [this]; rfl
      rw [h2, if_neg h1]
theorem hgetK_pth : ∀ (f n : Nat) (t : Tr AObj) (e : RR) (k : AObj → RR), n < f → hgetK (pthOf f n) t e k = match t.get n with | some o => k o | none => e
  | 0, n, _, _, _, h => by omega
  | f + 1, n, t, e, k, h => by
    rw [pthOf_succ]
    by_cases e0 : n = 0
    · subst e0
      rw [if_pos rfl]
      cases t with
      | nil => rfl
      | node l v r => cases v <;> rfl
    · rw [if_neg e0]
      cases t with
      | nil =>
        rw [Tr.get_nil]
        by_cases e1 : n % 2 = 1
        · rw [if_pos e1]; rfl
        · rw [if_neg e1]; rfl
      | node l v r =>
        rw [Tr.get_node, if_neg e0]
        by_cases e1 : n % 2 = 1
        · rw [if_pos e1, if_pos e1]; exact hgetK_pth f (n / 2) l e k (by omega)
        · rw [if_neg e1, if_neg e1]; exact hgetK_pth f (n / 2 - 1) r e k (by omega)

theorem hgetK_ok {v : Nat} {h : Tr AObj} {e : RR} {k : AObj → RR} {res : Res} (hh : hgetK (pth v) h e k = .ok res) : (∃ o, h.get v = some o ∧ k o = .ok res) ∨ e = .ok res := by
  have this := hgetK_pth (Nat.succ v) v h e k (Nat.lt_succ_self v)
  rw [show pthOf (Nat.succ v) v = pth v from rfl, hh] at this
  cases hg : h.get v with
  | some o => rw [hg] at this; exact .inl ⟨o, rfl, this.symm⟩
  | none => rw [hg] at this; exact .inr this.symm

theorem hsetK_nil : ∀ (f n : Nat) (a : AObj) (k : Tr AObj → RR), n < f → hsetK (pthOf f n) .nil a k = k (Tr.one f n (some a))
  | 0, n, a, k, h => by omega
  | f + 1, n, a, k, h => by
    rw [Tr.one_succ]
    show hsetK (Bool.rec (motive := fun _ => Pth) (Bool.rec (motive := fun _ => Pth) (.r (pthOf f (n / 2 - 1))) (.l (pthOf f (n / 2))) (Nat.beq (n % 2) 1)) .here (Nat.beq n 0)) .nil a k = _
    by_cases h0 : n = 0
    · subst h0; rfl
    · have e0 : Nat.beq n 0 = false := by
        cases n with
        | zero => exact absurd rfl h0
        | succ m => rfl
      rw [e0, if_neg h0]
      by_cases h1 : n % 2 = 1
      · rw [if_pos h1, h1]
        show hsetK (pthOf f (n / 2)) .nil a (fun l => k (.node l none .nil)) = _
        rw [hsetK_nil f _ _ _ (by omega)]
      · have h2 : Nat.beq (n % 2) 1 = false := by
          have : n % 2 = 0 := by omega
          rw [this]; rfl
        rw [h2, if_neg h1]
        show hsetK (pthOf f (n / 2 - 1)) .nil a (fun l => k (.node .nil none l)) = _
        rw [hsetK_nil f _ _ _ (by omega)]
theorem one_fuel {α : Type} : ∀ (f g n : Nat) (a : Option α), n < f → n < g → Tr.one f n a = Tr.one g n a
  | 0, _, _, _, h, _ => by omega
  | _, 0, _, _, _, h => by omega
  | f + 1, g + 1, n, a, h, h' => by
    rw [Tr.one_succ, Tr.one_succ]
    by_cases h0 : n = 0
    · rw [if_pos h0, if_pos h0]
    · rw [if_neg h0, if_neg h0, one_fuel f g (n / 2) a (by omega) (by omega), one_fuel f g (n / 2 - 1) a (by omega) (by omega)]
theorem hsetK_pth : ∀ (f n : Nat) (t : Tr AObj) (a : AObj) (k : Tr AObj → RR), n < f → hsetK (pthOf f n) t a k = k (t.set n (some a))
  | 0, n, t, a, k, h => by omega
  | f + 1, n, .nil, a, k, h => by rw [hsetK_nil _ _ _ _ h, Tr.set_nil, one_fuel _ _ _ _ h (Nat.lt_succ_self n)]
  | f + 1, n, .node l v r, a, k, h => by
    rw [Tr.set_node]
    show hsetK (Bool.rec (motive := fun _ => Pth) (Bool.rec (motive := fun _ => Pth) (.r (pthOf f (n / 2 - 1))) (.l (pthOf f (n / 2))) (Nat.beq (n % 2) 1)) .here (Nat.beq n 0)) (.node l v r) a k = _
    by_cases h0 : n = 0
    · subst h0; rfl
    · have e0 : Nat.beq n 0 = false := by
        cases n with
        | zero => exact absurd rfl h0
        | succ m => rfl
      rw [e0, if_neg h0]
      by_cases h1 : n % 2 = 1
      · rw [if_pos h1, h1]
        show hsetK (pthOf f (n / 2)) l a (fun l => k (.node l v r)) = _
        rw [hsetK_pth f _ _ _ _ (by omega)]
      · have h2 : Nat.beq (n % 2) 1 = false := by
          have : n % 2 = 0 := by omega
          rw [this]; rfl
        rw [h2, if_neg h1]
        show hsetK (pthOf f (n / 2 - 1)) r a (fun r => k (.node l v r)) = _
        rw [hsetK_pth f _ _ _ _ (by omega)]
theorem hsetK_eq (v : Nat) (t : Tr AObj) (a : AObj) (k : Tr AObj → RR) : hsetK (pth v) t a k = k (t.put v a) := hsetK_pth (Nat.succ v) v t a k (Nat.lt_succ_self v)

/-! ### lists -/
theorem nthK_ok : ∀ {n : Nat} {l : List AV} {k : KA} {e : RR} {res : Res}, nthK n l k e = .ok res → (∃ a, l[n]? = some a ∧ k a = .ok res) ∨ e = .ok res
  | 0, [], _, _, _, h => .inr h
  | 0, a :: _, _, _, _, h => .inl ⟨a, rfl, h⟩
  | _ + 1, [], _, _, _, h => .inr h
  | n + 1, a :: l, k, e, res, h => by
    rcases nthK_ok (n := n) (l := l) (k := k) (e := e) h with ⟨b, hb, hk⟩ | h
    · exact .inl ⟨b, by simpa using hb, hk⟩
    · exact .inr h
theorem dropK_eq : ∀ (n : Nat) (l : List AV) (k : List AV → RR), dropK n l k = k (l.drop n)
  | 0, l, k => rfl
  | n + 1, [], k => by simp; rfl
  | n + 1, a :: l, k => by
    rw [List.drop_succ_cons]
    exact dropK_eq n l k
theorem takeK_ok : ∀ {n : Nat} {l : List AV} {k : List AV → RR} {e : RR} {res : Res}, takeK n l k e = .ok res → (∃ m, takeExact n l = some m ∧ k m = .ok res) ∨ e = .ok res
  | 0, l, _, _, _, h => .inl ⟨[], by simp [takeExact], h⟩
  | _ + 1, [], _, _, _, h => .inr h
  | n + 1, a :: l, k, e, res, h => by
    rcases takeK_ok (n := n) (l := l) (k := fun r => k (a :: r)) (e := e) h with ⟨m, hm, hk⟩ | h
    · exact .inl ⟨a :: m, by simp [takeExact, hm], hk⟩
    · exact .inr h
theorem ow0K_ok : ∀ {cs l : List AV} {k : List AV → RR} {e : RR} {res : Res}, ow0K cs l k e = .ok res → (∃ m, overwrite 0 l cs = some m ∧ k m = .ok res) ∨ e = .ok res
  | [], l, _, _, _, h => .inl ⟨l, by simp [overwrite], h⟩
  | _ :: _, [], _, _, _, h => .inr h
  | x :: cs, a :: l, k, e, res, h => by
    rcases ow0K_ok (cs := cs) (l := l) (k := fun r => k (x :: r)) (e := e) h with ⟨m, hm, hk⟩ | h
    · exact .inl ⟨x :: m, by simp [overwrite, hm], hk⟩
    · exact .inr h
theorem owK_ok : ∀ {n : Nat} {l cs : List AV} {k : List AV → RR} {e : RR} {res : Res}, owK n l cs k e = .ok res → (∃ m, overwrite n l cs = some m ∧ k m = .ok res) ∨ e = .ok res
  | 0, l, cs, _, _, _, h => ow0K_ok h
  | n + 1, [], [], _, _, _, h => .inl ⟨[], by simp [overwrite], h⟩
  | n + 1, [], _ :: _, _, _, _, h => .inr h
  | n + 1, a :: l, cs, k, e, res, h => by
    rcases owK_ok (n := n) (l := l) (cs := cs) (k := fun r => k (a :: r)) (e := e) h with ⟨m, hm, hk⟩ | h
    · exact .inl ⟨a :: m, by simp [overwrite, hm], hk⟩
    · exact .inr h
theorem dropB_eq : ∀ (n : Nat) (l : List UInt8) (k : List UInt8 → RR), dropB n l k = k (l.drop n)
  | 0, l, k => rfl
  | n + 1, [], k => by simp; rfl
  | n + 1, a :: l, k => by
    rw [List.drop_succ_cons]
    exact dropB_eq n l k
theorem takeB_eq : ∀ (n : Nat) (l : List UInt8) (k : List UInt8 → RR), takeB n l k = k (l.take n)
  | 0, l, k => by simp; rfl
  | n + 1, [], k => by simp; rfl
  | n + 1, a :: l, k => by
    rw [List.take_succ_cons]
    exact takeB_eq n l fun r => k (a :: r)
theorem appB_eq : ∀ (l m : List UInt8) (k : List UInt8 → RR), appB l m k = k (l ++ m)
  | [], m, k => rfl
  | a :: l, m, k => appB_eq l m fun l => k (a :: l)
theorem nthB_ok : ∀ {n : Nat} {l : List UInt8} {k : Nat → RR} {e : RR} {res : Res}, nthB n l k e = .ok res → (∃ a, l[n]? = some a ∧ k a.toNat = .ok res) ∨ e = .ok res
  | 0, [], _, _, _, h => .inr h
  | 0, a :: _, k, _, _, h => .inl ⟨a, rfl, by rw [← fN_eq a.toNat k]; exact h⟩
  | _ + 1, [], _, _, _, h => .inr h
  | n + 1, a :: l, k, e, res, h => by
    rcases nthB_ok (n := n) (l := l) (k := k) (e := e) h with ⟨b, hb, hk⟩ | h
    · exact .inl ⟨b, by simpa using hb, hk⟩
    · exact .inr h
theorem lenB_eq {α : Type} : ∀ l : List α, lenB l = l.length
  | [] => rfl
  | _ :: l => congrArg Nat.succ (lenB_eq l)
theorem eqB_eq : ∀ (a b : List UInt8) (kt kf : RR), eqB a b kt kf = if a = b then kt else kf
  | [], [], kt, kf => by rw [if_pos rfl]; rfl
  | [], _ :: _, kt, kf => by rw [if_neg (by simp)]; rfl
  | _ :: _, [], kt, kf => by rw [if_neg (by simp)]; rfl
  | a :: l, b :: m, kt, kf => by
    show Bool.rec (motive := fun _ => RR) kf (eqB l m kt kf) (Nat.beq a.toNat b.toNat) = _
    cases hb : Nat.beq a.toNat b.toNat with
    | true =>
      have : a = b := UInt8.toNat_inj.1 (Nat.eq_of_beq_eq_true hb)
      subst this
      show eqB l m kt kf = _
      rw [eqB_eq l m]
      simp
    | false =>
      have : a ≠ b := fun e => by subst e; simp at hb
      rw [if_neg (by simp [this])]

/-! ### forcing -/
theorem fI_eq (n : Int) (k : Int → RR) : fI n k = k n := by
  cases n with
  | ofNat n => exact fN_eq n fun n => k (.ofNat n)
  | negSucc n => exact fN_eq n fun n => k (.negSucc n)
theorem fB_eq : ∀ (l : List UInt8) (k : List UInt8 → RR), fB l k = k l
  | [], k => rfl
  | a :: l, k => by
    show fN a.toNat (fun n => fB l fun l => k (UInt8.ofNat n :: l)) = _
    rw [fN_eq, fB_eq l]
    simp
theorem fT_eq (t : Tr AObj) (k : Tr AObj → RR) : fT t k = k t := by cases t <;> rfl
noncomputable def fAs (l : List AV) (k : List AV → RR) : RR := fA (.agg l) fun a => match a with | .agg l => k l | _ => .err 0
theorem fA_eq (a : AV) : ∀ k : KA, fA a k = k a :=
  AV.rec (motive_1 := fun a => ∀ k : KA, fA a k = k a) (motive_2 := fun l => ∀ k : List AV → RR, fAs l k = k l)
    (fun b k => by cases b <;> rfl)
    (fun kd n k => by show fI n (fun n => k (.int kd n)) = _; rw [fI_eq])
    (fun kd n k => by show fN n (fun n => k (.float kd n)) = _; rw [fN_eq])
    (fun s k => by obtain ⟨⟨l⟩⟩ := s; show fB l (fun l => k (.string ⟨⟨l⟩⟩)) = _; rw [fB_eq])
    (fun k => rfl)
    (fun v o k => by show fN v (fun v => fN o fun o => k (.ptr v o)) = _; simp only [fN_eq])
    (fun k => rfl)
    (fun v o n c k => by show fN v (fun v => fN o fun o => fN n fun n => fN c fun c => k (.slice v o n c)) = _; simp only [fN_eq])
    (fun v o n c k => by show fN v (fun v => fN o fun o => fN n fun n => fN c fun c => k (.sliceU v o n c)) = _; simp only [fN_eq])
    (fun k => rfl)
    (fun k => rfl)
    (fun v k => by show fN v (fun v => k (.map v)) = _; rw [fN_eq])
    (fun f a b iha ihb k => by show fAs a (fun a => fAs b fun b => k (.func f a b)) = _; rw [iha, ihb])
    (fun v k => by show fN v (fun v => k (.yieldF v)) = _; rw [fN_eq])
    (fun k => rfl)
    (fun t x ih k => by show fA x (fun x => k (.iface t x)) = _; rw [ih])
    (fun k => rfl)
    (fun l ih k => by show fAs l (fun l => k (.agg l)) = _; rw [ih])
    (fun l ih k => by show fAs l (fun l => k (.tuple l)) = _; rw [ih])
    (fun k => rfl)
    (fun a l iha ihl k => by show fA a (fun a => fAs l fun l => k (a :: l)) = _; rw [iha, ihl]) a
theorem fL_eq : ∀ (l : List AV) (k : List AV → RR), fL l k = k l
  | [], k => rfl
  | a :: l, k => by
    show fA a (fun a => fL l fun l => k (a :: l)) = _
    rw [fA_eq, fL_eq l]
theorem g1_ok (i : Nat) (hi : i < 18) : ∃ g s, g1 i = .mk g s ∧ (∀ w k, g w k = k (w.get i)) ∧ (∀ w v k, s w v k = k (w.set i v)) := by
  rcases (by omega : i = 0 ∨ i = 1 ∨ i = 2 ∨ i = 3 ∨ i = 4 ∨ i = 5 ∨ i = 6 ∨ i = 7 ∨ i = 8 ∨ i = 9 ∨ i = 10 ∨ i = 11 ∨ i = 12 ∨ i = 13 ∨ i = 14 ∨ i = 15 ∨ i = 16 ∨ i = 17) with rfl | rfl | rfl | rfl | rfl | rfl | rfl | rfl | rfl | rfl | rfl | rfl | rfl | rfl | rfl | rfl | rfl | rfl <;> exact ⟨_, _, rfl, fun w k => by cases w; rfl, fun w v k => by cases w; rfl⟩
theorem g2_ok (i : Nat) (hi : i < 18) : ∃ g s, g2 i = .mk g s ∧ (∀ t k, g t k = k (Tm.row t i)) ∧ (∀ t f k, s t f k = f (Tm.row t i) fun w => k (t.setRow i w)) := by
  rcases (by omega : i = 0 ∨ i = 1 ∨ i = 2 ∨ i = 3 ∨ i = 4 ∨ i = 5 ∨ i = 6 ∨ i = 7 ∨ i = 8 ∨ i = 9 ∨ i = 10 ∨ i = 11 ∨ i = 12 ∨ i = 13 ∨ i = 14 ∨ i = 15 ∨ i = 16 ∨ i = 17) with rfl | rfl | rfl | rfl | rfl | rfl | rfl | rfl | rfl | rfl | rfl | rfl | rfl | rfl | rfl | rfl | rfl | rfl <;> exact ⟨_, _, rfl, fun w k => by cases w; rfl, fun w v k => by cases w; rfl⟩
theorem slot_ok (i : Nat) : ∃ g s, slot i = .mk g s ∧ (∀ t k, g t k = k ((t.get i).getD undefA)) ∧ (∀ v t k, s v t k = k (t.put i v)) := by
  unfold slot
  cases hb : Nat.blt i 324 with
  | false =>
    refine ⟨_, _, rfl, fun t k => ?_, fun v t k => forceTm_eq _ _⟩
    cases t.get i <;> rfl
  | true =>
    have hi : i < 324 := Nat.le_of_ble_eq_true hb
    obtain ⟨g, s, e1, h1, h2⟩ := g1_ok (i % 18) (by omega)
    obtain ⟨gg, ss, e2, h3, h4⟩ := g2_ok (i / 18) (by omega)
    simp only [e1, e2]
    refine ⟨_, _, rfl, fun t k => ?_, fun v t k => ?_⟩
    · rw [h3, h1]
      simp [Tm.get, hb]
    · rw [h4, h2]
      simp [Tm.put, hb]
end Go.Ex
namespace Go.Ex
open Go Go.RowKit

section
variable {T : Tab}

theorem decOpd_ok (x : Operand) : ∃ f, decOpd T x = .mk f ∧ ∀ {t : Tm} {k : KA} {res : Res}, f t k = .ok res → ∃ v, evA T t x = .ok v ∧ k v = .ok res := by
  cases x with
  | tmp i =>
    obtain ⟨g, s, e, h1, _⟩ := slot_ok i
    refine ⟨g, by unfold decOpd; simp only [e], fun {t k res} h => ⟨(t.get i).getD undefA, ?_, (h1 t k).symm.trans h⟩⟩
    simp only [evA]
    cases t.get i <;> rfl
  | const v =>
    cases hv : ofV v with
    | none => exact ⟨fun _ _ => .err 30, by unfold decOpd; simp only [hv], fun h => by cases h⟩
    | some a =>
      refine ⟨fun _ k => k a, by unfold decOpd; simp only [hv, forceA_eq], fun h => ⟨a, ?_, h⟩⟩
      simp only [evA, hv, opt]
  | global g =>
    cases hg : Nat.blt g T.ng with
    | false => exact ⟨fun _ _ => .err 29, by unfold decOpd; simp only [hg], fun h => by cases h⟩
    | true => exact ⟨fun _ k => k (.ptr g 0), by unfold decOpd; simp only [hg], fun h => ⟨.ptr g 0, by simp only [evA, hg, cond_true], h⟩⟩
  | func f => exact ⟨fun _ k => k (.func f [] []), rfl, fun h => ⟨_, rfl, h⟩⟩

theorem decOpds_ok : ∀ l : List Operand, ∃ f, decOpds T l = .mk f ∧ ∀ {t : Tm} {k : List AV → RR} {res : Res}, f t k = .ok res → ∃ vs, evAs T t l = .ok vs ∧ k vs = .ok res
  | [] => ⟨fun _ k => k [], rfl, fun h => ⟨[], rfl, h⟩⟩
  | x :: l => by
    obtain ⟨f, e1, h1⟩ := decOpd_ok (T := T) x
    obtain ⟨g, e2, h2⟩ := decOpds_ok l
    refine ⟨fun t k => f t fun a => g t fun l => k (a :: l), ?_, fun {t k res} h => ?_⟩
    · show DOp.rec (motive := fun _ => DOps) (fun f => .mk fun t k => f t fun a => DOps.rec (motive := fun _ => RR) (fun g => g t fun l => k (a :: l)) (decOpds T l)) (decOpd T x) = _
      rw [e1, e2]
    · obtain ⟨v, hv, hk⟩ := h1 h
      replace hk := h2 hk; obtain ⟨vs, hvs, hk⟩ := hk
      exact ⟨v :: vs, by simp only [evAs, hv, hvs]; rfl, hk⟩

theorem decParts_ok : ∀ l : List (Nat × Operand), ∃ f, decParts T l = .mk f ∧ ∀ {t : Tm} {k : List (Nat × AV) → RR} {res : Res}, f t k = .ok res → ∃ vs, evParts T t l = .ok vs ∧ k vs = .ok res
  | [] => ⟨fun _ k => k [], rfl, fun h => ⟨[], rfl, h⟩⟩
  | (i, x) :: l => by
    obtain ⟨f, e1, h1⟩ := decOpd_ok (T := T) x
    obtain ⟨g, e2, h2⟩ := decParts_ok l
    refine ⟨fun t k => f t fun a => g t fun l => k ((i, a) :: l), ?_, fun {t k res} h => ?_⟩
    · show DOp.rec (motive := fun _ => DParts) (fun f => .mk fun t k => f t fun a => DParts.rec (motive := fun _ => RR) (fun g => g t fun l => k ((i, a) :: l)) (decParts T l)) (decOpd T x) = _
      rw [e1, e2]
    · obtain ⟨v, hv, hk⟩ := h1 h
      replace hk := h2 hk; obtain ⟨vs, hvs, hk⟩ := hk
      exact ⟨(i, v) :: vs, by simp only [evParts, hv, hvs]; rfl, hk⟩

theorem optK_ok {f : Option Operand} {t : Tm} {k : Option AV → RR} {res : Res} (h : optK T f t k = .ok res) : ∃ v, evOpt T t f = .ok v ∧ k v = .ok res := by
  cases f with
  | none => exact ⟨none, rfl, h⟩
  | some x =>
    obtain ⟨g, e, hg⟩ := decOpd_ok (T := T) x
    unfold optK at h
    simp only [e] at h
    obtain ⟨v, hv, hk⟩ := hg h
    exact ⟨some v, by simp only [evOpt, hv]; rfl, hk⟩

theorem decPut_ok (nt : Nat) (dst : Option Tmp) : ∃ p, decPut nt dst = .mk p ∧ ∀ {v : AV} {t : Tm} {k : Tm → RR} {res : Res}, p v t k = .ok res → (∀ x, dst = some x → x < nt) ∧ k (putT t dst v) = .ok res := by
  cases dst with
  | none => exact ⟨fun _ t k => k t, rfl, fun h => ⟨fun _ h => (nomatch h), h⟩⟩
  | some d =>
    cases hb : Nat.blt d nt with
    | false => exact ⟨fun _ _ _ => .err 155, by unfold decPut; simp only [hb], fun h => by cases h⟩
    | true =>
      obtain ⟨g, s, e, _, h2⟩ := slot_ok d
      refine ⟨s, by unfold decPut; simp only [hb, e], fun {v t k res} h => ⟨fun x hx => by cases hx; exact blt_true hb, ?_⟩⟩
      rw [h2] at h
      exact h

/-! ### values -/
def VOK (T : Tab) (op : Op) (v : DV) : Prop := ∃ f, v = .mk f ∧ ∀ {t : Tm} {h : Tr AObj} {nx : Nat} {k : KA} {res : Res}, f t h nx k = .ok res → ∀ o : Oper, o.op = op → ∃ x, opA T ⟨h, nx⟩ t o = .ok (.val x ⟨h, nx⟩) ∧ k x = .ok res

theorem vErr_ok {op : Op} (e : Nat) : VOK T op (vErr e) := ⟨_, rfl, fun h => by cases h⟩

theorem vMove_ok {x : Operand} {op : Op} (hop : op = .move x ∨ op = .assign x) : VOK T op (vMove T x) := by
  obtain ⟨f, hf, h⟩ := decOpd_ok (T := T) x
  refine ⟨fun t _ _ k => f t k, by unfold vMove; rw [hf], fun {t h' nx k res} hh o ho => ?_⟩
  obtain ⟨v, hv, hk⟩ := h hh
  refine ⟨v, ?_, hk⟩
  rcases hop with rfl | rfl <;> (unfold opA; rw [ho]; simp only [hv]; rfl)

theorem vPick_ok {c a b : Operand} : VOK T (.pick c a b) (vPick T c a b) := by
  obtain ⟨fc, e1, h1⟩ := decOpd_ok (T := T) c
  obtain ⟨fa, e2, h2⟩ := decOpd_ok (T := T) a
  obtain ⟨fb, e3, h3⟩ := decOpd_ok (T := T) b
  refine ⟨_, by unfold vPick; rw [e1, e2, e3], fun {t h' nx k res} hh o ho => ?_⟩
  obtain ⟨v, hv, hk⟩ := h1 hh
  replace hk := asBool_ok hk; rcases hk with ⟨hk, rfl⟩ | ⟨hk, rfl⟩ | hk
  · replace hk := h2 hk; obtain ⟨w, hw, hk⟩ := hk
    exact ⟨w, by unfold opA; rw [ho]; simp only [opPick, hv, R.bind, hw], hk⟩
  · replace hk := h3 hk; obtain ⟨w, hw, hk⟩ := hk
    exact ⟨w, by unfold opA; rw [ho]; simp only [opPick, hv, R.bind, hw], hk⟩
  · cases hk

theorem takeExact_one : ∀ {off : Nat} {l : List AV} {a : AV}, l[off]? = some a → takeExact 1 (l.drop off) = some [a]
  | 0, b :: l, a, h => by simp at h; subst h; simp [takeExact]
  | off + 1, b :: l, a, h => by simpa using takeExact_one (off := off) (l := l) (by simpa using h)
  | _, [], _, h => by simp at h

theorem loadOne_ok {v off : Nat} {h : Tr AObj} {k : KA} {res : Res} (hh : loadOne v off h k = .ok res) : ∃ x, ldCells h v off 1 = .ok [x] ∧ k x = .ok res := by
  unfold loadOne at hh
  rcases hgetK_ok hh with ⟨o, ho, hk⟩ | hk
  · replace hk := asCells_ok hk; rcases hk with ⟨l, t, x, hk, rfl⟩ | hk
    · rcases nthK_ok hk with ⟨a, ha, hk⟩ | hk
      · exact ⟨a, by simp only [ldCells, ho, takeExact_one ha, opt], hk⟩
      · cases hk
    · cases hk
  · cases hk
theorem loadAgg_ok {n v off : Nat} {h : Tr AObj} {k : KA} {res : Res} (hh : loadAgg n v off h k = .ok res) : ∃ l, ldCells h v off n = .ok l ∧ k (.agg l) = .ok res := by
  unfold loadAgg at hh
  rcases hgetK_ok hh with ⟨o, ho, hk⟩ | hk
  · replace hk := asCells_ok hk; rcases hk with ⟨l, t, x, hk, rfl⟩ | hk
    · rw [dropK_eq] at hk
      rcases takeK_ok hk with ⟨m, hm, hk⟩ | hk
      · exact ⟨m, by simp only [ldCells, ho, hm, opt], hk⟩
      · cases hk
    · cases hk
  · cases hk

theorem vLoad_ok' {ty : TypeId} {a : Operand} : ∃ f, vLoad T ty a = .mk f ∧ ∀ {t : Tm} {h : Tr AObj} {nx : Nat} {k : KA} {res : Res}, f t h nx k = .ok res → ∃ p x, evA T t a = .ok p ∧ loadA T ⟨h, nx⟩ ty p = .ok x ∧ k x = .ok res := by
  obtain ⟨fa, e1, h1⟩ := decOpd_ok (T := T) a
  cases hA : isAggA T ty with
  | err e => exact ⟨_, by unfold vLoad; simp only [e1, hA]; rfl, fun h => by cases h⟩
  | ok b =>
    cases b with
    | false =>
      refine ⟨fun t h _ k => fa t fun a => asPtr a (fun v off => loadOne v off h k) (.err 13), by unfold vLoad; simp only [e1, hA], fun {t h' nx k res} hh => ?_⟩
      obtain ⟨p, hp, hk⟩ := h1 hh
      replace hk := asPtr_ok hk; rcases hk with ⟨v, off, hk, rfl⟩ | hk
      · obtain ⟨x, hx, hk⟩ := loadOne_ok hk
        exact ⟨_, x, hp, by simp only [loadA, hA, R.bind, hx], hk⟩
      · cases hk
    | true =>
      cases hS : sizeA T ty with
      | err e => exact ⟨_, by unfold vLoad; simp only [e1, hA, hS]; rfl, fun h => by cases h⟩
      | ok n =>
        refine ⟨fun t h _ k => fa t fun a => asPtr a (fun v off => loadAgg n v off h k) (.err 13), by unfold vLoad; simp only [e1, hA, hS, forceN_eq], fun {t h' nx k res} hh => ?_⟩
        obtain ⟨p, hp, hk⟩ := h1 hh
        replace hk := asPtr_ok hk; rcases hk with ⟨v, off, hk, rfl⟩ | hk
        · obtain ⟨l, hl, hk⟩ := loadAgg_ok hk
          exact ⟨_, .agg l, hp, by simp only [loadA, hA, R.bind, hS, hl], hk⟩
        · cases hk
theorem vLoad_ok {ty : TypeId} {a : Operand} : VOK T (.load ty a) (vLoad T ty a) := by
  obtain ⟨f, e, h⟩ := vLoad_ok' (T := T) (ty := ty) (a := a)
  refine ⟨f, e, fun {t h' nx k res} hh o ho => ?_⟩
  obtain ⟨p, x, h1, h2, hk⟩ := h hh
  exact ⟨x, by unfold opA; rw [ho]; simp only [h1, R.bind, h2], hk⟩

theorem vNilCheck_ok {x : Operand} : VOK T (.nilCheck x) (vNilCheck T x) := by
  obtain ⟨f, hf, h⟩ := decOpd_ok (T := T) x
  refine ⟨_, by unfold vNilCheck; rw [hf], fun {t h' nx k res} hh o ho => ?_⟩
  obtain ⟨v, hv, hk⟩ := h hh
  rcases nonNil_ok hk with ⟨hc, hk⟩ | hk
  · refine ⟨v, ?_, hk⟩
    unfold opA; rw [ho]; simp only [hv, R.bind]
    rcases hc with ⟨_, _, rfl⟩ | ⟨_, _, _, rfl⟩ | ⟨_, rfl⟩ | ⟨_, _, rfl⟩ <;> rfl
  · cases hk

theorem fieldOff_ok {st : TypeId} {f : Nat} {ty : TypeId} {o : Nat} (h : fieldOff T st f = some (ty, o)) : ∃ fields fd, T.under st = some (.struct fields) ∧ fields[f]? = some fd ∧ fd.type = ty ∧ fd.offset = o := by
  unfold fieldOff at h
  split at h
  · rename_i fields hu
    split at h
    · rename_i fd hf
      cases h
      exact ⟨fields, fd, hu, hf, rfl, rfl⟩
    · cases h
  · cases h

theorem vFieldAddr_ok {st : TypeId} {x : Operand} {f : Nat} : VOK T (.fieldAddr st x f) (vFieldAddr T st x f) := by
  obtain ⟨fx, e1, h1⟩ := decOpd_ok (T := T) x
  cases hO : fieldOff T st f with
  | none => exact ⟨_, by unfold vFieldAddr; simp only [e1, hO]; rfl, fun h => by cases h⟩
  | some p =>
    obtain ⟨ty, o⟩ := p
    obtain ⟨fields, fd, hu, hfd, rfl, rfl⟩ := fieldOff_ok hO
    cases hS : sizeA T fd.type with
    | err e => exact ⟨_, by unfold vFieldAddr; simp only [e1, hO, hS]; rfl, fun h => by cases h⟩
    | ok n =>
      cases hn : Nat.beq n 0 with
      | true => exact ⟨_, by unfold vFieldAddr; simp only [e1, hO, hS, hn]; rfl, fun h => by cases h⟩
      | false =>
        refine ⟨_, by unfold vFieldAddr; simp only [e1, hO, hS, hn, forceN_eq]; rfl, fun {t h' nx k res} hh o ho => ?_⟩
        obtain ⟨p, hp, hk⟩ := h1 hh
        replace hk := asPtr_ok hk; rcases hk with ⟨v, off, hk, rfl⟩ | hk
        · rw [fN_eq] at hk
          refine ⟨_, ?_, hk⟩
          unfold opA; rw [ho]; simp only [hp, R.bind, opFieldAddr, hu, hfd, hS, hn, cond_false]
          rfl
        · cases hk

theorem vField_ok {st : TypeId} {x : Operand} {f : Nat} : VOK T (.field st x f) (vField T st x f) := by
  obtain ⟨fx, e1, h1⟩ := decOpd_ok (T := T) x
  cases hO : fieldOff T st f with
  | none => exact ⟨_, by unfold vField; simp only [e1, hO]; rfl, fun h => by cases h⟩
  | some p =>
    obtain ⟨ty, o⟩ := p
    obtain ⟨fields, fd, hu, hfd, rfl, rfl⟩ := fieldOff_ok hO
    cases hA : isAggA T fd.type with
    | err e => exact ⟨_, by unfold vField; simp only [e1, hO, hA, forceN_eq]; rfl, fun h => by cases h⟩
    | ok b =>
      cases b with
      | false =>
        refine ⟨_, by unfold vField; simp only [e1, hO, hA, forceN_eq]; rfl, fun {t h' nx k res} hh o ho => ?_⟩
        obtain ⟨p, hp, hk⟩ := h1 hh
        replace hk := asAgg_ok hk; rcases hk with ⟨cs, hk, rfl⟩ | hk
        · rcases nthK_ok hk with ⟨a, ha, hk⟩ | hk
          · exact ⟨a, by unfold opA; rw [ho]; simp only [hp, R.bind, opField, hu, hfd, partA, hA, ha, opt], hk⟩
          · cases hk
        · cases hk
      | true =>
        cases hS : sizeA T fd.type with
        | err e => exact ⟨_, by unfold vField; simp only [e1, hO, hA, hS, forceN_eq]; rfl, fun h => by cases h⟩
        | ok n =>
          refine ⟨_, by unfold vField; simp only [e1, hO, hA, hS, forceN_eq]; rfl, fun {t h' nx k res} hh o ho => ?_⟩
          obtain ⟨p, hp, hk⟩ := h1 hh
          replace hk := asAgg_ok hk; rcases hk with ⟨cs, hk, rfl⟩ | hk
          · rw [dropK_eq] at hk
            rcases takeK_ok hk with ⟨m, hm, hk⟩ | hk
            · exact ⟨_, by unfold opA; rw [ho]; simp only [hp, R.bind, opField, hu, hfd, partA, hA, hS, hm], hk⟩
            · cases hk
          · cases hk

theorem vExtract_ok {tu : Operand} {i : Nat} : VOK T (.extract tu i) (vExtract T tu i) := by
  obtain ⟨f, hf, h⟩ := decOpd_ok (T := T) tu
  refine ⟨_, by unfold vExtract; rw [hf], fun {t h' nx k res} hh o ho => ?_⟩
  obtain ⟨v, hv, hk⟩ := h hh
  replace hk := asTuple_ok hk; rcases hk with ⟨vs, hk, rfl⟩ | hk
  · rcases nthK_ok hk with ⟨a, ha, hk⟩ | hk
    · exact ⟨a, by unfold opA; rw [ho]; simp only [hv, R.bind, opExtract, ha], hk⟩
    · cases hk
  · cases hk

theorem ixT_arr {ty : TypeId} {n sz : Nat} {e : TypeId} (h : ixT T ty = .arr n sz e) : T.under ty = some (.array n e) ∧ sizeA T e = .ok sz := by
  unfold ixT at h
  split at h
  · rename_i n e hu
    split at h
    · rename_i sz hs
      simp only [forceN_eq] at h
      cases h
      exact ⟨hu, hs⟩
    · cases h
  · split at h
    · simp only [forceN_eq] at h; cases h
    · cases h
  · cases h
  · cases h
theorem ixT_sl {ty : TypeId} {sz : Nat} (h : ixT T ty = .sl sz) : ∃ e, T.under ty = some (.slice e) ∧ sizeA T e = .ok sz := by
  unfold ixT at h
  split at h
  · split at h
    · simp only [forceN_eq] at h; cases h
    · cases h
  · rename_i e hu
    split at h
    · rename_i sz hs
      simp only [forceN_eq] at h
      cases h
      exact ⟨e, hu, hs⟩
    · cases h
  · cases h
  · cases h
theorem ixT_str {ty : TypeId} (h : ixT T ty = .str) : T.under ty = some .string := by
  unfold ixT at h
  split at h
  · split at h
    · simp only [forceN_eq] at h; cases h
    · cases h
  · split at h
    · simp only [forceN_eq] at h; cases h
    · cases h
  · assumption
  · cases h

theorem vIndexAddr_ok {ty : TypeId} {x i : Operand} : VOK T (.indexAddr ty x i) (vIndexAddr T ty x i) := by
  obtain ⟨fx, e1, h1⟩ := decOpd_ok (T := T) x
  obtain ⟨fi, e2, h2⟩ := decOpd_ok (T := T) i
  cases hI : ixT T ty with
  | arr n sz e =>
    obtain ⟨hu, hS⟩ := ixT_arr hI
    refine ⟨_, by unfold vIndexAddr; simp only [e1, e2, hI]; rfl, fun {t h' nx k res} hh o ho => ?_⟩
    obtain ⟨xv, hx, hk⟩ := h1 hh
    replace hk := h2 hk; obtain ⟨iv, hi, hk⟩ := hk
    replace hk := asNat_ok hk; rcases hk with ⟨kd, m, hk, rfl⟩ | hk
    · replace hk := asPtr_ok hk; rcases hk with ⟨v, off, hk, rfl⟩ | hk
      · rcases bool_rec_ok hk with ⟨hb, hk⟩ | ⟨hb, hk⟩
        · rw [fN_eq] at hk
          refine ⟨_, ?_, hk⟩
          unfold opA; rw [ho]; simp only [hx, hi, R.bind, opIndexAddr, hu, hb, cond_true, hS]; rfl
        · cases hk
      · cases hk
    · cases hk
  | sl sz =>
    obtain ⟨e, hu, hS⟩ := ixT_sl hI
    refine ⟨_, by unfold vIndexAddr; simp only [e1, e2, hI]; rfl, fun {t h' nx k res} hh o ho => ?_⟩
    obtain ⟨xv, hx, hk⟩ := h1 hh
    replace hk := h2 hk; obtain ⟨iv, hi, hk⟩ := hk
    replace hk := asNat_ok hk; rcases hk with ⟨kd, m, hk, rfl⟩ | hk
    · replace hk := asSl_ok hk; rcases hk with ⟨v, off, n, c, hc, hk⟩ | hk
      · rcases bool_rec_ok hk with ⟨hb, hk⟩ | ⟨hb, hk⟩
        · rw [fN_eq] at hk
          refine ⟨_, ?_, hk⟩
          rcases hc with rfl | rfl <;> (unfold opA; rw [ho]; simp only [hx, hi, R.bind, opIndexAddr, hu, hb, cond_true, hS]; rfl)
        · cases hk
      · cases hk
    · cases hk
  | str => exact ⟨_, by unfold vIndexAddr; simp only [e1, e2, hI]; rfl, fun h => by cases h⟩
  | bad => exact ⟨_, by unfold vIndexAddr; simp only [e1, e2, hI]; rfl, fun h => by cases h⟩

theorem vIndex_ok {ty : TypeId} {x i : Operand} : VOK T (.index ty x i) (vIndex T ty x i) := by
  obtain ⟨fx, e1, h1⟩ := decOpd_ok (T := T) x
  obtain ⟨fi, e2, h2⟩ := decOpd_ok (T := T) i
  cases hI : ixT T ty with
  | arr n sz e =>
    obtain ⟨hu, hS⟩ := ixT_arr hI
    cases hA : isAggA T e with
    | err e' => exact ⟨_, by unfold vIndex; simp only [e1, e2, hI, hA]; rfl, fun h => by cases h⟩
    | ok b =>
      cases b with
      | false =>
        refine ⟨_, by unfold vIndex; simp only [e1, e2, hI, hA]; rfl, fun {t h' nx k res} hh o ho => ?_⟩
        obtain ⟨xv, hx, hk⟩ := h1 hh
        replace hk := h2 hk; obtain ⟨iv, hi, hk⟩ := hk
        replace hk := asNat_ok hk; rcases hk with ⟨kd, m, hk, rfl⟩ | hk
        · replace hk := asAgg_ok hk; rcases hk with ⟨cs, hk, rfl⟩ | hk
          · rcases bool_rec_ok hk with ⟨hb, hk⟩ | ⟨hb, hk⟩
            · rcases nthK_ok hk with ⟨a, ha, hk⟩ | hk
              · refine ⟨a, ?_, hk⟩
                have ha' : cs[m * sz]? = some a := ha
                unfold opA; rw [ho]; simp only [hx, hi, R.bind, opIndex, hu, hb, cond_true, hS, partA, hA, ha', opt]
              · cases hk
            · cases hk
          · cases hk
        · cases hk
      | true =>
        refine ⟨_, by unfold vIndex; simp only [e1, e2, hI, hA]; rfl, fun {t h' nx k res} hh o ho => ?_⟩
        obtain ⟨xv, hx, hk⟩ := h1 hh
        replace hk := h2 hk; obtain ⟨iv, hi, hk⟩ := hk
        replace hk := asNat_ok hk; rcases hk with ⟨kd, m, hk, rfl⟩ | hk
        · replace hk := asAgg_ok hk; rcases hk with ⟨cs, hk, rfl⟩ | hk
          · rcases bool_rec_ok hk with ⟨hb, hk⟩ | ⟨hb, hk⟩
            · rw [dropK_eq] at hk
              rcases takeK_ok hk with ⟨l, hl, hk⟩ | hk
              · refine ⟨_, ?_, hk⟩
                have hl' : takeExact sz (cs.drop (m * sz)) = some l := hl
                unfold opA; rw [ho]; simp only [hx, hi, R.bind, opIndex, hu, hb, cond_true, hS, partA, hA, hl']
              · cases hk
            · cases hk
          · cases hk
        · cases hk
  | sl sz => exact ⟨_, by unfold vIndex; simp only [e1, e2, hI]; rfl, fun h => by cases h⟩
  | str =>
    have hu := ixT_str hI
    refine ⟨_, by unfold vIndex; simp only [e1, e2, hI]; rfl, fun {t h' nx k res} hh o ho => ?_⟩
    obtain ⟨xv, hx, hk⟩ := h1 hh
    replace hk := h2 hk; obtain ⟨iv, hi, hk⟩ := hk
    replace hk := asNat_ok hk; rcases hk with ⟨kd, m, hk, rfl⟩ | hk
    · replace hk := asStr_ok hk; rcases hk with ⟨l, hk, rfl⟩ | hk
      · rcases nthB_ok hk with ⟨a, ha, hk⟩ | hk
        · refine ⟨_, ?_, hk⟩
          unfold opA; rw [ho]; simp only [hx, hi, R.bind, opIndex, hu, ha]
          rfl
        · cases hk
      · cases hk
    · cases hk
  | bad => exact ⟨_, by unfold vIndex; simp only [e1, e2, hI]; rfl, fun h => by cases h⟩

theorem vNot_ok {ty : TypeId} {x : Operand} : VOK T (.unOp .not ty x) (vNot T x) := by
  obtain ⟨f, hf, h⟩ := decOpd_ok (T := T) x
  refine ⟨_, by unfold vNot; rw [hf], fun {t h' nx k res} hh o ho => ?_⟩
  obtain ⟨v, hv, hk⟩ := h hh
  replace hk := asBool_ok hk; rcases hk with ⟨hk, rfl⟩ | ⟨hk, rfl⟩ | hk
  · exact ⟨_, by unfold opA; rw [ho]; simp only [evV, hv, R.bind, toV, opt]; rfl, hk⟩
  · exact ⟨_, by unfold opA; rw [ho]; simp only [evV, hv, R.bind, toV, opt]; rfl, hk⟩
  · cases hk
end
end Go.Ex
namespace Go.Ex
open Go Go.RowKit

/-! ### arithmetic -/
section
variable {res : Res} {e : RR}
theorem sgn_ok {lim r : Nat} {k : Nat → RR} (h : sgn lim r k e = .ok res) : (k r = .ok res ∧ r < lim) ∨ e = .ok res := by
  unfold sgn at h
  rw [fN_eq] at h
  rcases bool_rec_ok h with ⟨hb, h⟩ | ⟨hb, h⟩
  · exact .inl ⟨h, Nat.le_of_ble_eq_true hb⟩
  · exact .inr h
theorem uns_ok {res : Res} {e : RR} {lim r : Nat} {k : Nat → RR} (h : uns lim r k e = .ok res) : k (r % lim) = .ok res := by
  unfold uns at h
  rw [fN_eq] at h
  exact h
theorem wrapK_ok {kd : IntKind} {r : Nat} {k : Nat → RR} (h : wrapK kd r k e = .ok res) : (∃ r' : Nat, k r' = .ok res ∧ kd.wrap (r : Int) = (r' : Int)) ∨ e = .ok res := by
  cases kd
  case i8 => rcases sgn_ok h with ⟨h, hr⟩ | h; exact .inl ⟨r, h, by simp [IntKind.wrap, IntKind.bits, IntKind.signed]; omega⟩; exact .inr h
  case i16 => rcases sgn_ok h with ⟨h, hr⟩ | h; exact .inl ⟨r, h, by simp [IntKind.wrap, IntKind.bits, IntKind.signed]; omega⟩; exact .inr h
  case i32 => rcases sgn_ok h with ⟨h, hr⟩ | h; exact .inl ⟨r, h, by simp [IntKind.wrap, IntKind.bits, IntKind.signed]; omega⟩; exact .inr h
  case i64 => rcases sgn_ok h with ⟨h, hr⟩ | h; exact .inl ⟨r, h, by simp [IntKind.wrap, IntKind.bits, IntKind.signed]; omega⟩; exact .inr h
  case u8 => exact .inl ⟨_, uns_ok (e := e) h, by simp [IntKind.wrap, IntKind.bits, IntKind.signed]⟩
  case u16 => exact .inl ⟨_, uns_ok (e := e) h, by simp [IntKind.wrap, IntKind.bits, IntKind.signed]⟩
  case u32 => exact .inl ⟨_, uns_ok (e := e) h, by simp [IntKind.wrap, IntKind.bits, IntKind.signed]⟩
  case u64 => exact .inl ⟨_, uns_ok (e := e) h, by simp [IntKind.wrap, IntKind.bits, IntKind.signed]⟩
theorem sgnLow_ok {lim m n : Nat} {k : Int → RR} (h : sgnLow lim m n k e = .ok res) : (k (.negSucc (n - m - 1)) = .ok res ∧ n - m ≤ lim) ∨ e = .ok res := by
  unfold sgnLow at h
  rcases bool_rec_ok h with ⟨hb, h⟩ | ⟨hb, h⟩
  · rw [fN_eq] at h
    exact .inl ⟨h, Nat.le_of_ble_eq_true hb⟩
  · exact .inr h
theorem unsLow_ok {lim m n : Nat} {k : Int → RR} (h : unsLow lim m n k e = .ok res) : (k (.ofNat ((m + lim - n) % lim)) = .ok res ∧ n ≤ m + lim) ∨ e = .ok res := by
  unfold unsLow at h
  rcases bool_rec_ok h with ⟨hb, h⟩ | ⟨hb, h⟩
  · rw [fN_eq] at h
    exact .inl ⟨h, Nat.le_of_ble_eq_true hb⟩
  · exact .inr h
theorem lowK_ok {kd : IntKind} {m n : Nat} {k : Int → RR} (hmn : m < n) (h : lowK kd m n k e = .ok res) : (∃ r : Int, k r = .ok res ∧ kd.wrap ((m : Int) - (n : Int)) = r) ∨ e = .ok res := by
  cases kd
  case i8 => rcases sgnLow_ok h with ⟨h, hr⟩ | h; exact .inl ⟨_, h, by simp [IntKind.wrap, IntKind.bits, IntKind.signed]; omega⟩; exact .inr h
  case i16 => rcases sgnLow_ok h with ⟨h, hr⟩ | h; exact .inl ⟨_, h, by simp [IntKind.wrap, IntKind.bits, IntKind.signed]; omega⟩; exact .inr h
  case i32 => rcases sgnLow_ok h with ⟨h, hr⟩ | h; exact .inl ⟨_, h, by simp [IntKind.wrap, IntKind.bits, IntKind.signed]; omega⟩; exact .inr h
  case i64 => rcases sgnLow_ok h with ⟨h, hr⟩ | h; exact .inl ⟨_, h, by simp [IntKind.wrap, IntKind.bits, IntKind.signed]; omega⟩; exact .inr h
  case u8 => rcases unsLow_ok h with ⟨h, hr⟩ | h; exact .inl ⟨_, h, by simp [IntKind.wrap, IntKind.bits, IntKind.signed]; omega⟩; exact .inr h
  case u16 => rcases unsLow_ok h with ⟨h, hr⟩ | h; exact .inl ⟨_, h, by simp [IntKind.wrap, IntKind.bits, IntKind.signed]; omega⟩; exact .inr h
  case u32 => rcases unsLow_ok h with ⟨h, hr⟩ | h; exact .inl ⟨_, h, by simp [IntKind.wrap, IntKind.bits, IntKind.signed]; omega⟩; exact .inr h
  case u64 => rcases unsLow_ok h with ⟨h, hr⟩ | h; exact .inl ⟨_, h, by simp [IntKind.wrap, IntKind.bits, IntKind.signed]; omega⟩; exact .inr h
end

theorem eqGuard_pure (op : BinOp) (ty : TypeId) (x y : Operand) (k l : IntKind) (m n : Int) : eqGuard op ty x y (.int k m) (.int l n) = Sem.pure () := by
  cases op <;> rfl
theorem eqGuard_str (op : BinOp) (ty : TypeId) (x y : Operand) (a b : ByteArray) : eqGuard op ty x y (.string a) (.string b) = Sem.pure () := by
  cases op <;> rfl

theorem binSlow_int {T : Tab} {op : BinOp} {ty : TypeId} {kd kb kr : IntKind} {a b r : Int} (s : St) (x y : Operand) (h : binOp op ty (.int kd a) (.int kb b) = Sem.pure (.int kr r)) :
    binSlow T s op ty x y (.int kd a) (.int kb b) = .ok (.val (.int kr r) s) := by
  simp only [binSlow, toV, pureV, eqGuard_pure]
  have : (Sem.pure () >>= fun _ => binOp op ty (.int kd a) (.int kb b)) = (Sem.pure (.int kr r) : Sem Value) := h
  rw [this]
  rfl

/-- what an operation on ints answers, where the model's is a plain value -/
theorem binA_int {T : Tab} {op : BinOp} {ty : TypeId} {kd kb kr : IntKind} {a b r : Int} (s : St) (x y : Operand) (hc : ∀ u v, cmpA op u v = none)
    (h : binOp op ty (.int kd a) (.int kb b) = Sem.pure (.int kr r)) : binA T s op ty x y (.int kd a) (.int kb b) = .ok (.val (.int kr r) s) := by
  have gen : cmpInts T s op ty x y kd kb a b = .ok (.val (.int kr r) s) := by
    unfold cmpInts
    rw [hc]
    cases kd == kb <;> exact binSlow_int s x y h
  unfold binA
  split
  · rename_i m n e1 e2
    cases e1; cases e2
    cases hi : intA op a b with
    | none => exact gen
    | some v =>
      obtain ⟨n, rfl, hn⟩ := intA_ok hi ty ({ toTables := default, funcs := #[] } : Program) default
      rw [h] at hn
      cases hn
      rfl
  · rename_i k m l n _ e1 e2
    cases e1; cases e2
    exact gen
  · rename_i h1
    exact absurd rfl (h1 kd a kb b rfl)

theorem binA_cmp {T : Tab} {op : BinOp} {ty : TypeId} {kd : IntKind} {a b : Int} {v : AV} (s : St) (x y : Operand) (hc : cmpA op a b = some v) (hi : intA op a b = none) :
    binA T s op ty x y (.int kd a) (.int kd b) = .ok (.val v s) := by
  have gen : cmpInts T s op ty x y kd kd a b = .ok (.val v s) := by
    unfold cmpInts
    rw [show (kd == kd) = true by simp, hc]
  unfold binA
  split
  · rename_i m n e1 e2
    cases e1; cases e2
    rw [hi]
    exact gen
  · rename_i k m l n _ e1 e2
    cases e1; cases e2
    exact gen
  · rename_i h1
    exact absurd rfl (h1 kd a kd b rfl)
end Go.Ex
namespace Go.Ex
open Go Go.RowKit

theorem lor_lt {a b n : Nat} (ha : a < 2 ^ n) (hb : b < 2 ^ n) : a ||| b < 2 ^ n := Nat.or_lt_two_pow ha hb
theorem powN_eq (kd : IntKind) : powN kd = 2 ^ kd.bits := by cases kd <;> rfl
theorem bitsN_eq (kd : IntKind) : bitsN kd = kd.bits := by cases kd <;> rfl
theorem ofInt_nat (w m : Nat) : (BitVec.ofInt w (m : Int)).toNat = m % 2 ^ w := by simp

theorem not_ble (a b : Nat) : (!Nat.ble (b + 1) a) = Nat.ble a b := by
  rcases Nat.lt_or_ge b a with h | h
  · rw [Nat.ble_eq_true_of_le h]
    cases hb : Nat.ble a b with
    | false => rfl
    | true => have := Nat.le_of_ble_eq_true hb; omega
  · rw [Nat.ble_eq_true_of_le h]
    cases hb : Nat.ble (b + 1) a with
    | false => rfl
    | true => have := Nat.le_of_ble_eq_true hb; omega

/-- the answer of an operation on two ints -/
def IntAns (op : BinOp) (kd kb : IntKind) (m n : Nat) (v : AV) : Prop := ∀ (T : Tab) (s : St) (ty : TypeId) (x y : Operand), binA T s op ty x y (.int kd (.ofNat m)) (.int kb (.ofNat n)) = .ok (.val v s)

theorem decInt_ok (op : BinOp) (kd : IntKind) : ∃ f, decInt op kd = .mk f ∧ ∀ {m n : Nat} {k : KA} {e : RR} {res : Res}, f m n k e = .ok res → (∃ v, k v = .ok res ∧ IntAns op kd kd m n v) ∨ e = .ok res := by
  cases op
  case add =>
    refine ⟨_, rfl, fun {m n k e res} h => ?_⟩
    rcases wrapK_ok h with ⟨r, hr, hw⟩ | h
    · exact .inl ⟨_, hr, fun T s ty x y => binA_int s x y (fun _ _ => rfl) (by
        simp only [binOp, ne_eq, not_true_eq_false, if_false, Op.intArith]
        exact congrArg (fun z => Sem.pure (Value.int kd z)) hw)⟩
    · exact .inr h
  case sub =>
    refine ⟨_, rfl, fun {m n k e res} h => ?_⟩
    rcases bool_rec_ok h with ⟨hb, h⟩ | ⟨hb, h⟩
    · rcases wrapK_ok h with ⟨r, hr, hw⟩ | h
      · have hle := Nat.le_of_ble_eq_true hb
        exact .inl ⟨_, hr, fun T s ty x y => binA_int s x y (fun _ _ => rfl) (by
          simp only [binOp, ne_eq, not_true_eq_false, if_false, Op.intArith]
          refine congrArg (fun z => Sem.pure (Value.int kd z)) (Eq.trans ?_ hw)
          congr 1
          show (m : Int) - (n : Int) = ((m - n : Nat) : Int)
          omega)⟩
      · exact .inr h
    · have hlt : m < n := by
        rcases Nat.lt_or_ge m n with h | h
        · exact h
        · rw [Nat.ble_eq_true_of_le h] at hb; cases hb
      rcases lowK_ok hlt h with ⟨r, hr, hw⟩ | h
      · exact .inl ⟨_, hr, fun T s ty x y => binA_int s x y (fun _ _ => rfl) (by
          simp only [binOp, ne_eq, not_true_eq_false, if_false, Op.intArith]
          exact congrArg (fun z => Sem.pure (Value.int kd z)) hw)⟩
      · exact .inr h
  case mul =>
    refine ⟨_, rfl, fun {m n k e res} h => ?_⟩
    rcases wrapK_ok h with ⟨r, hr, hw⟩ | h
    · exact .inl ⟨_, hr, fun T s ty x y => binA_int s x y (fun _ _ => rfl) (by
        simp only [binOp, ne_eq, not_true_eq_false, if_false, Op.intArith]
        exact congrArg (fun z => Sem.pure (Value.int kd z)) hw)⟩
    · exact .inr h
  case quo =>
    refine ⟨_, rfl, fun {m n k e res} h => ?_⟩
    rcases bool_rec_ok h with ⟨hb, h⟩ | ⟨hb, h⟩
    · exact .inr h
    · have hn : n ≠ 0 := fun e => by subst e; cases hb
      rcases wrapK_ok h with ⟨r, hr, hw⟩ | h
      · exact .inl ⟨_, hr, fun T s ty x y => binA_int s x y (fun _ _ => rfl) (by
          simp only [binOp, ne_eq, not_true_eq_false, if_false, Op.intDiv]
          rw [if_neg (show ¬ (Int.ofNat n = 0) from fun e => hn (by simpa using e))]
          exact congrArg (fun z => Sem.pure (Value.int kd z)) hw)⟩
      · exact .inr h
  case rem =>
    refine ⟨_, rfl, fun {m n k e res} h => ?_⟩
    rcases bool_rec_ok h with ⟨hb, h⟩ | ⟨hb, h⟩
    · exact .inr h
    · have hn : n ≠ 0 := fun e => by subst e; cases hb
      rw [fN_eq] at h
      exact .inl ⟨_, h, fun T s ty x y => binA_int s x y (fun _ _ => rfl) (by
          simp only [binOp, ne_eq, not_true_eq_false, if_false, Op.intDiv]
          rw [if_neg (show ¬ (Int.ofNat n = 0) from fun e => hn (by simpa using e))]
          rfl)⟩
  case and =>
    refine ⟨_, rfl, fun {m n k e res} h => ?_⟩
    rcases wrapK_ok h with ⟨r, hr, hw⟩ | h
    · refine .inl ⟨_, hr, fun T s ty x y => binA_int s x y (fun _ _ => rfl) ?_⟩
      simp only [binOp, ne_eq, not_true_eq_false, if_false, Op.intBits]
      refine congrArg (fun z => Sem.pure (Value.int kd z)) (Eq.trans (congrArg (fun z : Nat => kd.wrap (z : Int)) ?_) hw)
      rw [BitVec.toNat_and]
      show (BitVec.ofInt kd.bits (m : Int)).toNat &&& (BitVec.ofInt kd.bits (n : Int)).toNat = _
      rw [ofInt_nat, ofInt_nat, powN_eq]
      rfl
    · exact .inr h
  case or =>
    refine ⟨_, rfl, fun {m n k e res} h => ?_⟩
    rcases wrapK_ok h with ⟨r, hr, hw⟩ | h
    · refine .inl ⟨_, hr, fun T s ty x y => binA_int s x y (fun _ _ => rfl) ?_⟩
      simp only [binOp, ne_eq, not_true_eq_false, if_false, Op.intBits]
      refine congrArg (fun z => Sem.pure (Value.int kd z)) (Eq.trans (congrArg (fun z : Nat => kd.wrap (z : Int)) ?_) hw)
      rw [BitVec.toNat_or]
      show (BitVec.ofInt kd.bits (m : Int)).toNat ||| (BitVec.ofInt kd.bits (n : Int)).toNat = _
      rw [ofInt_nat, ofInt_nat, powN_eq]
      rfl
    · exact .inr h
  case xor =>
    refine ⟨_, rfl, fun {m n k e res} h => ?_⟩
    rcases wrapK_ok h with ⟨r, hr, hw⟩ | h
    · refine .inl ⟨_, hr, fun T s ty x y => binA_int s x y (fun _ _ => rfl) ?_⟩
      simp only [binOp, ne_eq, not_true_eq_false, if_false, Op.intBits]
      refine congrArg (fun z => Sem.pure (Value.int kd z)) (Eq.trans (congrArg (fun z : Nat => kd.wrap (z : Int)) ?_) hw)
      rw [BitVec.toNat_xor]
      show (BitVec.ofInt kd.bits (m : Int)).toNat ^^^ (BitVec.ofInt kd.bits (n : Int)).toNat = _
      rw [ofInt_nat, ofInt_nat, powN_eq]
      rfl
    · exact .inr h
  case eql =>
    refine ⟨_, rfl, fun {m n k e res} h => ?_⟩
    rw [boolK_eq] at h
    exact .inl ⟨_, h, fun T s ty x y => binA_cmp s x y rfl rfl⟩
  case neq =>
    refine ⟨_, rfl, fun {m n k e res} h => ?_⟩
    refine .inl ⟨.bool (!Nat.beq m n), ?_, fun T s ty x y => binA_cmp s x y rfl rfl⟩
    rcases bool_rec_ok h with ⟨hb, h⟩ | ⟨hb, h⟩ <;> (rw [hb]; exact h)
  case lss =>
    refine ⟨_, rfl, fun {m n k e res} h => ?_⟩
    rw [boolK_eq] at h
    exact .inl ⟨_, h, fun T s ty x y => binA_cmp s x y rfl rfl⟩
  case leq =>
    refine ⟨_, rfl, fun {m n k e res} h => ?_⟩
    rw [boolK_eq] at h
    refine .inl ⟨_, h, fun T s ty x y => binA_cmp s x y ?_ rfl⟩
    simp only [cmpA, ltI, Option.some.injEq, AV.bool.injEq]
    exact not_ble m n
  case gtr =>
    refine ⟨_, rfl, fun {m n k e res} h => ?_⟩
    rw [boolK_eq] at h
    exact .inl ⟨_, h, fun T s ty x y => binA_cmp s x y rfl rfl⟩
  case geq =>
    refine ⟨_, rfl, fun {m n k e res} h => ?_⟩
    rw [boolK_eq] at h
    refine .inl ⟨_, h, fun T s ty x y => binA_cmp s x y ?_ rfl⟩
    simp only [cmpA, ltI, Option.some.injEq, AV.bool.injEq]
    exact not_ble n m
  all_goals exact ⟨_, rfl, fun h => .inr h⟩

theorem decShift_ok (op : BinOp) (kd : IntKind) : ∃ f, decShift op kd = .mk f ∧ ∀ {m n : Nat} {k : KA} {e : RR} {res : Res}, f m n k e = .ok res → (∃ v, k v = .ok res ∧ ∀ kb, IntAns op kd kb m n v) ∨ e = .ok res := by
  cases op
  case shl =>
    refine ⟨_, rfl, fun {m n k e res} h => ?_⟩
    rcases bool_rec_ok h with ⟨hb, h⟩ | ⟨hb, h⟩
    · have hle := Nat.le_of_ble_eq_true hb
      rw [bitsN_eq] at hle
      rcases wrapK_ok h with ⟨r, hr, hw⟩ | h
      · exact .inl ⟨_, hr, fun kb T s ty x y => binA_int s x y (fun _ _ => rfl) (by
          simp only [binOp, Op.shift]
          rw [if_neg (show ¬ (Int.ofNat n < 0) by simp)]
          refine congrArg (fun z => Sem.pure (Value.int kd z)) (Eq.trans ?_ hw)
          rw [show min (Int.ofNat n).toNat kd.bits = n from Nat.min_eq_left hle]
          congr 1)⟩
      · exact .inr h
    · exact .inr h
  case shr =>
    refine ⟨_, rfl, fun {m n k e res} h => ?_⟩
    rcases bool_rec_ok h with ⟨hb, h⟩ | ⟨hb, h⟩
    · have hle := Nat.le_of_ble_eq_true hb
      rw [bitsN_eq] at hle
      rw [fN_eq] at h
      exact .inl ⟨_, h, fun kb T s ty x y => binA_int s x y (fun _ _ => rfl) (by
          simp only [binOp, Op.shift]
          rw [if_neg (show ¬ (Int.ofNat n < 0) by simp)]
          refine congrArg (fun z => Sem.pure (Value.int kd z)) ?_
          rw [show min (Int.ofNat n).toNat kd.bits = n from Nat.min_eq_left hle]
          show Int.fdiv (m : Int) (2 ^ n) = ((m / 2 ^ n : Nat) : Int)
          rw [Int.fdiv_eq_ediv_of_nonneg _ (by exact Int.le_of_lt (Int.pow_pos (by decide)))]
          simp)⟩
    · exact .inr h
  all_goals exact ⟨_, rfl, fun h => .inr h⟩

theorem toList_mk (l : List UInt8) : (⟨⟨l⟩⟩ : ByteArray).toList = l := ByteArray.toList_eq _

theorem binA_str {T : Tab} {op : BinOp} {ty : TypeId} {a b : ByteArray} {v : Value} {x : AV} (s : St) (p q : Operand) (h : binOp op ty (.string a) (.string b) = Sem.pure v) (hx : ofV v = some x) :
    binA T s op ty p q (.string a) (.string b) = .ok (.val x s) := by
  show binSlow T s op ty p q (.string a) (.string b) = _
  simp only [binSlow, toV, pureV, eqGuard_str]
  have : (Sem.pure () >>= fun _ => binOp op ty (.string a) (.string b)) = (Sem.pure v : Sem Value) := h
  rw [this]
  simp only [psem, hx]

theorem strF_ok {op : BinOp} {a b : List UInt8} {k : KA} {e : RR} {res : Res} (h : strF op a b k e = .ok res) :
    (∃ v, k v = .ok res ∧ ∀ (T : Tab) (s : St) (ty : TypeId) (x y : Operand), binA T s op ty x y (.string ⟨⟨a⟩⟩) (.string ⟨⟨b⟩⟩) = .ok (.val v s)) ∨ e = .ok res := by
  cases op
  case eql =>
    replace h : eqB a b (k (.bool true)) (k (.bool false)) = .ok res := h
    rw [eqB_eq] at h
    refine .inl ⟨.bool (a == b), ?_, fun T s ty x y => binA_str s x y (v := .bool (a == b)) ?_ rfl⟩
    · by_cases e : a = b
      · rw [if_pos e] at h; rw [show (a == b) = true by simpa using e]; exact h
      · rw [if_neg e] at h; rw [show (a == b) = false by simpa using e]; exact h
    · simp only [binOp, Op.stringOp, toList_mk]; rfl
  case neq =>
    replace h : eqB a b (k (.bool false)) (k (.bool true)) = .ok res := h
    rw [eqB_eq] at h
    refine .inl ⟨.bool (!(a == b)), ?_, fun T s ty x y => binA_str s x y (v := .bool (!(a == b))) ?_ rfl⟩
    · by_cases e : a = b
      · rw [if_pos e] at h; rw [show (a == b) = true by simpa using e]; exact h
      · rw [if_neg e] at h; rw [show (a == b) = false by simpa using e]; exact h
    · simp only [binOp, Op.stringOp, toList_mk]; rfl
  case add =>
    rcases bool_rec_ok h with ⟨hb, h⟩ | ⟨hb, h⟩
    · rw [appB_eq] at h
      have hle := Nat.le_of_ble_eq_true hb
      rw [lenB_eq, lenB_eq] at hle
      refine .inl ⟨_, h, fun T s ty x y => binA_str s x y (v := .string ⟨⟨a ++ b⟩⟩) ?_ rfl⟩
      simp only [binOp, Op.stringOp]
      rw [if_neg]
      · refine congrArg (fun z => Sem.pure (Value.string z)) ?_
        ext1
        simp
      · have : IntKind.i64.max = 9223372036854775807 := by decide
        rw [this]
        have e1 : (⟨⟨a⟩⟩ : ByteArray).size = a.length := rfl
        have e2 : (⟨⟨b⟩⟩ : ByteArray).size = b.length := rfl
        rw [e1, e2]
        have hle' : a.length + b.length ≤ 9223372036854775807 := hle
        omega
    · exact .inr h
  all_goals exact .inr h
end Go.Ex
