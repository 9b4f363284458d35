/- The executor: a big-step reading of the program as the model runs it, made for evaluation by the kernel, and its soundness (part ExH). -/
import Derived.Test.YtmkdjmoifkffgaaGreatDoorExE
import Derived.Orders
import Derived.RangeFuncRecord
import GoSem.Extern.Table
set_option linter.unusedVariables false
set_option linter.unusedSimpArgs false
set_option linter.unusedSectionVars false
namespace Go.Ex
open Go

/-! ### what a schedule keeps to -/
def Fwd (ops : Array Oper) : Prop := ∀ (i : Nat) (o : Oper), ops[i]? = some o → ∀ e ∈ o.after.toList, Region.binds .any e = true → e.on < i

def Sched (ops : Array Oper) : Array Bool → List Nat → Prop
  | listed, [] => ∀ i, i < ops.size → listed.getD i false = true
  | listed, i :: rest => listed.getD i true = false ∧ (∃ o, ops[i]? = some o ∧ ∀ e ∈ o.after.toList, Region.binds .any e = true → listed.getD e.on false = true) ∧ Sched ops (listed.setIfInBounds i true) rest

theorem binds_any {md : Region.Mode} {e : Edge} (h : Region.binds .any e = true) : Region.binds md e = true := by
  unfold Region.binds at *
  split at h <;> first | (cases h; done) | rfl | (simp at h)

def unl (listed : Array Bool) : Nat := listed.toList.countP (fun b => !b)

theorem unl_set {listed : Array Bool} {i : Nat} (h : i < listed.size) (hf : listed.getD i true = false) : unl (listed.setIfInBounds i true) + 1 = unl listed := by
  unfold unl
  have hl : i < listed.toList.length := by simpa using h
  have hv : listed.toList[i] = false := by simpa [Array.getD, h] using hf
  have e : (listed.setIfInBounds i true).toList = listed.toList.set i true := by simp
  rw [e]
  have key : ∀ (l : List Bool) (i : Nat) (h : i < l.length), l[i] = false → (l.set i true).countP (fun b => !b) + 1 = l.countP (fun b => !b) := by
    intro l
    induction l with
    | nil => intro i h; simp at h
    | cons a l ih =>
      intro i h hv
      cases i with
      | zero => simp at hv; subst hv; simp
      | succ i =>
        simp at hv h
        simp only [List.set_cons_succ, List.countP_cons]
        have := ih i h hv
        omega
  exact key _ i hl hv

theorem unl_zero {listed : Array Bool} (h : unl listed = 0) {i : Nat} (hi : i < listed.size) : listed.getD i false = true := by
  unfold unl at h
  rw [List.countP_eq_zero] at h
  have := h listed[i] (by simp)
  simp [Array.getD, hi]
  simpa using this

theorem ready_some {ops : Array Oper} (hf : Fwd ops) {listed : Array Bool} (hs : listed.size = ops.size) : ∀ n j, j ≤ n → j < ops.size → listed.getD j true = false → Region.ready .any ops listed ≠ [] := by
  intro n
  induction n with
  | zero =>
    intro j hj hlt hu hnil
    have : j ∈ Region.ready .any ops listed := mem_ready.2 ⟨hu, ops[j], Array.getElem?_eq_getElem hlt, fun e he hb => by
      have := hf j ops[j] (Array.getElem?_eq_getElem hlt) e (by simpa using he) hb
      omega⟩
    rw [hnil] at this
    cases this
  | succ n ih =>
    intro j hj hlt hu hnil
    by_cases hall : ∀ e ∈ ops[j].after, Region.binds .any e = true → listed.getD e.on false = true
    · have : j ∈ Region.ready .any ops listed := mem_ready.2 ⟨hu, ops[j], Array.getElem?_eq_getElem hlt, hall⟩
      rw [hnil] at this
      cases this
    · simp only [Classical.not_forall] at hall
      obtain ⟨e, he, hb0, hne⟩ := hall
      have hlt2 := hf j ops[j] (Array.getElem?_eq_getElem hlt) e (by simpa using he) hb0
      refine ih e.on (by omega) (by omega) ?_ hnil
      have hb : e.on < listed.size := by omega
      simp [Array.getD, hb] at hne ⊢
      exact hne

theorem sched_go {ops : Array Oper} (hf : Fwd ops) : ∀ fuel t (listed : Array Bool), listed.size = ops.size → unl listed ≤ fuel → Sched ops listed (Region.linearise.go .any ops fuel t listed []) := by
  intro fuel
  induction fuel with
  | zero =>
    intro t listed hs hu
    simp only [Region.linearise.go, List.reverse_nil]
    intro i hi
    exact unl_zero (by omega) (by omega)
  | succ fuel ih =>
    intro t listed hs hu
    simp only [Region.linearise.go]
    change Sched ops listed (match (Region.ready .any ops listed)[t % (Region.ready .any ops listed).length]? with
      | some i => Region.linearise.go .any ops fuel (t / (Region.ready .any ops listed).length) (listed.setIfInBounds i true) [i]
      | none => [].reverse)
    cases hi : (Region.ready .any ops listed)[t % (Region.ready .any ops listed).length]? with
    | none =>
      have hnil : Region.ready .any ops listed = [] := by
        cases hr : Region.ready .any ops listed with
        | nil => rfl
        | cons x xs =>
          rw [hr] at hi
          have hlt : t % (x :: xs).length < (x :: xs).length := Nat.mod_lt _ (by simp)
          simp at hi
          simp at hlt
          omega
      intro i hlt
      cases hb : listed.getD i false with
      | true => rfl
      | false =>
        have hb' : listed.getD i true = false := by
          have : i < listed.size := by omega
          simp [Array.getD, this] at hb ⊢
          exact hb
        exact absurd hnil (ready_some hf hs i i (Nat.le_refl _) hlt hb')
    | some i =>
      simp only []
      rw [linearise_go_acc, List.reverse_singleton, List.singleton_append]
      obtain ⟨hu0, o, ho, hall⟩ := mem_ready.1 (List.mem_of_getElem? hi)
      have hlt : i < ops.size := (Array.getElem?_eq_some_iff.1 ho).1
      refine ⟨hu0, ⟨o, ho, fun e he hb => hall e (by simpa using he) hb⟩, ih _ _ (by simpa using hs) ?_⟩
      have := unl_set (i := i) (by omega) hu0
      omega

theorem unl_replicate (n : Nat) : unl (Array.replicate n false) ≤ n := by
  unfold unl
  have := List.countP_le_length (p := fun b => !b) (l := (Array.replicate n false).toList)
  simpa using this

theorem sched_schedule {ops : Array Oper} (hf : Fwd ops) {mixed : Bool} (hm : mixed = true) (t : Nat) : Sched ops (Array.replicate ops.size false) (Region.schedule mixed ops t) := by
  unfold Region.schedule Region.linearise
  rw [hm]
  exact sched_go hf _ _ _ (by simp) (unl_replicate _)

/-! ### 'before' -/
def befOf (acc : Array Nat) (o : Oper) : Nat := o.after.foldl (fun s e => if Region.binds .any e then s ||| 2 ^ e.on ||| acc.getD e.on 0 else s) 0

theorem befFold (R : List Edge) (A : Array Nat) (i : Nat) : ∀ s, Nat.testBit (R.foldl (fun s e => if Region.binds .any e then s ||| 2 ^ e.on ||| A.getD e.on 0 else s) s) i = true →
    Nat.testBit s i = true ∨ ∃ e ∈ R, Region.binds .any e = true ∧ (e.on = i ∨ Nat.testBit (A.getD e.on 0) i = true) := by
  induction R with
  | nil => intro s h; exact .inl h
  | cons e R ih =>
    intro s h
    simp only [List.foldl_cons] at h
    rcases ih _ h with h | ⟨e', he', hb, h⟩
    · cases hb : Region.binds .any e with
      | false => rw [hb] at h; exact .inl h
      | true =>
        rw [hb] at h
        simp only [if_true, Nat.testBit_or, Bool.or_eq_true] at h
        rcases h with (h | h) | h
        · exact .inl h
        · refine .inr ⟨e, List.mem_cons_self .., hb, .inl ?_⟩
          rw [Nat.testBit_two_pow] at h
          simpa using h
        · exact .inr ⟨e, List.mem_cons_self .., hb, .inr h⟩
    · exact .inr ⟨e', List.mem_cons_of_mem _ he', hb, h⟩

theorem bef_list : ∀ (l : List Oper) (acc : Array Nat), 
    (∀ k, k < acc.size → (l.foldl (fun acc o => acc.push (befOf acc o)) acc).getD k 0 = acc.getD k 0) ∧ (l.foldl (fun acc o => acc.push (befOf acc o)) acc).size = acc.size + l.length ∧
    ∀ k o, l[k]? = some o → ∃ A : Array Nat, A.size = acc.size + k ∧ (∀ x, x < A.size → (l.foldl (fun acc o => acc.push (befOf acc o)) acc).getD x 0 = A.getD x 0) ∧ (l.foldl (fun acc o => acc.push (befOf acc o)) acc).getD (acc.size + k) 0 = befOf A o := by
  intro l
  induction l with
  | nil => intro acc; exact ⟨fun _ _ => rfl, rfl, fun k o h => by cases h⟩
  | cons a l ih =>
    intro acc
    obtain ⟨h1, h2, h3⟩ := ih (acc.push (befOf acc a))
    simp only [List.foldl_cons]
    refine ⟨fun k hk => ?_, ?_, fun k o hk => ?_⟩
    · rw [h1 k (by simp; omega)]
      simp [Array.getD, hk, Nat.lt_succ_of_lt hk, Array.getElem_push]
    · rw [h2]; simp; omega
    · cases k with
      | zero =>
        cases hk
        refine ⟨acc, rfl, fun x hx => ?_, ?_⟩
        · rw [h1 x (by simp; omega)]
          simp [Array.getD, hx, Nat.lt_succ_of_lt hx, Array.getElem_push]
        · rw [h1 _ (by simp)]
          simp [Array.getD]
      | succ k =>
        obtain ⟨A, a1, a2, a3⟩ := h3 k o (by simpa using hk)
        refine ⟨A, by rw [a1]; simp; omega, a2, ?_⟩
        rw [show acc.size + (k + 1) = (acc.push (befOf acc a)).size + k by simp; omega]
        exact a3

theorem before_eq (ops : Array Oper) : Region.before ops = ops.toList.foldl (fun acc o => acc.push (befOf acc o)) #[] := by
  unfold Region.before befOf
  rw [← Array.foldl_toList]

theorem before_bit {ops : Array Oper} {i j : Nat} (h : Nat.testBit ((Region.before ops).getD j 0) i = true) :
    ∃ o, ops[j]? = some o ∧ ∃ e ∈ o.after.toList, Region.binds .any e = true ∧ (e.on = i ∨ (e.on < j ∧ Nat.testBit ((Region.before ops).getD e.on 0) i = true)) := by
  obtain ⟨h1, h2, h3⟩ := bef_list ops.toList #[]
  rw [← before_eq] at h1 h2 h3
  have hlt : j < ops.size := by
    rcases Nat.lt_or_ge j ops.size with h' | h'
    · exact h'
    · have hsz : (Region.before ops).size ≤ j := by rw [h2]; simpa using h'
      have : (Region.before ops).getD j 0 = 0 := by simp [Array.getD, Nat.not_lt.2 hsz]
      rw [this] at h
      simp at h
  refine ⟨ops[j], Array.getElem?_eq_getElem hlt, ?_⟩
  obtain ⟨A, a1, a2, a3⟩ := h3 j ops[j] (by simp [hlt])
  simp only [List.size_toArray, List.length_nil, Nat.zero_add] at a1 a3
  rw [a3] at h
  unfold befOf at h
  rw [← Array.foldl_toList] at h
  rcases befFold _ A i 0 h with h | ⟨e, he, hb, h⟩
  · simp at h
  · refine ⟨e, he, hb, ?_⟩
    rcases h with h | h
    · exact .inl h
    · rcases Nat.lt_or_ge e.on A.size with h' | h'
      · rw [← a2 e.on h'] at h
        exact .inr ⟨by omega, h⟩
      · simp [Array.getD, Nat.not_lt.2 h'] at h

theorem before_lt {ops : Array Oper} (hf : Fwd ops) {i : Nat} : ∀ n j, j ≤ n → Nat.testBit ((Region.before ops).getD j 0) i = true → i < j := by
  intro n
  induction n with
  | zero =>
    intro j hj h
    obtain ⟨o, ho, e, he, hb, h⟩ := before_bit h
    have := hf j o ho e he hb
    omega
  | succ n ih =>
    intro j hj h
    obtain ⟨o, ho, e, he, hb, h⟩ := before_bit h
    have h1 := hf j o ho e he hb
    rcases h with h | ⟨h2, h⟩
    · omega
    · have := ih e.on (by omega) h
      omega

def Closed (ops : Array Oper) (listed : Array Bool) : Prop := ∀ (j : Nat) (o : Oper), ops[j]? = some o → listed.getD j false = true → ∀ e ∈ o.after.toList, Region.binds .any e = true → listed.getD e.on false = true

/-- what comes before what is listed, or may come up now, is listed -/
theorem before_listed {ops : Array Oper} (hf : Fwd ops) {listed : Array Bool} (hc : Closed ops listed) {i : Nat} : ∀ n j o, j ≤ n → ops[j]? = some o →
    (∀ e ∈ o.after.toList, Region.binds .any e = true → listed.getD e.on false = true) → Nat.testBit ((Region.before ops).getD j 0) i = true → listed.getD i false = true := by
  intro n
  induction n with
  | zero =>
    intro j o hj ho hall h
    have := before_lt hf _ j (Nat.le_refl _) h
    omega
  | succ n ih =>
    intro j o hj ho hall h
    obtain ⟨o', ho', e, he, hb, h⟩ := before_bit h
    rw [ho] at ho'
    cases ho'
    have h1 := hf j o ho e he hb
    rcases h with h | ⟨h2, h⟩
    · rw [← h]; exact hall e he hb
    · obtain ⟨o2, ho2, _⟩ := before_bit h
      exact ih e.on o2 (by omega) ho2 (hc e.on o2 ho2 (hall e he hb)) h
theorem before_closed {ops : Array Oper} (hf : Fwd ops) {listed : Array Bool} (hc : Closed ops listed) {i j : Nat} {o : Oper} (ho : ops[j]? = some o) (hl : listed.getD j false = true)
    (h : Nat.testBit ((Region.before ops).getD j 0) i = true) : listed.getD i false = true := before_listed hf hc j j o (Nat.le_refl _) ho (hc j o ho hl) h

/-! ### the static look -/
theorem static_fwd {all : Array Oper} {b : Array Nat} : ∀ {l : List Oper} {i : Nat}, staticFrom all b i l = true → ∀ k o, l[k]? = some o → ∀ e ∈ o.after.toList, Region.binds .any e = true → e.on < i + k := by
  intro l
  induction l with
  | nil => intro i _ k o h; cases h
  | cons x l ih =>
    intro i h k o hk e he hb
    simp only [staticFrom, Bool.and_eq_true] at h
    cases k with
    | zero =>
      cases hk
      have : ∀ (es : List Edge), edgesLt i es = true → e ∈ es → e.on < i := by
        intro es
        induction es with
        | nil => intro _ h; cases h
        | cons y es ih =>
          intro hy hm
          simp only [edgesLt, Bool.and_eq_true, Bool.or_eq_true, Bool.not_eq_true'] at hy
          rcases List.mem_cons.1 hm with rfl | hm
          · rcases hy.1 with h' | h'
            · rw [hb] at h'; cases h'
            · exact Nat.le_of_ble_eq_true h'
          · exact ih hy.2 hm
      exact this _ h.1 he
    | succ k =>
      have := ih h.2.2 k o (by simpa using hk) e he hb
      omega
theorem pairsWith_spec {all : Array Oper} {b : Array Nat} {i : Nat} {x : Oper} : ∀ {l : List Oper} {j : Nat}, pairsWith all b i x j l = true → ∀ k y, l[k]? = some y → pairOK all b i x (j + k) y = true := by
  intro l
  induction l with
  | nil => intro j _ k y h; cases h
  | cons z l ih =>
    intro j h k y hk
    simp only [pairsWith, Bool.and_eq_true] at h
    cases k with
    | zero => cases hk; exact h.1
    | succ k =>
      have := ih h.2 k y (by simpa using hk)
      rwa [show j + (k + 1) = j + 1 + k by omega]
theorem static_pair {all : Array Oper} {b : Array Nat} : ∀ {l : List Oper} {i : Nat}, staticFrom all b i l = true → ∀ k k' x y, k < k' → l[k]? = some x → l[k']? = some y → pairOK all b (i + k) x (i + k') y = true := by
  intro l
  induction l with
  | nil => intro i _ k k' x y _ h; cases h
  | cons z l ih =>
    intro i h k k' x y hlt hk hk'
    simp only [staticFrom, Bool.and_eq_true] at h
    cases k' with
    | zero => omega
    | succ k' =>
      cases k with
      | zero =>
        cases hk
        have := pairsWith_spec h.2.1 k' y (by simpa using hk')
        rwa [show i + (k' + 1) = i + 1 + k' by omega]
      | succ k =>
        have := ih h.2.2 k k' x y (by omega) (by simpa using hk) (by simpa using hk')
        rwa [show i + (k + 1) = i + 1 + k by omega, show i + (k' + 1) = i + 1 + k' by omega]

theorem drawStatic_fwd {all : Array Oper} (h : drawStatic all = true) : Fwd all := by
  intro i o ho e he hb
  have := static_fwd h i o (by simpa using ho) e he hb
  omega
theorem drawStatic_pair {all : Array Oper} (h : drawStatic all = true) {i j : Nat} {x y : Oper} (hlt : i < j) (hx : all[i]? = some x) (hy : all[j]? = some y) :
    (∀ d, x.dst = some d → y.dst ≠ some d) ∧ (Nat.testBit ((Region.before all).getD j 0) i = true ∨ ((∀ d, x.dst = some d → looks all y d = false) ∧ (∀ d, y.dst = some d → looks all x d = false))) := by
  have := static_pair h i j x y hlt (by simpa using hx) (by simpa using hy)
  simp only [Nat.zero_add, pairOK, Bool.and_eq_true, Bool.or_eq_true, Bool.not_eq_true'] at this
  obtain ⟨h1, h2⟩ := this
  refine ⟨fun d hd hd' => ?_, ?_⟩
  · simp [dstSame, hd, hd'] at h1
  · rcases h2 with h2 | ⟨h2, h3⟩
    · exact .inl h2
    · refine .inr ⟨fun d hd => ?_, fun d hd => ?_⟩
      · simpa [dstLooks, hd] using h2
      · simpa [dstLooks, hd] using h3
end Go.Ex
namespace Go.Ex
open Go Go.RowKit

section
variable {T : Tab} {B : Nat} {W : World}

theorem SameHard.trans {a b c : Fr} (h : SameHard a b) (h' : SameHard b c) : SameHard a c := ⟨h.1.trans h'.1, h.2.1.trans h'.2.1, h.2.2.trans h'.2.2⟩
theorem SameHard.symm {a b : Fr} (h : SameHard a b) : SameHard b a := ⟨h.1.symm, h.2.1.symm, h.2.2.symm⟩

theorem unwanted_go {cx : Cx} {all : Array Oper} {o : Oper} {fr2 : Fr} {m : Nat} (hm : all[m]? = some o) (hd : ∀ d, o.dst = some d → d < cx.nt)
    (hw : Region.wanted o (yieldedA all fr2.tmps) = false) : OpGo T T.ng B W all m cx fr2 (fr2.upd (putT fr2.tmps o.dst undefA)) := by
  intro φ E tmps ds w rest k0 hs hf
  have hw2 : Region.wanted o (yielded all tmps) = false := by rw [wanted_ok hf.tr]; exact hw
  have h1 := st_unwanted (P := T.P) (fr := atF E tmps (.inRegion all (m :: rest) :: k0) ds) (cs := E.cs fr2.recd) (w := w) hf.env.mode rfl (by simp [hm, hw2])
  exact go_value (k := k0) (rest := rest) hm hd hf (Phi.le_refl φ) (st := fr2.st) hs (VR_undef φ) (Steps.one h1)

theorem value_go (hT : TabOK T) {cx : Cx} {all : Array Oper} {o : Oper} {fr2 : Fr} {m : Nat} (hm : all[m]? = some o) (hd : ∀ d, o.dst = some d → d < cx.nt)
    (hw : Region.wanted o (yieldedA all fr2.tmps) = true) {v : AV} (hop : opA T fr2.st fr2.tmps o = .ok (.val v fr2.st)) : OpGo T T.ng B W all m cx fr2 (fr2.upd (putT fr2.tmps o.dst v)) := by
  intro φ E tmps ds w rest k0 hs hf
  obtain ⟨φ', v', w', hle, hs', hv, hrun⟩ := next_at hT (.inRegion all (m :: rest) :: k0) hs hf hop
  have hr := round_hr hf.env o fun c hc => by obtain ⟨f, a, e⟩ := op_defer hop hc; cases e
  exact go_value (k := k0) (rest := rest) hm hd hf hle hs' hv (Steps.one (st_value (fr := atF E tmps (.inRegion all (m :: rest) :: k0) ds) hf.env.mode rfl hm (by rw [wanted_ok hf.tr]; exact hw) hr hrun))

/-! ### lists of snapshots -/
theorem chainWith_spec {b : Array Nat} {j : Nat} : ∀ {l : List (Nat × St × St)}, chainWith b j l = true → ∀ x ∈ l, x.1 = j ∨ Nat.testBit (b.getD j 0) x.1 = true ∨ Nat.testBit (b.getD x.1 0) j = true
  | [], _, x, hx => by cases hx
  | (i, s0, s1) :: l, h, x, hx => by
    simp only [chainWith, Bool.and_eq_true, Bool.or_eq_true] at h
    rcases List.mem_cons.1 hx with rfl | hx
    · exact h.1.imp (fun h => Nat.eq_of_beq_eq_true h) id
    · exact chainWith_spec h.2 x hx
theorem chainOK_spec {b : Array Nat} : ∀ {l : List (Nat × St × St)}, chainOK b l = true → ∀ x ∈ l, ∀ y ∈ l, x.1 = y.1 ∨ Nat.testBit (b.getD x.1 0) y.1 = true ∨ Nat.testBit (b.getD y.1 0) x.1 = true
  | [], _, x, hx => by cases hx
  | (j, s0, s1) :: l, h, x, hx => by
    intro y hy
    simp only [chainOK, Bool.and_eq_true] at h
    rcases List.mem_cons.1 hx with rfl | hx
    · rcases List.mem_cons.1 hy with rfl | hy
      · exact .inl rfl
      · exact (chainWith_spec h.1 y hy).imp Eq.symm id
    · rcases List.mem_cons.1 hy with rfl | hy
      · exact (chainWith_spec h.1 x hx).imp id Or.symm
      · exact chainOK_spec h.2 x hx y hy
theorem stableOne_spec {b : Array Nat} {l : Ld} : ∀ {sn : List (Nat × St × St)}, stableOne T b l sn = true → ∀ x ∈ sn, Nat.testBit (b.getD x.1 0) l.i = true ∨ Nat.testBit (b.getD l.i 0) x.1 = true ∨ (sameAt T x.2.1 l = true ∧ sameAt T x.2.2 l = true)
  | [], _, x, hx => by cases hx
  | (j, s0, s1) :: sn, h, x, hx => by
    simp only [stableOne, Bool.and_eq_true, Bool.or_eq_true] at h
    rcases List.mem_cons.1 hx with rfl | hx
    · rcases h.1 with (h | h) | h
      · exact .inl h
      · exact .inr (.inl h)
      · exact .inr (.inr h)
    · exact stableOne_spec h.2 x hx
theorem stable_spec {b : Array Nat} {sn : List (Nat × St × St)} : ∀ {L : List Ld}, stable T b sn L = true → ∀ l ∈ L, ∀ x ∈ sn, Nat.testBit (b.getD x.1 0) l.i = true ∨ Nat.testBit (b.getD l.i 0) x.1 = true ∨ (sameAt T x.2.1 l = true ∧ sameAt T x.2.2 l = true)
  | [], _, l, hl => by cases hl
  | a :: L, h, l, hl => by
    simp only [stable, Bool.and_eq_true] at h
    rcases List.mem_cons.1 hl with rfl | hl
    · exact stableOne_spec h.1
    · exact stable_spec h.2 l hl
theorem sameAt_spec {s : St} {l : Ld} (h : sameAt T s l = true) : loadA T s l.ty l.a = .ok l.v := by
  unfold sameAt at h
  cases hl : loadA T s l.ty l.a with
  | err e => rw [hl] at h; cases h
  | ok v => rw [hl] at h; rw [beqA_same h]

theorem least {p : Nat → Prop} {a : Nat} : ∀ n, (∀ k, a ≤ k → k < a + n → ¬ p k) ∨ ∃ k, a ≤ k ∧ k < a + n ∧ p k ∧ ∀ j, a ≤ j → j < k → ¬ p j
  | 0 => .inl fun k h1 h2 => by omega
  | n + 1 => by
    rcases least (p := p) (a := a) n with h | ⟨k, h1, h2, h3, h4⟩
    · by_cases hp : p (a + n)
      · exact .inr ⟨a + n, by omega, by omega, hp, fun j hj hlt => h j hj (by omega)⟩
      · refine .inl fun k h1 h2 => ?_
        rcases Nat.lt_or_ge k (a + n) with h' | h'
        · exact h k h1 h'
        · rwa [show k = a + n by omega]
    · exact .inr ⟨k, h1, by omega, h3, h4⟩
theorem greatest {p : Nat → Prop} {a : Nat} : ∀ n, (∀ k, a ≤ k → k < a + n → ¬ p k) ∨ ∃ k, a ≤ k ∧ k < a + n ∧ p k ∧ ∀ j, k < j → j < a + n → ¬ p j
  | 0 => .inl fun k h1 h2 => by omega
  | n + 1 => by
    by_cases hp : p (a + n)
    · exact .inr ⟨a + n, by omega, by omega, hp, fun j hj hlt => by omega⟩
    · rcases greatest (p := p) (a := a) n with h | ⟨k, h1, h2, h3, h4⟩
      · refine .inl fun k h1 h2 => ?_
        rcases Nat.lt_or_ge k (a + n) with h' | h'
        · exact h k h1 h'
        · rwa [show k = a + n by omega]
      · refine .inr ⟨k, h1, by omega, h3, fun j hj hlt => ?_⟩
        rcases Nat.lt_or_ge j (a + n) with h' | h'
        · exact h4 j hj h'
        · rwa [show j = a + n by omega]

/-! ### whatever order -/
structure Seen (T : Tab) (B : Nat) (W : World) (cx : Cx) (all : Array Oper) (frs : Nat → Fr) (L : List Ld) (S : List (Nat × St × St)) : Prop where
  stat : drawStatic all = true
  chain : chainOK (Region.before all) S = true
  stab : stable T (Region.before all) S L = true
  step : ∀ k o, all[k]? = some o → StepAt T T.ng B W cx all k o (frs k) (frs (k + 1)) L S

section
variable {cx : Cx} {all : Array Oper} {frs : Nat → Fr} {L : List Ld} {S : List (Nat × St × St)}

def HardAt (frs : Nat → Fr) (S : List (Nat × St × St)) (j : Nat) : Prop := (j, (frs j).st, (frs (j + 1)).st) ∈ S

theorem Seen.soft (h : Seen T B W cx all frs L S) {j : Nat} (hj : j < all.size) (hn : ¬ HardAt frs S j) : SameHard (frs j) (frs (j + 1)) := by
  obtain ⟨v, _, _, h | h | h | h⟩ := h.step j all[j] (Array.getElem?_eq_getElem hj)
  · exact h.2.2
  · exact h.2.2.2
  · exact h.2.2
  · exact absurd h.1 hn
theorem Seen.softs (h : Seen T B W cx all frs L S) {a : Nat} : ∀ n, a + n ≤ all.size → (∀ k, a ≤ k → k < a + n → ¬ HardAt frs S k) → SameHard (frs a) (frs (a + n))
  | 0, _, _ => same_refl _
  | n + 1, hle, hn => (Seen.softs h n (by omega) fun k h1 h2 => hn k h1 (by omega)).trans (h.soft (by omega) (hn _ (by omega) (by omega)))
theorem Seen.softs' (h : Seen T B W cx all frs L S) {a b : Nat} (hab : a ≤ b) (hb : b ≤ all.size) (hn : ∀ k, a ≤ k → k < b → ¬ HardAt frs S k) : SameHard (frs a) (frs b) := by
  have := h.softs (a := a) (b - a) (by omega) (fun k h1 h2 => hn k h1 (by omega))
  rwa [show a + (b - a) = b by omega] at this

def Writes (all : Array Oper) (j : Nat) (d : Tmp) : Prop := ∃ o, all[j]? = some o ∧ o.dst = some d
theorem Writes.lt {j : Nat} {d : Tmp} (h : Writes all j d) : j < all.size := by
  obtain ⟨o, ho, _⟩ := h
  exact (Array.getElem?_eq_some_iff.1 ho).1

theorem Seen.once (h : Seen T B W cx all frs L S) {i j : Nat} {d : Tmp} (hi : Writes all i d) (hj : Writes all j d) : i = j := by
  obtain ⟨o, ho, hd⟩ := hi
  obtain ⟨o', ho', hd'⟩ := hj
  rcases Nat.lt_trichotomy i j with hlt | e | hlt
  · exact absurd hd' ((drawStatic_pair h.stat hlt ho ho').1 d hd)
  · exact e
  · exact absurd hd ((drawStatic_pair h.stat hlt ho' ho).1 d hd')

theorem putT_other {t : Tm} {dst : Option Tmp} {v : AV} {d : Tmp} (h : dst ≠ some d) : (putT t dst v).get d = t.get d := by
  cases dst with
  | none => rfl
  | some x =>
    show (t.put x v).get d = _
    rw [Tm.get_put, if_neg]
    intro e
    exact h (by rw [e])
theorem putT_same {t : Tm} {dst : Option Tmp} {v : AV} {d : Tmp} (h : dst = some d) : (putT t dst v).get d = some v := by
  subst h
  show (t.put d v).get d = _
  rw [Tm.get_put, if_pos rfl]

theorem Seen.unwritten (h : Seen T B W cx all frs L S) {a : Nat} {d : Tmp} : ∀ n, a + n ≤ all.size → (∀ k, a ≤ k → k < a + n → ¬ Writes all k d) → (frs (a + n)).tmps.get d = (frs a).tmps.get d
  | 0, _, _ => rfl
  | n + 1, hle, hn => by
    have hlt : a + n < all.size := by omega
    obtain ⟨v, _, ht, _⟩ := h.step (a + n) all[a + n] (Array.getElem?_eq_getElem hlt)
    rw [show a + (n + 1) = a + n + 1 by omega, ht, putT_other, h.unwritten n (by omega) fun k h1 h2 => hn k h1 (by omega)]
    intro hd
    exact hn (a + n) (by omega) (by omega) ⟨_, Array.getElem?_eq_getElem hlt, hd⟩
theorem Seen.unwritten' (h : Seen T B W cx all frs L S) {a b : Nat} {d : Tmp} (hab : a ≤ b) (hb : b ≤ all.size) (hn : ∀ k, a ≤ k → k < b → ¬ Writes all k d) : (frs b).tmps.get d = (frs a).tmps.get d := by
  have := h.unwritten (a := a) (b - a) (by omega) (d := d) (fun k h1 h2 => hn k h1 (by omega))
  rwa [show a + (b - a) = b by omega] at this

/-- in the text's order -/
theorem Seen.canon (h : Seen T B W cx all frs L S) {i : Nat} (hi : i ≤ all.size) (d : Tmp) :
    ((∃ j, j < i ∧ Writes all j d) → (frs i).tmps.get d = (frs all.size).tmps.get d) ∧ ((¬ ∃ j, j < i ∧ Writes all j d) → (frs i).tmps.get d = (frs 0).tmps.get d) := by
  constructor
  · rintro ⟨j, hj, hw⟩
    refine (h.unwritten' hi (Nat.le_refl _) fun k h1 h2 hk => ?_).symm
    have := h.once hw hk
    omega
  · intro hn
    exact h.unwritten' (Nat.zero_le _) hi fun k _ h2 hk => hn ⟨k, h2, hk⟩

/-- where a run in some order stands -/
structure Stand (all : Array Oper) (frs : Nat → Fr) (S : List (Nat × St × St)) (listed : Array Bool) (fr2 : Fr) : Prop where
  size : listed.size = all.size
  closed : Closed all listed
  on : ∀ d, (∃ j, listed.getD j false = true ∧ Writes all j d) → fr2.tmps.get d = (frs all.size).tmps.get d
  off : ∀ d, (¬ ∃ j, listed.getD j false = true ∧ Writes all j d) → fr2.tmps.get d = (frs 0).tmps.get d
  hard : ∃ q, q ≤ all.size ∧ SameHard (frs q) fr2 ∧ ∀ j, j < all.size → HardAt frs S j → (listed.getD j false = true ↔ j < q)

theorem getD_false {listed : Array Bool} {i : Nat} (hi : i < listed.size) (h : listed.getD i true = false) : listed.getD i false = false := by
  simp [Array.getD, hi] at h ⊢
  exact h

theorem listed_set {listed : Array Bool} {i : Nat} (hi : i < listed.size) (j : Nat) : (listed.setIfInBounds i true).getD j false = true ↔ (listed.getD j false = true ∨ j = i) := by
  by_cases e : i = j
  · subst e
    simp [hi]
  · rw [getD_set_ne false e]
    constructor
    · exact .inl
    · rintro (h | h)
      · exact h
      · exact absurd h.symm e

section
variable (h : Seen T B W cx all frs L S) {listed : Array Bool} {fr2 : Fr} (hst : Stand all frs S listed fr2) {i : Nat} {o : Oper} (ho : all[i]? = some o)
    (hu : listed.getD i true = false) (he : ∀ e ∈ o.after.toList, Region.binds .any e = true → listed.getD e.on false = true)
include h hst ho hu he

theorem Seen.unl : listed.getD i false = false := getD_false (by rw [hst.size]; exact (Array.getElem?_eq_some_iff.1 ho).1) hu
theorem Seen.bef {j : Nat} (hb : Nat.testBit ((Region.before all).getD i 0) j = true) : listed.getD j false = true :=
  before_listed (drawStatic_fwd h.stat) hst.closed i i o (Nat.le_refl _) ho he hb
theorem Seen.aft {j : Nat} (hb : Nat.testBit ((Region.before all).getD j 0) i = true) : listed.getD j false = false := by
  cases hl : listed.getD j false with
  | false => rfl
  | true =>
    obtain ⟨o', ho', _⟩ := before_bit hb
    have := before_closed (drawStatic_fwd h.stat) hst.closed ho' hl hb
    rw [h.unl hst ho hu he] at this
    cases this

theorem Seen.agree : Agree all o (frs i).tmps fr2.tmps := by
  intro d hd
  have hlt : i < all.size := (Array.getElem?_eq_some_iff.1 ho).1
  have key : ∀ j, Writes all j d → (listed.getD j false = true ↔ j < i) := by
    rintro j ⟨x, hx, hxd⟩
    rcases Nat.lt_trichotomy j i with hji | e | hij
    · rcases (drawStatic_pair h.stat hji hx ho).2 with hb | ⟨h1, _⟩
      · exact ⟨fun _ => hji, fun _ => h.bef hst ho hu he hb⟩
      · rw [h1 d hxd] at hd; cases hd
    · subst e
      rw [h.unl hst ho hu he]
      exact ⟨fun h => (nomatch h), fun h => by omega⟩
    · rcases (drawStatic_pair h.stat hij ho hx).2 with hb | ⟨_, h2⟩
      · rw [h.aft hst ho hu he hb]
        exact ⟨fun h => (nomatch h), fun h => by omega⟩
      · rw [h2 d hxd] at hd; cases hd
  obtain ⟨c1, c2⟩ := h.canon (Nat.le_of_lt hlt) d
  by_cases hex : ∃ j, j < i ∧ Writes all j d
  · obtain ⟨j, hj, hw⟩ := hex
    rw [c1 ⟨j, hj, hw⟩, hst.on d ⟨j, (key j hw).2 hj, hw⟩]
  · rw [c2 hex, hst.off d]
    rintro ⟨j, hl, hw⟩
    exact hex ⟨j, (key j hw).1 hl, hw⟩

/-- a load reads what it reads in the text's order -/
theorem Seen.loads {ty : TypeId} {a v : AV} (hm : (⟨i, ty, a, v⟩ : Ld) ∈ L) (hld : loadA T (frs i).st ty a = .ok v) : loadA T fr2.st ty a = .ok v := by
  have hlt : i < all.size := (Array.getElem?_eq_some_iff.1 ho).1
  obtain ⟨q, hq, hs, hh⟩ := hst.hard
  rw [← hs.1]
  rcases Nat.le_total q i with hqi | hiq
  · rcases least (p := HardAt frs S) (a := q) (i - q) with hn | ⟨k, h1, h2, h3, h4⟩
    · rw [(h.softs' hqi (Nat.le_of_lt hlt) fun k h1 h2 => hn k h1 (by omega)).1]
      exact hld
    · have hk : listed.getD k false ≠ true := fun e => by have := (hh k (by omega) h3).1 e; omega
      rw [(h.softs' h1 (by omega) h4).1]
      rcases stable_spec h.stab _ hm _ h3 with hb | hb | hb
      · have := before_lt (drawStatic_fwd h.stat) _ _ (Nat.le_refl _) hb
        simp only at this
        omega
      · exact absurd (h.bef hst ho hu he hb) hk
      · exact sameAt_spec hb.1
  · rcases greatest (p := HardAt frs S) (a := i) (q - i) with hn | ⟨k, h1, h2, h3, h4⟩
    · rw [← (h.softs' hiq hq fun k h1 h2 => hn k h1 (by omega)).1]
      exact hld
    · have hk : listed.getD k false = true := (hh k (by omega) h3).2 (by omega)
      rw [← (h.softs' (a := k + 1) (b := q) (by omega) hq fun j hj1 hj2 => h4 j (by omega) (by omega)).1]
      rcases stable_spec h.stab _ hm _ h3 with hb | hb | hb
      · rw [h.aft hst ho hu he hb] at hk; cases hk
      · have := before_lt (drawStatic_fwd h.stat) _ _ (Nat.le_refl _) hb
        simp only at this
        omega
      · exact sameAt_spec hb.2

/-- a hard operation meets the memory that it meets in the text's order -/
theorem Seen.meets (hi : HardAt frs S i) : SameHard (frs i) fr2 ∧ ∀ j, j < all.size → HardAt frs S j → ((listed.setIfInBounds i true).getD j false = true ↔ j < i + 1) := by
  have hlt : i < all.size := (Array.getElem?_eq_some_iff.1 ho).1
  have key : ∀ j, j < all.size → HardAt frs S j → (listed.getD j false = true ↔ j < i) := by
    intro j hj hja
    rcases chainOK_spec h.chain _ hi _ hja with e | hb | hb
    · simp only at e
      subst e
      rw [h.unl hst ho hu he]
      exact ⟨fun h => (nomatch h), fun h => by omega⟩
    · have := before_lt (drawStatic_fwd h.stat) _ _ (Nat.le_refl _) hb
      exact ⟨fun _ => this, fun _ => h.bef hst ho hu he hb⟩
    · have := before_lt (drawStatic_fwd h.stat) _ _ (Nat.le_refl _) hb
      simp only at this
      rw [h.aft hst ho hu he hb]
      exact ⟨fun h => (nomatch h), fun h => by omega⟩
  obtain ⟨q, hq, hs, hh⟩ := hst.hard
  constructor
  · have hqi : q ≤ i := by
      rcases Nat.lt_or_ge i q with h' | h'
      · have := (hh i hlt hi).2 h'
        rw [h.unl hst ho hu he] at this
        cases this
      · exact h'
    refine (h.softs' hqi (Nat.le_of_lt hlt) fun k h1 h2 hk => ?_).symm.trans hs
    have := (hh k (by omega) hk).1 ((key k (by omega) hk).2 h2)
    omega
  · intro j hj hja
    rw [listed_set (by rw [hst.size]; exact hlt), key j hj hja]
    omega

theorem Seen.closed' : Closed all (listed.setIfInBounds i true) := by
  have hlt : i < all.size := (Array.getElem?_eq_some_iff.1 ho).1
  intro j o' ho' hl e hem hb
  rw [listed_set (by rw [hst.size]; exact hlt)] at hl ⊢
  rcases hl with hl | hl
  · exact .inl (hst.closed j o' ho' hl e hem hb)
  · subst hl
    rw [ho] at ho'
    cases ho'
    exact .inl (he e hem hb)

/-- what stands behind the operation -/
theorem Seen.next {v : AV} (ht : (frs (i + 1)).tmps = putT (frs i).tmps o.dst v) {fr3 : Fr} (ht3 : fr3.tmps = putT fr2.tmps o.dst v)
    (hsoft : ¬ HardAt frs S i → SameHard fr2 fr3) (hhard : HardAt frs S i → SameHard (frs (i + 1)) fr3) : Stand all frs S (listed.setIfInBounds i true) fr3 := by
  have hlt : i < all.size := (Array.getElem?_eq_some_iff.1 ho).1
  have hls := fun j => listed_set (listed := listed) (i := i) (by rw [hst.size]; exact hlt) j
  refine ⟨by simpa using hst.size, h.closed' hst ho hu he, ?_, ?_, ?_⟩
  · rintro d ⟨j, hl, hw⟩
    by_cases hd : o.dst = some d
    · have hwi : Writes all i d := ⟨o, ho, hd⟩
      rw [ht3, putT_same hd]
      have := h.unwritten' (a := i + 1) (b := all.size) (by omega) (Nat.le_refl _) (d := d) (fun k h1 h2 hk => by have := h.once hwi hk; omega)
      rw [this, ht, putT_same hd]
    · rw [ht3, putT_other hd]
      refine hst.on d ⟨j, ?_, hw⟩
      rcases (hls j).1 hl with h' | h'
      · exact h'
      · subst h'
        obtain ⟨o', ho', hd'⟩ := hw
        rw [ho] at ho'
        cases ho'
        exact absurd hd' hd
  · intro d hn
    have hd : o.dst ≠ some d := fun hd => hn ⟨i, (hls i).2 (.inr rfl), o, ho, hd⟩
    rw [ht3, putT_other hd]
    exact hst.off d fun ⟨j, hl, hw⟩ => hn ⟨j, (hls j).2 (.inl hl), hw⟩
  · by_cases hi : HardAt frs S i
    · exact ⟨i + 1, hlt, hhard hi, (h.meets hst ho hu he hi).2⟩
    · obtain ⟨q, hq, hs, hh⟩ := hst.hard
      refine ⟨q, hq, hs.trans (hsoft hi), fun j hj hja => ?_⟩
      rw [hls j, ← hh j hj hja]
      constructor
      · rintro (h' | h')
        · exact h'
        · subst h'; exact absurd hja hi
      · exact .inl

/-- the operation, met now -/
theorem Seen.take (hT : TabOK T) : ∃ fr3, OpGo T T.ng B W all i cx fr2 fr3 ∧ Stand all frs S (listed.setIfInBounds i true) fr3 := by
  have hag := h.agree hst ho hu he
  obtain ⟨v, hd, ht, hcase⟩ := h.step i o ho
  have soft : SameHard (frs i) (frs (i + 1)) → Stand all frs S (listed.setIfInBounds i true) (fr2.upd (putT fr2.tmps o.dst v)) := fun hs =>
    h.next hst ho hu he ht rfl (fun _ => ⟨rfl, rfl, rfl⟩) fun hi => hs.symm.trans ((h.meets hst ho hu he hi).1.trans ⟨rfl, rfl, rfl⟩)
  rcases hcase with ⟨hw, rfl, hs⟩ | ⟨hw, hp, hop, hs⟩ | ⟨hw, ⟨ty, a, a', hl, ha, hld, hm⟩, hs⟩ | ⟨hi, hgo⟩
  · exact ⟨_, unwanted_go ho hd (by rw [← agree_wanted hag]; exact hw), soft hs⟩
  · refine ⟨_, value_go hT ho hd (by rw [← agree_wanted hag]; exact hw) (v := v) ?_, soft hs⟩
    obtain ⟨pv, e, hall⟩ := pure_op hp (frs i).tmps _ _ hop
    cases e
    rw [← opA_congr fun d hd => agree_ops hag d hd]
    exact hall fr2.st
  · refine ⟨_, value_go hT ho hd (by rw [← agree_wanted hag]; exact hw) (v := v) ?_, soft hs⟩
    have ha2 : evA T fr2.tmps a = .ok a' := by
      rw [← ha]
      refine (evA_congr fun d hd => agree_ops hag d ?_).symm
      rw [hl, hd]
      simp [Op.operands]
    unfold opA
    simp only [hl, ha2, R.bind, h.loads hst ho hu he hm hld]
  · have hmt := (h.meets hst ho hu he hi).1
    exact ⟨_, hgo fr2 hmt hag, h.next hst ho hu he ht rfl (fun hn => absurd hi hn) fun _ => ⟨rfl, rfl, rfl⟩⟩
end

/-- whatever order is picked, the region comes to the same -/
theorem Seen.any (hT : TabOK T) (h : Seen T B W cx all frs L S) : ∀ (idx : List Nat) (listed : Array Bool) (fr2 : Fr), Sched all listed idx → Stand all frs S listed fr2 →
    ∀ φ E tmps ds w k, SR T.ng B W φ fr2.st w → FR φ cx fr2 E tmps ds →
      ∃ φ' tmps' ds' w', φ.le φ' ∧ SR T.ng B W φ' (frs all.size).st w' ∧ FR φ' cx (frs all.size) E tmps' ds' ∧
        Steps T.P (mac E tmps (.inRegion all idx :: k) ds fr2.recd w) (mac E tmps' k ds' (frs all.size).recd w') := by
  intro idx
  induction idx with
  | nil =>
    intro listed fr2 hsc hst φ E tmps ds w k hs hf
    have hsame : SameHard (frs all.size) fr2 := by
      obtain ⟨q, hq, hs, hh⟩ := hst.hard
      refine (h.softs' hq (Nat.le_refl _) fun k h1 h2 hk => ?_).symm.trans hs
      have := (hh k h2 hk).1 (hsc k h2)
      omega
    have htm : ∀ d, fr2.tmps.get d = (frs all.size).tmps.get d := by
      intro d
      by_cases hex : ∃ j, listed.getD j false = true ∧ Writes all j d
      · exact hst.on d hex
      · rw [hst.off d hex]
        exact (h.unwritten' (Nat.zero_le _) (Nat.le_refl _) fun k _ h2 hk => hex ⟨k, hsc k h2, hk⟩).symm
    refine ⟨φ, tmps, ds, w, Phi.le_refl φ, by rw [hsame.1]; exact hs, ⟨fun i => ?_, hf.sz, by rw [hsame.2.1]; exact hf.dr, hf.env⟩, ?_⟩
    · rw [← htm i]; exact hf.tr i
    · rw [hsame.2.2]
      exact Steps.one (st_region_end hf.env.mode rfl)
  | cons i idx ih =>
    intro listed fr2 hsc hst φ E tmps ds w k hs hf
    obtain ⟨hu, ⟨o, ho, he⟩, hrest⟩ := hsc
    obtain ⟨fr3, hgo, hst3⟩ := h.take hst ho hu he hT
    obtain ⟨φ1, tmps1, ds1, w1, hle1, hs1, hf1, hsteps1⟩ := hgo φ E tmps ds w idx k hs hf
    obtain ⟨φ2, tmps2, ds2, w2, hle2, hs2, hf2, hsteps2⟩ := ih _ fr3 hrest hst3 φ1 E tmps1 ds1 w1 k hs1 hf1
    exact ⟨φ2, tmps2, ds2, w2, Phi.le_trans hle1 hle2, hs2, hf2, hsteps1.trans hsteps2⟩

theorem Stand.start (frs : Nat → Fr) (S : List (Nat × St × St)) : Stand all frs S (Array.replicate all.size false) (frs 0) := by
  have hn : ∀ j, (Array.replicate all.size false).getD j false = false := by
    intro j
    simp only [Array.getD_eq_getD_getElem?, Array.getElem?_replicate]
    split <;> rfl
  refine ⟨by simp, ?_, ?_, fun d _ => rfl, ⟨0, Nat.zero_le _, same_refl _, fun j _ _ => ?_⟩⟩
  · intro j o _ hl
    rw [hn j] at hl
    cases hl
  · rintro d ⟨j, hl, _⟩
    rw [hn j] at hl
    cases hl
  · rw [hn j]
    exact ⟨fun h => (nomatch h), fun h => by omega⟩
end
end
end Go.Ex
namespace Go.Ex
open Go Go.RowKit

section
variable {T : Tab} {B : Nat} {W : World}

theorem FR.st {φ : Phi} {cx : Cx} {fr : Fr} {E : Env} {tmps : Array Value} {ds : List Deferred} (h : FR φ cx fr E tmps ds) (st : St) : FR φ cx { fr with st := st } E tmps ds := ⟨h.tr, h.sz, h.dr, h.env⟩

/-- behind a piece of code that went on -/
theorem CodeRes.seq {φ : Phi} {cx : Cx} {E : Env} {m : Machine} {k k' : List Item} {fr' : Fr} {r : Res} (h : CodeRes T T.ng B W φ cx E m k (.ext .normal fr'))
    (hn : ∀ φ' tmps' ds' w', SR T.ng B W φ' fr'.st w' → FR φ' cx fr' E tmps' ds' → CodeRes T T.ng B W φ' cx E (mac E tmps' k ds' fr'.recd w') k' r) : CodeRes T T.ng B W φ cx E m k' r := by
  obtain ⟨φ', tmps', ds', w', h1, h2, h3, h4⟩ := h
  exact (hn φ' tmps' ds' w' h2 h3).of_steps h1 h4

/-- code that did not go on passes items that it does not meet -/
theorem CodeRes.pass {φ : Phi} {cx : Cx} {E : Env} {m : Machine} {k : List Item} {x : Item} {e : Ext} {fr' : Fr} (hx : x.plain = true) (he : e ≠ .normal) (h : CodeRes T T.ng B W φ cx E m (x :: k) (.ext e fr')) : CodeRes T T.ng B W φ cx E m k (.ext e fr') := by
  obtain ⟨φ', tmps', ds', w', h1, h2, h3, h4⟩ := h
  exact ⟨φ', tmps', ds', w', h1, h2, h3, h4.pass hx he⟩

theorem code_res {φ : Phi} {cx : Cx} {E : Env} {m : Machine} {k : List Item} {r : Res} (h : CodeRes T T.ng B W φ cx E m k r) : ∃ e fr', r = .ext e fr' := by
  cases r with
  | ext e fr' => exact ⟨e, fr', rfl⟩
  | ret => exact h.elim
  | pan => exact h.elim

section
variable {rec : Task → R Res} (hrec : Sound T B W rec) {cx : Cx} {fr : Fr} {r : Res}
include hrec

theorem doSeq_ok {a b : Code} (h : doSeq rec cx a b fr = .ok r) : TaskOK T T.ng B W (.code cx (.seq a b) fr) r := by
  intro φ E tmps ds w k hs hf
  refine CodeRes.start (Steps.one (st_seq hf.env.mode rfl)) ?_
  show CodeRes T T.ng B W φ cx E (mac E tmps (.code a :: .code b :: k) ds fr.recd w) k r
  unfold doSeq at h
  cases ha : rec (.code cx a fr) with
  | err e => rw [ha] at h; cases h
  | ok ra =>
    have h1 := hrec _ _ ha φ E tmps ds w (.code b :: k) hs hf
    rw [ha] at h
    obtain ⟨e, fr', rfl⟩ := code_res h1
    cases e with
    | normal =>
      simp only at h
      exact h1.seq fun φ' tmps' ds' w' hs' hf' => hrec _ _ h φ' E tmps' ds' w' k hs' hf'
    | exit id => cases h; exact h1.pass rfl (by intro h; cases h)
    | goto l => cases h; exact h1.pass rfl (by intro h; cases h)
    | ret => cases h; exact h1.pass rfl (by intro h; cases h)
    | panic v => cases h; exact h1.pass rfl (by intro h; cases h)

theorem doCond_ok {c : Operand} {a b : Code} (h : doCond T rec cx c a b fr = .ok r) : TaskOK T T.ng B W (.code cx (.cond c a b) fr) r := by
  intro φ E tmps ds w k hs hf
  unfold doCond at h
  split at h
  · rename_i hc
    have hv := hf.ev hs (ds' := ds) (.code (.cond c a b) :: k) c _ hc
    exact CodeRes.start (Steps.one (st_cond (t := true) (fr := atF E tmps (.code (.cond c a b) :: k) ds) hf.env.mode rfl hv)) (hrec _ _ h φ E tmps ds w k hs hf)
  · rename_i hc
    have hv := hf.ev hs (ds' := ds) (.code (.cond c a b) :: k) c _ hc
    exact CodeRes.start (Steps.one (st_cond (t := false) (fr := atF E tmps (.code (.cond c a b) :: k) ds) hf.env.mode rfl hv)) (hrec _ _ h φ E tmps ds w k hs hf)
  · cases h
  · cases h

theorem doBlock_ok {id : Nat} {c : Code} (h : doBlock rec cx id c fr = .ok r) : TaskOK T T.ng B W (.code cx (.block id c) fr) r := by
  intro φ E tmps ds w k hs hf
  refine CodeRes.start (Steps.one (st_block hf.env.mode rfl)) ?_
  show CodeRes T T.ng B W φ cx E (mac E tmps (.code c :: .inBlock id :: k) ds fr.recd w) k r
  unfold doBlock at h
  cases ha : rec (.code cx c fr) with
  | err e => rw [ha] at h; cases h
  | ok ra =>
    have h1 := hrec _ _ ha φ E tmps ds w (.inBlock id :: k) hs hf
    rw [ha] at h
    obtain ⟨e, fr', rfl⟩ := code_res h1
    obtain ⟨φ', tmps', ds', w', q1, q2, q3, q4⟩ := h1
    cases e with
    | normal => cases h; exact ⟨φ', tmps', ds', w', q1, q2, q3, q4.trans (Steps.one (st_inBlock q3.env.mode rfl))⟩
    | exit id' =>
      simp only at h
      obtain ⟨k2, p1, p2⟩ := q4
      cases hb : Nat.beq id' id with
      | true =>
        rw [hb] at h
        cases h
        have e := Nat.eq_of_beq_eq_true hb
        subst e
        refine ⟨φ', tmps', ds', w', q1, q2, q3, p1.trans (Steps.one (st_exit q3.env.mode rfl (k' := k) ?_))⟩
        rw [p2]
        simp [exitTo]
      | false =>
        rw [hb] at h
        cases h
        have e : id' ≠ id := fun e => by subst e; simp at hb
        refine ⟨φ', tmps', ds', w', q1, q2, q3, k2, p1, ?_⟩
        rw [p2]
        simp only [exitTo]; rw [if_neg (by simpa using fun x => e (Eq.symm x))]
    | goto l => cases h; exact ⟨φ', tmps', ds', w', q1, q2, q3, by obtain ⟨k2, p1, p2⟩ := q4; exact ⟨k2, p1, by rw [p2]; simp [gotoIn]⟩⟩
    | ret => cases h; exact ⟨φ', tmps', ds', w', q1, q2, q3, q4⟩
    | panic v => cases h; exact ⟨φ', tmps', ds', w', q1, q2, q3, q4⟩

theorem loop_body {c : Code} (h : doLoop rec cx c fr = .ok r) {φ : Phi} {E : Env} {tmps : Array Value} {ds : List Deferred} {w : World} (k : List Item) (hs : SR T.ng B W φ fr.st w) (hf : FR φ cx fr E tmps ds) :
    CodeRes T T.ng B W φ cx E (mac E tmps (.code c :: .inLoop c :: k) ds fr.recd w) k r := by
  unfold doLoop at h
  cases ha : rec (.code cx c fr) with
  | err e => rw [ha] at h; cases h
  | ok ra =>
    have h1 := hrec _ _ ha φ E tmps ds w (.inLoop c :: k) hs hf
    rw [ha] at h
    obtain ⟨e, fr', rfl⟩ := code_res h1
    cases e with
    | normal =>
      simp only at h
      exact h1.seq fun φ' tmps' ds' w' hs' hf' => hrec _ _ h φ' E tmps' ds' w' k hs' hf'
    | exit id => cases h; exact h1.pass rfl (by intro h; cases h)
    | goto l => cases h; exact h1.pass rfl (by intro h; cases h)
    | ret => cases h; exact h1.pass rfl (by intro h; cases h)
    | panic v => cases h; exact h1.pass rfl (by intro h; cases h)
theorem doLoop_ok {c : Code} (h : doLoop rec cx c fr = .ok r) : TaskOK T T.ng B W (.code cx (.loop c) fr) r := by
  intro φ E tmps ds w k hs hf
  exact CodeRes.start (Steps.one (st_loop hf.env.mode rfl)) (loop_body hrec h k hs hf)
theorem doAgain_ok {c : Code} (h : doLoop rec cx c fr = .ok r) : TaskOK T T.ng B W (.again cx c fr) r := by
  intro φ E tmps ds w k hs hf
  exact CodeRes.start (Steps.one (st_inLoop hf.env.mode rfl)) (loop_body hrec h k hs hf)

theorem doScope_ok {body c : Code} (h : doScope rec cx body c fr = .ok r) : TaskOK T T.ng B W (.scope cx body c fr) r := by
  intro φ E tmps ds w k hs hf
  unfold doScope at h
  cases ha : rec (.code cx c fr) with
  | err e => rw [ha] at h; cases h
  | ok ra =>
    have h1 := hrec _ _ ha φ E tmps ds w (.inScope body :: k) hs hf
    rw [ha] at h
    obtain ⟨e, fr', rfl⟩ := code_res h1
    obtain ⟨φ', tmps', ds', w', q1, q2, q3, q4⟩ := h1
    cases e with
    | normal => cases h; exact ⟨φ', tmps', ds', w', q1, q2, q3, q4.trans (Steps.one (st_inScope q3.env.mode rfl))⟩
    | exit id => cases h; exact ⟨φ', tmps', ds', w', q1, q2, q3, by obtain ⟨k2, p1, p2⟩ := q4; exact ⟨k2, p1, by rw [p2]; simp [exitTo]⟩⟩
    | goto l =>
      simp only at h
      obtain ⟨k2, p1, p2⟩ := q4
      cases hl : findLabel body l with
      | none =>
        rw [hl] at h
        cases h
        exact ⟨φ', tmps', ds', w', q1, q2, q3, k2, p1, by rw [p2]; simp [gotoIn, hl]⟩
      | some rest =>
        rw [hl] at h
        simp only at h
        have h2 := st_goto (P := T.P) (fr := atF E tmps' (.code (.goto l) :: k2) ds') (cs := E.cs fr'.recd) (w := w') (k' := .code rest :: .inScope body :: k) q3.env.mode rfl (by rw [p2]; simp [gotoIn, hl])
        exact (hrec _ _ h φ' E tmps' ds' w' k q2 q3).of_steps q1 (p1.trans (Steps.one h2))
    | ret => cases h; exact ⟨φ', tmps', ds', w', q1, q2, q3, q4⟩
    | panic v => cases h; exact ⟨φ', tmps', ds', w', q1, q2, q3, q4⟩

omit hrec in
theorem range_ops (ops : Array Oper) : (List.range ops.size).map (fun i => ops[i]?) = ops.toList.map some := by
  apply List.ext_getElem?
  intro i
  simp only [List.getElem?_map, List.getElem?_range]
  rcases Nat.lt_or_ge i ops.size with h | h
  · simp [h]
  · simp [Nat.not_lt.2 h]

theorem doRegion_ok (hT : TabOK T) {id : Nat} {ops : Array Oper} {draw : Bool} (h : doRegion rec cx ops draw fr = .ok r) : TaskOK T T.ng B W (.code cx (.region id ops draw) fr) r := by
  intro φ E tmps ds w k hs hf
  cases draw with
  | false => exact CodeRes.start (Steps.one (st_region hf.env.mode rfl)) (hrec _ _ h φ E tmps ds w k _ (range_ops ops) hs hf)
  | true =>
    simp only [doRegion] at h
    cases hst : drawStatic ops with
    | false => rw [hst] at h; cases h
    | true =>
      rw [hst] at h
      simp only [cond_true] at h
      cases hd : rec (.draw cx ops 0 ops.toList fr [] []) with
      | err e => rw [hd] at h; cases h
      | ok rd =>
        rw [hd] at h
        have hdr := hrec _ _ hd (fun k o hk => by simpa using hk)
        cases rd with
        | ret => cases h
        | pan => cases h
        | ext e fr' =>
          cases e with
          | normal =>
            cases h
            obtain ⟨frs, L, S, f0, fE, _, _, hc, hsb, hstep⟩ := hdr fr' rfl
            have seen : Seen T B W cx ops frs L S := ⟨hst, hc, hsb, fun k o hk => by
              have := hstep k o (by simpa using hk)
              simpa only [Nat.zero_add] using this⟩
            have hlen : frs ops.size = fr' := by rw [← fE]; simp
            obtain ⟨φ', tmps', ds', w', h1, h2, h3, h4⟩ := seen.any hT _ _ (frs 0) (sched_schedule (drawStatic_fwd hst) hT.mixed (w.tape w.drawn (.order E.F.fn id))) (Stand.start frs S)
              φ E tmps ds { w with drawn := w.drawn + 1 } k (by rw [f0]; exact hs.drew) (by rw [f0]; exact hf)
            rw [hlen] at h2 h3 h4
            rw [f0] at h4
            exact ⟨φ', tmps', ds', w', h1, h2, h3, (Steps.one (st_draw (P := T.P) (fr := atF E tmps (.code (.region id ops true) :: k) ds) (cs := E.cs fr.recd) (w := w) (k := k) (id := id) (ops := ops) hf.env.mode rfl)).trans h4⟩
          | exit id => cases h
          | goto l => cases h
          | ret => cases h
          | panic v => cases h
end
end
end Go.Ex
namespace Go.Ex
open Go Go.RowKit

section
variable {T : Tab} {B : Nat} {W : World}

theorem st_rangeFunc {P : Program} {fr : Frame} {cs : List Frame} {w : World} {k : List Item} {f : Operand} {ps : Array Tmp} {a b : Code} {g : FuncId} {args : Array Value} (hm : fr.mode = .run) (hr : fr.roundOf = none)
    (ht : fr.todo = .code (.rangeFunc f ps a b) :: k) {w2 : World} (hw2 : w2 = (w.alloc (.deferred (some []))).alloc (.loop { state := .ready, pending := none, fn := fr.fn, tmps := fr.tmps, params := ps, assign := a, body := b, defers := w.heap.size }))
    (hinv : (do let d ← Deferred.ofValue (fr.eval f) ⟨[.func (.yield (w.heap.size + 1)) ⟨[]⟩ ⟨[]⟩]⟩; invoke d.target d.args : Sem Next).run P w2 = .ok (.enter g args) w2) :
    step P (lone fr cs w) = .next (lone (Frame.enter P g args .normal) ({ fr with todo := .inRangeFunc (w.heap.size + 1) :: k, defers := { target := .collected w.heap.size, args := #[] } :: fr.defers } :: cs) w2) := by
  obtain ⟨fn, tmps, todo, defers, mode, kind, roundOf⟩ := fr
  simp only at hm hr ht
  subst hm hr ht
  refine step_lone_go ?_
  have he := run_enterLoop_outer (P := P) (w := w) fn tmps ps a b
  simp only at hw2
  rw [← hw2] at he
  have hres : ∀ fr' : Frame, fr'.tmps = tmps → (do let d ← resolve fr'.eval { callee := .value f, args := #[.const (.func (.yield (w.heap.size + 1)) #[] #[])], argTypes := #[] } 0; invoke d.target d.args : Sem Next) =
      (do let d ← Deferred.ofValue (({ fn, tmps, todo := .code (.rangeFunc f ps a b) :: k, defers, mode := .run, kind, roundOf := none } : Frame).eval f) ⟨[.func (.yield (w.heap.size + 1)) ⟨[]⟩ ⟨[]⟩]⟩; invoke d.target d.args) := by
    intro fr' e
    have hev : fr'.eval = ({ fn, tmps, todo := .code (.rangeFunc f ps a b) :: k, defers, mode := .run, kind, roundOf := none } : Frame).eval := by
      funext x
      cases x <;> simp [Frame.eval, e]
    rw [hev]
    simp only [resolve]
    congr 2
    apply Array.ext'
    simp [Frame.eval]
  simp only [stepG, stepG.exec, Sem.runT_eq, he, GStep.bare_after, stepG.apply, hres, hinv]
  simp

theorem doRangeFunc_ok (hT : TabOK T) {rec : Task → R Res} (hrec : Sound T B W rec) {cx : Cx} {fr : Fr} {r : Res} {f : Operand} {ps : Array Tmp} {a b : Code}
    (h : doRangeFunc T rec cx f ps a b fr = .ok r) : TaskOK T T.ng B W (.code cx (.rangeFunc f ps a b) fr) r := by
  intro φ E tmps ds w k hs hf
  unfold doRangeFunc at h
  obtain ⟨fa, hfa, h⟩ := R.bind_ok h
  have hfv := hf.ev hs (ds' := ds) (.code (.rangeFunc f ps a b) :: k) f _ hfa
  cases hcr : cx.round with
  | some l => rw [hcr] at h; cases h
  | none =>
    rw [hcr] at h
    simp only [forceS_eq] at h
    have hr0 : E.F.roundOf = none := by have := hf.env.round; rw [hcr] at this; exact this
    -- the two blocks
    obtain ⟨le1, s1⟩ := newObj_ok hs (.deferred false) (.deferred (some [])) 0 (fun ψ _ => heap_alloc_new w _)
    let L0 : Loop := { state := .ready, pending := none, fn := E.F.fn, tmps := tmps, params := ps, assign := a, body := b, defers := w.heap.size }
    have hsz1 : (w.alloc (.deferred (some []))).heap.size = w.heap.size + 1 := by simp
    obtain ⟨le2, s2⟩ := newObj_ok s1 (.loop { nt := cx.nt, state := .ready, pending := none, fn := cx.fn, tmps := fr.tmps, params := ps.toList, assign := a, body := b }) (.loop L0) 0
      (fun ψ hψ => ⟨L0, heap_alloc_new _ _, ⟨rfl, rfl, hf.env.fn, rfl, rfl, rfl, (hf.tr.mono le1).mono hψ, hf.sz⟩⟩)
    have leA := Phi.le_trans le1 le2
    -- the call
    have hL2 : (Phi.put (Phi.put φ fr.st.next ⟨w.heap.size, 0, 0⟩) (fr.st.next + 1) ⟨(w.alloc (.deferred (some []))).heap.size, 0, 0⟩) (fr.st.next + 1) = some ⟨w.heap.size + 1, 0, 0⟩ := by
      rw [Phi.put_same, hsz1]
    have hD2 : (Phi.put (Phi.put φ fr.st.next ⟨w.heap.size, 0, 0⟩) (fr.st.next + 1) ⟨(w.alloc (.deferred (some []))).heap.size, 0, 0⟩) fr.st.next = some ⟨w.heap.size, 0, 0⟩ := by
      rw [Phi.put_other _ _ (by omega), Phi.put_same]
    generalize hφ2 : Phi.put (Phi.put φ fr.st.next ⟨w.heap.size, 0, 0⟩) (fr.st.next + 1) ⟨(w.alloc (.deferred (some []))).heap.size, 0, 0⟩ = φ2 at *
    split at h
    · rename_i g args st3 hcv
      have hnext := callV_ok hT s2 (hfv.mono leA) (args := [.yieldF (fr.st.next + 1)]) (vs := [.func (.yield (w.heap.size + 1)) ⟨[]⟩ ⟨[]⟩]) ⟨_, [], ⟨_, hL2, rfl⟩, rfl, rfl⟩ _ hcv
      obtain ⟨rfl, _, vs, hvs, hrun⟩ := hnext
      have hst := st_rangeFunc (P := T.P) (fr := atF E tmps (.code (.rangeFunc f ps a b) :: k) ds) (cs := E.cs fr.recd) (w := w) hf.env.mode hr0 rfl rfl hrun
      cases hc : rec (.call g args _ none) with
      | err e => rw [hc] at h; cases h
      | ok res =>
        rw [hc] at h
        have hcall := hrec _ _ hc
        let X : Frame := { E.F with tmps := tmps, todo := .inRangeFunc (w.heap.size + 1) :: k, defers := { target := .collected w.heap.size, args := #[] } :: ds }
        have hfX : ∀ {ψ : Phi} (_ : φ2.le ψ) (st : St), FR ψ cx { tmps := fr.tmps, st := st, defers := .collected fr.st.next :: fr.defers, recd := fr.recd } E tmps ({ target := .collected w.heap.size, args := #[] } :: ds) := by
          intro ψ hψ st
          have hle := Phi.le_trans leA hψ
          exact ⟨hf.tr.mono hle, hf.sz, ⟨_, _, ⟨_, hψ _ _ hD2, rfl⟩, hf.dr.mono hle, rfl⟩, hf.env.mono hle⟩
        cases res with
        | ext e fr' => cases h
        | pan v st4 rc =>
          cases h
          obtain ⟨φ', w', F', fn, v', hle, hs', hst', hkind, hdef, hfn, hmode, hfun, hv⟩ := hcall φ2 _ vs .normal (fun _ => X :: E.cs fr.recd) hvs s2 (recOK_normal φ2 _)
          have h2 := step_leave_panicked (P := T.P) (fr := F') (c := X) (cs := E.cs fr.recd) (w := w') (chain := [{ v := v', recovered := false }]) ⟨hmode, hdef, fn, by rw [hfn]; exact hfun⟩
          rw [raise_run X hf.env.mode] at h2
          exact ⟨φ', tmps, _, w', Phi.le_trans leA hle, hs', hfX hle st4, _, v', hv, (Steps.one hst).trans (hst'.trans (Steps.one h2))⟩
        | ret v st4 rc =>
          simp only [loopEnd] at h
          obtain ⟨φ', w', F', fn, v', hle, hs', hst', hkind, hdef, hfn, hmode, hfun, hres, hv⟩ := hcall φ2 _ vs .normal (fun _ => X :: E.cs fr.recd) hvs s2 (recOK_normal φ2 _)
          have h2 := step_leave_returned (P := T.P) (fr := F') (c := X) (cs := E.cs fr.recd) (w := w') (v := v') ⟨hmode, hdef, hkind, fn, by rw [hfn]; exact hfun, hres⟩
          have hX : X.finish v' = { E.F with tmps := tmps, todo := .endRangeFunc (w.heap.size + 1) :: k, defers := { target := .collected w.heap.size, args := #[] } :: ds } := rfl
          rw [hX] at h2
          have hto := (Steps.one hst).trans (hst'.trans (Steps.one h2))
          split at h
          · rename_i lp hg
            cases hb : Nat.blt (fr.st.next + 1) 1000 with
            | true => rw [hb] at h; cases h
            | false =>
              rw [hb] at h
              simp only [cond_false] at h
              have h1000 : 1000 ≤ fr.st.next + 1 := by have := hs.low; omega
              obtain ⟨i, hi, L, hL, hLR⟩ := hs'.heap _ _ hg
              have := hle _ _ hL2
              rw [hi] at this
              cases this
              have key : lp.state ≠ .busy → (∀ r', (match lp.pending with
                  | none => .ok (.ext .normal { tmps := fr.tmps, st := { heap := st4.heap.put (fr.st.next + 1) (.loop { lp with state := .exhausted }), next := st4.next }, defers := .collected fr.st.next :: fr.defers, recd := fr.recd })
                  | some c => rec (.code cx c { tmps := fr.tmps, st := { heap := st4.heap.put (fr.st.next + 1) (.loop { lp with state := .exhausted }), next := st4.next }, defers := .collected fr.st.next :: fr.defers, recd := fr.recd }) : R Res) = .ok r' →
                  CodeRes T T.ng B W φ cx E (mac E tmps (.code (.rangeFunc f ps a b) :: k) ds fr.recd w) k r') := by
                intro hne r' hr'
                have hne' : L.state ≠ .busy := by rw [hLR.state]; exact hne
                have hs3 := hs'.setObj h1000 hi hg (.loop { lp with state := .exhausted }) (.loop { L with state := .exhausted }) ⟨_, heap_set_same hL, ⟨rfl, hLR.pending, hLR.fn, hLR.params, hLR.assign, hLR.body, hLR.tmps, hLR.size⟩⟩
                have h3 := st_endLoop (P := T.P) (fr := { E.F with tmps := tmps, todo := .endRangeFunc (w.heap.size + 1) :: k, defers := { target := .collected w.heap.size, args := #[] } :: ds }) (cs := E.cs fr.recd) hf.env.mode rfl (run_endLoop (P := T.P) hL hne')
                have hto3 := hto.trans (Steps.one h3)
                have hfX' := hfX hle { heap := st4.heap.put (fr.st.next + 1) (.loop { lp with state := .exhausted }), next := st4.next }
                rw [hLR.pending] at hto3 hs3
                cases hp : lp.pending with
                | none =>
                  rw [hp] at hr' hto3 hs3 hfX'
                  cases hr'
                  exact ⟨φ', tmps, _, _, Phi.le_trans leA hle, hs3, hfX', hto3⟩
                | some c =>
                  rw [hp] at hr' hto3 hs3 hfX'
                  exact (hrec _ _ hr' φ' E tmps _ _ k hs3 hfX').of_steps (Phi.le_trans leA hle) hto3
              split at h
              · cases h
              · rename_i hne
                rw [forceS_eq] at h
                exact key (fun e => hne e) r h
          · cases h
    · cases h
    · cases h
end
end Go.Ex
namespace Go.Ex
open Go Go.RowKit

section
variable {T : Tab} {B : Nat} {W : World}

theorem TR.ev {φ : Phi} {t : Tm} {tmps : Array Value} (h : TR φ t tmps) {i : Tmp} {a : AV} (ha : evA T t (.tmp i) = .ok a) : VR φ a (tmps.getD i undef) := by
  have := h i
  simp only [evA] at ha
  cases hg : t.get i with
  | none => rw [hg] at ha this; cases ha; exact this
  | some v => rw [hg] at ha this; cases ha; exact this

def resOne (tmps : Array Value) : ResultVar → Sem Value
  | .tmp t => pure (tmps.getD t undef)
  | .cell a t => do loadVar t (← asAddr (tmps.getD a undef))
theorem results_eq (fn : Func) (tmps : Array Value) : results fn tmps = (fn.results.mapM (resOne tmps) >>= fun vs => pure (if h : vs.size = 1 then vs[0] else .tuple vs)) := by
  unfold results
  congr 2

theorem resultsA_ok (hT : TabOK T) {φ : Phi} {s : St} {w : World} (hs : SR T.ng B W φ s w) {t : Tm} {tmps : Array Value} (ht : TR φ t tmps) : ∀ (l : List ResultVar) (as : List AV), resultsA T s t l = .ok as →
    ∃ vs, VRs φ as vs ∧ (l.mapM (resOne tmps)).run T.P w = .ok vs w := by
  intro l
  induction l with
  | nil => intro as h; cases h; exact ⟨[], rfl, by simp⟩
  | cons r l ih =>
    intro as h
    cases r with
    | tmp i =>
      simp only [resultsA] at h
      obtain ⟨a, ha, h⟩ := R.bind_ok h
      obtain ⟨r, hr, h⟩ := R.bind_ok h
      cases h
      obtain ⟨vs, h1, h2⟩ := ih _ hr
      exact ⟨_ :: vs, ⟨_, vs, ht.ev ha, h1, rfl⟩, by simp only [List.mapM_cons, resOne, Sem.run_bind, Sem.run_pure, Result.andThen_ok, h2]⟩
    | cell i ty =>
      simp only [resultsA] at h
      obtain ⟨a, ha, h⟩ := R.bind_ok h
      obtain ⟨v, hv, h⟩ := R.bind_ok h
      obtain ⟨r, hr, h⟩ := R.bind_ok h
      cases h
      obtain ⟨vs, h1, h2⟩ := ih _ hr
      have hva := ht.ev ha
      obtain ⟨x, hx, hrun⟩ := loadA_ok hT hs hv hva
      refine ⟨x :: vs, ⟨x, vs, hx, h1, rfl⟩, ?_⟩
      cases a with
      | ptr b off =>
        obtain ⟨j, hj, e⟩ := hva
        rw [e] at hrun
        simp only [Instr.loadAt, Instr.sureAddr, Sem.run_bind, Sem.run_pure, Result.andThen_ok] at hrun
        have hone : (resOne tmps (.cell i ty)).run T.P w = .ok x w := by
          simp only [resOne, e, asAddr, Sem.run_bind, Sem.run_pure, Result.andThen_ok, hrun]
        simp only [List.mapM_cons, Sem.run_bind, Sem.run_pure, Result.andThen_ok, hone, h2]
      | _ => cases hv

theorem oneOrTuple_ok {φ : Phi} : ∀ {as : List AV} {vs : List Value}, VRs φ as vs → VR φ (oneOrTuple as) (if h : vs.toArray.size = 1 then vs.toArray[0] else .tuple vs.toArray)
  | [], vs, h => by
    cases h
    exact ⟨[], rfl, rfl⟩
  | [a], vs, h => by
    obtain ⟨v, r, h1, h2, rfl⟩ := h
    cases h2
    exact h1
  | a :: b :: l, vs, h => by
    have hh := h
    obtain ⟨v, r, h1, ⟨v2, r2, h2, h3, rfl⟩, rfl⟩ := h
    rw [dif_neg (by simp)]
    exact ⟨_, hh, rfl⟩

theorem results_ok (hT : TabOK T) {φ : Phi} {s : St} {w : World} (hs : SR T.ng B W φ s w) {t : Tm} {tmps : Array Value} (ht : TR φ t tmps) {fn : Func} {as : List AV} (h : resultsA T s t fn.results.toList = .ok as) :
    ∃ v, VR φ (oneOrTuple as) v ∧ (results fn tmps).run T.P w = .ok v w := by
  obtain ⟨vs, h1, h2⟩ := resultsA_ok hT hs ht _ _ h
  refine ⟨_, oneOrTuple_ok h1, ?_⟩
  rw [results_eq, Array.mapM_eq_mapM_toList, Sem.run_bind, map_eq_pure_bind, Sem.run_bind, h2]
  rfl

/-! ### a frame is entered -/
theorem initT_get : ∀ (l : List AV) (i : Nat) (t : Tm) (j : Nat), (initT i l t).get j = if i ≤ j ∧ j < i + l.length then l[j - i]? else t.get j
  | [], i, t, j => by
    rw [if_neg (by simp only [List.length_nil]; omega)]
    rfl
  | a :: l, i, t, j => by
    simp only [initT, forceTm_eq]
    rw [initT_get l (i + 1) _ j]
    by_cases h : i + 1 ≤ j ∧ j < i + 1 + l.length
    · rw [if_pos h, if_pos (by simp; omega)]
      rw [show j - i = (j - (i + 1)) + 1 by omega]
      rfl
    · rw [if_neg h, Tm.get_put]
      by_cases e : j = i
      · subst e
        rw [if_pos rfl, if_pos (by simp)]
        simp
      · rw [if_neg e, if_neg (by simp; omega)]

theorem VRs.get {φ : Phi} : ∀ {l : List AV} {vs : List Value}, VRs φ l vs → ∀ (i : Nat) (a : AV), l[i]? = some a → ∃ v, vs[i]? = some v ∧ VR φ a v
  | [], _, _, i, a, h => by simp at h
  | x :: l, _, ⟨v, r, h1, h2, rfl⟩, i, a, h => by
    cases i with
    | zero => simp at h; subst h; exact ⟨v, rfl, h1⟩
    | succ i => simp at h; obtain ⟨u, hu, hv⟩ := VRs.get h2 i a h; exact ⟨u, by simpa using hu, hv⟩

theorem enter_tr {φ : Phi} {args : List AV} {vs : List Value} (h : VRs φ args vs) (n : Nat) : TR φ (initT 0 args Tm.nil) ((⟨vs⟩ : Array Value) ++ Array.replicate n undef) := by
  intro i
  rw [initT_get]
  have hlen := h.length
  by_cases hi : i < args.length
  · rw [if_pos (by omega)]
    obtain ⟨v, hv, hr⟩ := h.get i _ (List.getElem?_eq_getElem hi)
    simp only [Nat.sub_zero, List.getElem?_eq_getElem hi, Option.getD_some]
    have hi2 : i < vs.length := by omega
    have e : ((⟨vs⟩ : Array Value) ++ Array.replicate n undef).getD i undef = v := by
      rw [Array.getD_eq_getD_getElem?, Array.getElem?_append_left (by simpa using hi2)]
      simp [hv]
    rw [e]
    exact hr
  · rw [if_neg (by omega)]
    have e : ((⟨vs⟩ : Array Value) ++ Array.replicate n undef).getD i undef = undef := by
      rw [Array.getD_eq_getD_getElem?, Array.getElem?_append_right (by simp; omega)]
      rw [Array.getElem?_replicate]
      split <;> rfl
    rw [e, Tm.get_nil]
    exact VR_undef φ

section
variable {rec : Task → R Res} (hrec : Sound T B W rec)
include hrec

theorem doCall_ok (hT : TabOK T) {f : FuncId} {args : List AV} {st : St} {pan : Option AV} {r : Res} (h : doCall T rec f args st pan = .ok r) : TaskOK T T.ng B W (.call f args st pan) r := by
  intro φ w vs kind cs hvs hs hrecov
  unfold doCall at h
  split at h
  · cases h
  · rename_i fn hfn
    have hP := (hT.func f fn hfn).1
    split at h
    · cases h
    · rename_i c hbody
      have hlen := hvs.length
      have hF : Frame.enter T.P f ⟨vs⟩ kind = { fn := f, tmps := (⟨vs⟩ : Array Value) ++ Array.replicate (fn.ntmps - vs.length) undef, todo := [.code c], defers := [], mode := .run, kind } := by
        simp [Frame.enter, hP, hbody]
      let E : Env := ⟨Frame.enter T.P f ⟨vs⟩ kind, cs⟩
      have hE : EnvOK φ { fn := f, nt := max fn.ntmps args.length, round := none, pan := pan } E := ⟨rfl, rfl, rfl, fun _ => hrecov⟩
      have hFR : FR φ { fn := f, nt := max fn.ntmps args.length, round := none, pan := pan } { tmps := initT 0 args Tm.nil, st := st, defers := [], recd := false } E ((⟨vs⟩ : Array Value) ++ Array.replicate (fn.ntmps - vs.length) undef) [] :=
        ⟨enter_tr hvs _, by simp; omega, rfl, hE⟩
      have hstart : lone (Frame.enter T.P f ⟨vs⟩ kind) (cs false) w = mac E ((⟨vs⟩ : Array Value) ++ Array.replicate (fn.ntmps - vs.length) undef) [.code c] [] false w := by
        unfold mac
        show lone (Frame.enter T.P f ⟨vs⟩ kind) (cs false) w = lone { Frame.enter T.P f ⟨vs⟩ kind with tmps := _, todo := _, defers := _ } (cs false) w
        rw [hF]
      -- behind the body
      have leave : ∀ {p : Option AV} {fr : Fr} {r' : Res} {φ' : Phi} {tmps' : Array Value} {ds' : List Deferred} {w' : World} {p' : Option Value} (F : Frame), rec (.leave { fn := f, nt := max fn.ntmps args.length, round := none, pan := pan } fn p fr) = .ok r' →
          φ.le φ' → SR T.ng B W φ' fr.st w' → FR φ' { fn := f, nt := max fn.ntmps args.length, round := none, pan := pan } fr E tmps' ds' →
          F.fn = f → F.kind = kind → F.tmps = tmps' → F.defers = ds' → F.mode = modeOf p' → (match p, p' with | none, none => True | some v, some v' => VR φ' v v' | _, _ => False) →
          Steps T.P (lone (Frame.enter T.P f ⟨vs⟩ kind) (cs false) w) (lone F (cs fr.recd) w') → CallRes T T.ng B W φ f kind cs (lone (Frame.enter T.P f ⟨vs⟩ kind) (cs false) w) r' := by
        intro p fr r' φ' tmps' ds' w' p' F hl hle hs' hf' e1 e2 e3 e4 e5 e6 hst
        have := hrec _ _ hl φ' F cs tmps' ds' w' p' hs' hf'.tr hf'.dr (by rw [e1]; exact hP) e3 e4 e5 e6
        rw [e1, e2] at this
        cases r' with
        | ext e x => exact this.elim
        | ret v st' rc =>
          obtain ⟨φ2, w2, F2, fn2, v2, q1, q2, q3, q4⟩ := this
          exact ⟨φ2, w2, F2, fn2, v2, Phi.le_trans hle q1, q2, hst.trans q3, q4⟩
        | pan v st' rc =>
          obtain ⟨φ2, w2, F2, fn2, v2, q1, q2, q3, q4⟩ := this
          exact ⟨φ2, w2, F2, fn2, v2, Phi.le_trans hle q1, q2, hst.trans q3, q4⟩
      cases hb : rec (.code { fn := f, nt := max fn.ntmps args.length, round := none, pan := pan } c { tmps := initT 0 args Tm.nil, st := st, defers := [], recd := false }) with
      | err e => rw [hb] at h; cases h
      | ok rb =>
        rw [hb] at h
        have hbr := hrec _ _ hb φ E _ _ w [] hs hFR
        obtain ⟨e, fr', rfl⟩ := code_res hbr
        obtain ⟨φ', tmps', ds', w', q1, q2, q3, q4⟩ := hbr
        rw [show ({ tmps := initT 0 args Tm.nil, st := st, defers := [], recd := false } : Fr).recd = false from rfl, ← hstart] at q4
        cases e with
        | normal =>
          simp only at h
          have h1 := st_end (P := T.P) (fr := atF E tmps' [] ds') (cs := cs fr'.recd) (w := w') rfl rfl rfl
          exact leave (p' := none) { atF E tmps' [] ds' with mode := .returning } h q1 q2 q3 rfl rfl rfl rfl rfl trivial (Steps.trans q4 (Steps.one h1))
        | ret =>
          simp only at h
          obtain ⟨k2, p1⟩ := q4
          have h1 := st_ret (P := T.P) (fr := atF E tmps' (.code .ret :: k2) ds') (cs := cs fr'.recd) (w := w') rfl rfl rfl
          exact leave (p' := none) { atF E tmps' (.code .ret :: k2) ds' with mode := .returning } h q1 q2 q3 rfl rfl rfl rfl rfl trivial (Steps.trans p1 (Steps.one h1))
        | panic v =>
          simp only at h
          obtain ⟨k2, v', hv, p1⟩ := q4
          exact leave (p' := some v') { atF E tmps' k2 ds' with mode := .panicking [{ v := v', recovered := false }] } h q1 q2 q3 rfl rfl rfl rfl rfl hv p1
        | exit id => cases h
        | goto l => cases h
end
end
end Go.Ex
namespace Go.Ex
open Go Go.RowKit

section
variable {T : Tab} {B : Nat} {W : World}

theorem putParams_ok {φ : Phi} {nt : Nat} : ∀ {ps : List Tmp} {as : List AV} {vs : List Value} {t t' : Tm} {tmps : Array Value}, putParams nt ps as t = some t' → VRs φ as vs → TR φ t tmps → tmps.size = nt →
    as.length = ps.length ∧ TR φ t' ((ps.zip vs).foldl (fun tmps (p : Tmp × Value) => tmps.setIfInBounds p.1 p.2) tmps) ∧ ((ps.zip vs).foldl (fun tmps (p : Tmp × Value) => tmps.setIfInBounds p.1 p.2) tmps).size = nt
  | [], [], vs, t, t', tmps, h, hv, ht, hs => by
    cases h
    cases hv
    exact ⟨rfl, ht, hs⟩
  | p :: ps, a :: as, _, t, t', tmps, h, ⟨v, r, h1, h2, rfl⟩, ht, hs => by
    simp only [putParams] at h
    cases hb : Nat.blt p nt with
    | false => rw [hb] at h; cases h
    | true =>
      rw [hb] at h
      simp only [cond_true, forceTm_eq] at h
      have := putParams_ok (tmps := tmps.setIfInBounds p v) h h2 (ht.put (by rw [hs]; exact blt_true hb) h1) (by simpa using hs)
      exact ⟨by simp [this.1], this.2⟩
  | [], _ :: _, _, _, _, _, h, _, _, _ => by cases h
  | _ :: _, [], _, _, _, _, h, _, _, _ => by cases h

theorem loop_heap {φ : Phi} {s : St} {w : World} (hs : SR T.ng B W φ s w) {l : Nat} {lp : ALoop} (hg : s.heap.get l = some (.loop lp)) {i : PI} (hi : φ l = some i) : ∃ L, w.heap[i.block]? = some (.loop L) ∧ LR φ lp L := by
  obtain ⟨j, hj, L, h1, h2⟩ := hs.heap _ _ hg
  rw [hi] at hj
  cases hj
  exact ⟨L, h1, h2⟩

section
variable {rec : Task → R Res} (hrec : Sound T B W rec)
include hrec

theorem doRound_ok (hT : TabOK T) {l : Nat} {args : List AV} {st : St} {r : Res} (h : doRound T rec l args st = .ok r) : TaskOK T T.ng B W (.round l args st) r := by
  intro φ w vs i X cs hvs hs hi
  unfold doRound at h
  split at h
  case h_2 => cases h
  rename_i lp hg
  obtain ⟨L, hL, hLR⟩ := loop_heap hs hg hi
  split at h
  · cases h
  rename_i fn hfn
  have hP := (hT.func _ fn hfn).1
  split at h
  case h_2 => cases h
  rename_i t' hput
  obtain ⟨hlen, htr, hsz⟩ := putParams_ok hput hvs hLR.tmps hLR.size
  rw [← hLR.params] at hlen
  have hfold : ((L.params.zip (⟨vs⟩ : Array Value)).foldl (fun tmps (t, a) => tmps.setIfInBounds t a) L.tmps) = ((lp.params.zip vs).foldl (fun tmps (p : Tmp × Value) => tmps.setIfInBounds p.1 p.2) L.tmps) := by
    rw [← Array.foldl_toList, Array.toList_zip, hLR.params]
  refine ⟨L, hL, by simpa using hlen, ?_⟩
  rw [hfold]
  generalize htm : ((lp.params.zip vs).foldl (fun tmps (p : Tmp × Value) => tmps.setIfInBounds p.1 p.2) L.tmps) = tm at *
  let E : Env := ⟨Frame.round i.block L.fn tm L.assign L.body .normal, fun _ => X :: cs⟩
  have hE : EnvOK φ { fn := lp.fn, nt := lp.nt, round := some l, pan := none } E := ⟨hLR.fn, rfl, ⟨i, hi, rfl⟩, fun e => by cases e⟩
  have hFR : FR φ { fn := lp.fn, nt := lp.nt, round := some l, pan := none } { tmps := t', st := st, defers := [], recd := false } E tm [] := ⟨htr, hsz, rfl, hE⟩
  have hstart : lone (Frame.round i.block L.fn tm L.assign L.body .normal) (X :: cs) w = mac E tm (.code lp.assign :: [.beginRound, .code lp.body]) [] false w := by
    rw [← hLR.assign, ← hLR.body]
    rfl
  cases hb : rec (.code { fn := lp.fn, nt := lp.nt, round := some l, pan := none } lp.assign { tmps := t', st := st, defers := [], recd := false }) with
  | err e => rw [hb] at h; cases h
  | ok rb =>
    rw [hb] at h
    have hbr := hrec _ _ hb φ E tm [] w [.beginRound, .code lp.body] hs hFR
    obtain ⟨e, fr', rfl⟩ := code_res hbr
    obtain ⟨φ1, tmps1, ds1, w1, q1, q2, q3, q4⟩ := hbr
    cases e with
    | exit id => cases h
    | goto l => cases h
    | ret => cases h
    | panic v => cases h
    | normal =>
      simp only [roundBody] at h
      split at h
      case h_2 => cases h
      rename_i lp1 hg1
      split at h
      case h_2 => cases h
      rename_i hready
      cases hlt : Nat.blt l 1000 with
      | true => rw [hlt] at h; cases h
      | false =>
        rw [hlt] at h
        simp only [cond_false, forceS_eq] at h
        have h1000 : 1000 ≤ l := by
          rcases Nat.lt_or_ge l 1000 with h' | h'
          · have : Nat.blt l 1000 = true := by simp [Nat.blt]; omega
            rw [this] at hlt; cases hlt
          · exact h'
        obtain ⟨L1, hL1, hLR1⟩ := loop_heap q2 hg1 (q1 _ _ hi)
        have hs2 := q2.setObj h1000 (q1 _ _ hi) hg1 (.loop { lp1 with state := .busy }) (.loop { L1 with state := .busy }) ⟨_, heap_set_same hL1, ⟨rfl, hLR1.pending, hLR1.fn, hLR1.params, hLR1.assign, hLR1.body, hLR1.tmps, hLR1.size⟩⟩
        have hbegin := st_beginRound (P := T.P) (fr := atF E tmps1 [.beginRound, .code lp.body] ds1) (cs := X :: cs) (w := w1) (l := i.block) (k := [.code lp.body]) rfl rfl rfl (run_beginRound (P := T.P) hL1 (by rw [hLR1.state]; exact hready))
        have hto : Steps T.P (lone (Frame.round i.block L.fn tm L.assign L.body .normal) (X :: cs) w) (mac E tmps1 [.code lp.body] ds1 fr'.recd { w1 with heap := w1.heap.setIfInBounds i.block (.loop { L1 with state := .busy }) }) := by
          rw [hstart]
          exact Steps.trans q4 (Steps.one hbegin)
        cases hb2 : rec (.code { fn := lp.fn, nt := lp.nt, round := some l, pan := none } lp.body { fr' with st := { fr'.st with heap := fr'.st.heap.put l (.loop { lp1 with state := .busy }) } }) with
        | err e => rw [hb2] at h; cases h
        | ok rb2 =>
          rw [hb2] at h
          have hbr2 := hrec _ _ hb2 φ1 E tmps1 ds1 _ [] hs2 (q3.st _)
          obtain ⟨e2, fr2, rfl⟩ := code_res hbr2
          obtain ⟨φ2, tmps2, ds2, w2, p1, p2, p3, p4⟩ := hbr2
          simp only at h
          have hi2 : φ2 l = some i := p1 _ _ (q1 _ _ hi)
          have hle := Phi.le_trans q1 p1
          -- the round comes to its end by itself, or by a jump
          have fin : ∀ (todo : List Item) (j : Option Code) (k2 : List Item), e2 ≠ .panic undefA → jumpOf e2 = j →
              ((todo = [] ∧ j = none) ∨ (todo = .code .ret :: k2 ∧ j = some .ret) ∨ (∃ id, todo = .code (.exit id) :: k2 ∧ exitTo id k2 = none ∧ j = some (.exit id)) ∨ (∃ g, todo = .code (.goto g) :: k2 ∧ gotoIn g k2 = none ∧ j = some (.goto g))) →
              Steps T.P (lone (Frame.round i.block L.fn tm L.assign L.body .normal) (X :: cs) w) (mac E tmps2 todo ds2 fr2.recd w2) →
              (match fr2.st.heap.get l with
                | some (.loop lp) => bif Nat.blt l 1000 then .err 158 else .ok (.ret (.bool (isNone (jumpOf e2))) { fr2.st with heap := fr2.st.heap.put l (.loop { lp with state := bif isNone (jumpOf e2) then .ready else .done, pending := jumpOf e2 }) } false)
                | _ => .err 147 : R Res) = .ok r →
              RoundRes T T.ng B W φ X cs (lone (Frame.round i.block L.fn tm L.assign L.body .normal) (X :: cs) w) r := by
            intro todo j k2 _ hj htodo hsteps hres
            split at hres
            case h_2 => cases hres
            rename_i lp2 hg2
            rw [hlt] at hres
            simp only [cond_false] at hres
            cases hres
            obtain ⟨L2, hL2, hLR2⟩ := loop_heap p2 hg2 hi2
            have hst : (if j.isNone then LoopState.ready else LoopState.done) = (bif isNone (jumpOf e2) then LoopState.ready else LoopState.done) := by
              rw [hj]; cases j <;> rfl
            have hs3 := p2.setObj h1000 hi2 hg2 (.loop { lp2 with state := bif isNone (jumpOf e2) then .ready else .done, pending := jumpOf e2 }) (.loop { L2 with state := if j.isNone then .ready else .done, pending := j })
              ⟨_, heap_set_same hL2, ⟨hst, hj.symm, hLR2.fn, hLR2.params, hLR2.assign, hLR2.body, hLR2.tmps, hLR2.size⟩⟩
            have hend := st_endRound (P := T.P) (fr := atF E tmps2 todo ds2) (X := X) (cs := cs) (w := w2) (l := i.block) (j := j) (k := k2) rfl rfl rfl htodo (run_endRound (P := T.P) j hL2)
            refine ⟨φ2, _, .bool j.isNone, hle, hs3, ?_, hsteps.trans (Steps.one hend)⟩
            rw [hj]
            cases j <;> rfl
          cases e2 with
          | panic v =>
            simp only [roundEnd] at h
            cases hd : fr2.defers with
            | cons a b => rw [hd] at h; cases h
            | nil =>
              rw [hd] at h
              cases h
              have hds : ds2 = [] := by have := p3.dr; rw [hd] at this; exact this
              subst hds
              obtain ⟨k2, v', hv, p4⟩ := p4
              have h2 := step_leave_panicked (P := T.P) (fr := { E.F with tmps := tmps2, todo := k2, defers := [], mode := .panicking [{ v := v', recovered := false }] }) (c := X) (cs := cs) (w := w2) (chain := [{ v := v', recovered := false }]) ⟨rfl, rfl, fn, by show T.P.funcs[L.fn]? = _; rw [hLR.fn]; exact hP⟩
              exact ⟨φ2, w2, v', hle, p2, hv, hto.trans (Steps.trans p4 (Steps.one h2))⟩
          | normal => exact fin [] none [] (fun e => by cases e) rfl (.inl ⟨rfl, rfl⟩) (hto.trans p4) h
          | ret =>
            obtain ⟨k2, p4⟩ := p4
            exact fin _ (some .ret) k2 (fun e => by cases e) rfl (.inr (.inl ⟨rfl, rfl⟩)) (hto.trans p4) h
          | exit id =>
            obtain ⟨k2, p4, p5⟩ := p4
            exact fin _ (some (.exit id)) k2 (fun e => by cases e) rfl (.inr (.inr (.inl ⟨id, rfl, by rw [p5]; rfl, rfl⟩))) (hto.trans p4) h
          | goto g =>
            obtain ⟨k2, p4, p5⟩ := p4
            exact fin _ (some (.goto g)) k2 (fun e => by cases e) rfl (.inr (.inr (.inr ⟨g, rfl, by rw [p5]; rfl, rfl⟩))) (hto.trans p4) h

omit hrec in
theorem CallRes.of_steps {φ φ' : Phi} {f : FuncId} {kind : CallKind} {cs : Bool → List Frame} {m m1 : Machine} {r : Res} (hle : φ.le φ') (h : Steps T.P m m1) (hr : CallRes T T.ng B W φ' f kind cs m1 r) : CallRes T T.ng B W φ f kind cs m r := by
  cases r with
  | ext e x => exact hr.elim
  | ret v st' rc =>
    obtain ⟨φ2, w2, F2, fn2, v2, q1, q2, q3, q4⟩ := hr
    exact ⟨φ2, w2, F2, fn2, v2, Phi.le_trans hle q1, q2, h.trans q3, q4⟩
  | pan v st' rc =>
    obtain ⟨φ2, w2, F2, fn2, v2, q1, q2, q3, q4⟩ := hr
    exact ⟨φ2, w2, F2, fn2, v2, Phi.le_trans hle q1, q2, h.trans q3, q4⟩

omit hrec in
theorem step_collected {P : Program} {F : Frame} {cs : List Frame} {w : World} {b : Nat} {as : Array Value} {ds : List Deferred} (hm : F.mode ≠ .run) (hd : F.defers = { target := .collected b, args := as } :: ds)
    (h : w.heap[b]? = some (.deferred (some []))) : step P (lone F cs w) = .next (lone { F with defers := ds } cs (w.putObj b (.deferred none))) := by
  have hr := run_takeDeferred (P := P) h
  obtain ⟨fn, tmps, todo, defers, mode, kind, roundOf⟩ := F
  simp only at hd hm
  subst hd
  refine step_lone_go ?_
  cases mode with
  | run => exact absurd rfl hm
  | returning => simp [stepG, unwind, Sem.runT_eq, hr]
  | panicking chain => simp [stepG, unwind, Sem.runT_eq, hr]

theorem doLeave_ok (hT : TabOK T) {cx : Cx} {fn : Func} {p : Option AV} {fr : Fr} {r : Res} (h : doLeave T rec cx fn p fr = .ok r) : TaskOK T T.ng B W (.leave cx fn p fr) r := by
  intro φ F cs tmps ds w p' hs htr hdr hfn htm hds hmode hpp
  have hrun : F.mode ≠ .run := by rw [hmode]; cases p' <;> (intro e; cases e)
  unfold doLeave at h
  cases hd : fr.defers with
  | nil =>
    rw [hd] at h hdr
    have hds' : ds = [] := hdr
    subst hds'
    simp only [leaveEnd] at h
    cases p with
    | some v =>
      cases h
      cases p' with
      | none => exact hpp.elim
      | some v' => exact ⟨φ, w, F, fn, v', Phi.le_refl φ, hs, Steps.refl _ _, rfl, hds, rfl, hmode, hfn, hpp⟩
    | none =>
      obtain ⟨as, ha, h⟩ := R.bind_ok h
      cases h
      cases p' with
      | some v' => exact hpp.elim
      | none =>
        obtain ⟨v, hv, hres⟩ := results_ok hT hs htr ha
        exact ⟨φ, w, F, fn, v, Phi.le_refl φ, hs, Steps.refl _ _, rfl, hds, rfl, hmode, hfn, by rw [htm]; exact hres, hv⟩
  | cons a l =>
    rw [hd] at h hdr
    obtain ⟨d0, ds0, hd0, hl0, e0⟩ := hdr
    subst e0
    cases a with
    | collected v =>
      simp only [leaveCollected] at h
      obtain ⟨i, hi, e1⟩ := hd0
      subst e1
      split at h
      case h_2 => cases h
      rename_i hg
      cases hlt : Nat.blt v 1000 with
      | true => rw [hlt] at h; cases h
      | false =>
        rw [hlt] at h
        simp only [cond_false, forceS_eq] at h
        have h1000 : 1000 ≤ v := by
          rcases Nat.lt_or_ge v 1000 with h' | h'
          · have : Nat.blt v 1000 = true := by simp [Nat.blt]; omega
            rw [this] at hlt; cases hlt
          · exact h'
        obtain ⟨j, hj, hor⟩ := hs.heap _ _ hg
        rw [hi] at hj
        cases hj
        have hor' : w.heap[i.block]? = some (.deferred (some [])) := hor
        have hs2 := hs.setObj h1000 hi hg (.deferred true) (.deferred none) (heap_set_same hor')
        have h1 := step_collected (P := T.P) (cs := cs fr.recd) (w := w) hrun hds hor'
        exact CallRes.of_steps (Phi.le_refl φ) (Steps.one h1) (hrec _ _ h φ { F with defers := ds0 } cs tmps ds0 _ p' hs2 htr hl0 hfn htm rfl hmode hpp)
    | call f args =>
      simp only [leaveCall] at h
      obtain ⟨g, x, y, xv, yv, vs, rfl, hx, hy, hvs, e1⟩ := hd0
      subst e1
      split at h
      case h_2 => cases h
      case h_3 => cases h
      rename_i g' args' st' hcv
      obtain ⟨rfl, _, us, hus, hrun2⟩ := callV_ok hT hs (f := .func g x y) (fv := .func (.func g) ⟨xv⟩ ⟨yv⟩) ⟨xv, yv, hx, hy, rfl⟩ hvs _ hcv
      have h1 := step_defer (P := T.P) (fr := F) (cs := cs fr.recd) (w := w) (d := { target := .fn (.func g) ⟨yv⟩, args := (⟨xv⟩ : Array Value) ++ ⟨vs⟩ }) (ds := ds0) hrun hds rfl hrun2
      cases hc : rec (.call g' args' fr.st p) with
      | err e => rw [hc] at h; cases h
      | ok rc0 =>
        rw [hc] at h
        have hcall := hrec _ _ hc
        cases rc0 with
        | ext e x => cases h
        | pan v st2 rc => cases h
        | ret v st2 rc =>
          simp only at h
          cases p with
          | none =>
            cases p' with
            | some v' => exact hpp.elim
            | none =>
              have hrecOK : RecOK φ .deferred (fun _ => ({ F with defers := ds0 } : Frame) :: cs fr.recd) none := by
                intro fr0 b hk
                have hm' : F.mode = .returning := hmode
                simp [tryRecover, hk, hm']
              obtain ⟨φ', w', F', fn', v', hle, hs', hst', hkind, hdef, hfn', hmode', hfun, hres, hv⟩ := hcall φ w us .deferred (fun _ => ({ F with defers := ds0 } : Frame) :: cs fr.recd) hus hs hrecOK
              have h2 := step_going_returned (P := T.P) (fr := F') (c := { F with defers := ds0 }) (cs := cs fr.recd) (w := w') (v := v') hkind ⟨hmode', hdef, fn', by rw [hfn']; exact hfun, hres⟩
              have hset : settle F.mode = .returning := by rw [show F.mode = .returning from hmode]; rfl
              have hp0 : (bif rc then none else none : Option AV) = none := by cases rc <;> rfl
              rw [hp0] at h
              exact CallRes.of_steps hle ((Steps.one h1).trans (hst'.trans (Steps.one h2))) (hrec _ _ h φ' { F with defers := ds0, mode := settle F.mode } cs tmps ds0 w' none hs' (htr.mono hle) (hl0.mono hle) hfn htm rfl hset trivial)
          | some pv =>
            cases p' with
            | none => exact hpp.elim
            | some pv' =>
              have hpv : VR φ pv pv' := hpp
              have hm' : F.mode = .panicking [{ v := pv', recovered := false }] := hmode
              have hrecOK : RecOK φ .deferred (fun b => ({ F with defers := ds0, mode := .panicking [{ v := pv', recovered := b }] } : Frame) :: cs fr.recd) (some pv) := by
                refine ⟨pv', hpv, fun fr0 hk => ⟨?_, ?_⟩⟩
                · simp [tryRecover, hk]
                · simp [tryRecover, hk]
              obtain ⟨φ', w', F', fn', v', hle, hs', hst', hkind, hdef, hfn', hmode', hfun, hres, hv⟩ := hcall φ w us .deferred (fun b => ({ F with defers := ds0, mode := .panicking [{ v := pv', recovered := b }] } : Frame) :: cs fr.recd) hus hs hrecOK
              have h2 := step_going_returned (P := T.P) (fr := F') (c := { F with defers := ds0, mode := .panicking [{ v := pv', recovered := rc }] }) (cs := cs fr.recd) (w := w') (v := v') hkind ⟨hmode', hdef, fn', by rw [hfn']; exact hfun, hres⟩
              have h1' : Steps T.P (lone F (cs fr.recd) w) (lone (Frame.enter T.P g' ⟨us⟩ .deferred) (({ F with defers := ds0, mode := .panicking [{ v := pv', recovered := false }] } : Frame) :: cs fr.recd) w) := by
                have : ({ F with defers := ds0, mode := .panicking [{ v := pv', recovered := false }] } : Frame) = { F with defers := ds0 } := by rw [← hm']
                rw [this]
                exact Steps.one h1
              cases rc with
              | true =>
                exact CallRes.of_steps hle (h1'.trans (hst'.trans (Steps.one h2))) (hrec _ _ h φ' { F with defers := ds0, mode := .returning } cs tmps ds0 w' none hs' (htr.mono hle) (hl0.mono hle) hfn htm rfl rfl trivial)
              | false =>
                exact CallRes.of_steps hle (h1'.trans (hst'.trans (Steps.one h2))) (hrec _ _ h φ' { F with defers := ds0, mode := .panicking [{ v := pv', recovered := false }] } cs tmps ds0 w' (some pv') hs' (htr.mono hle) (hl0.mono hle) hfn htm rfl rfl (hpv.mono hle))

theorem doCode_ok (hT : TabOK T) {cx : Cx} {c : Code} {fr : Fr} {r : Res} (h : doCode T rec cx c fr = .ok r) : TaskOK T T.ng B W (.code cx c fr) r := by
  cases c with
  | skip =>
    cases h
    intro φ E tmps ds w k hs hf
    exact ⟨φ, tmps, ds, w, Phi.le_refl φ, hs, hf, Steps.one (st_skip hf.env.mode rfl)⟩
  | label l =>
    cases h
    intro φ E tmps ds w k hs hf
    exact ⟨φ, tmps, ds, w, Phi.le_refl φ, hs, hf, Steps.one (st_label hf.env.mode rfl)⟩
  | seq a b => exact doSeq_ok hrec h
  | cond c a b => exact doCond_ok hrec h
  | block id c => exact doBlock_ok hrec h
  | loop c => exact doLoop_ok hrec h
  | exit id =>
    cases h
    intro φ E tmps ds w k hs hf
    exact ⟨φ, tmps, ds, w, Phi.le_refl φ, hs, hf, k, Steps.refl _ _, rfl⟩
  | ret =>
    cases h
    intro φ E tmps ds w k hs hf
    exact ⟨φ, tmps, ds, w, Phi.le_refl φ, hs, hf, k, Steps.refl _ _⟩
  | goto l =>
    cases h
    intro φ E tmps ds w k hs hf
    exact ⟨φ, tmps, ds, w, Phi.le_refl φ, hs, hf, k, Steps.refl _ _, rfl⟩
  | region id ops draw => exact doRegion_ok hrec hT h
  | rangeFunc f ps a b => exact doRangeFunc_ok hT hrec h
  | scope c =>
    intro φ E tmps ds w k hs hf
    exact CodeRes.start (Steps.one (st_scope hf.env.mode rfl)) (hrec _ _ h φ E tmps ds w k hs hf)
  | refuse why => cases h

theorem doTask_ok (hT : TabOK T) {t : Task} {r : Res} (h : doTask T rec t = .ok r) : TaskOK T T.ng B W t r := by
  cases t with
  | code cx c fr => exact doCode_ok hrec hT h
  | scope cx body c fr => exact doScope_ok hrec h
  | again cx c fr => exact doAgain_ok hrec h
  | ops cx all l fr => exact doOps_ok hT hrec h
  | draw cx all i l fr lds sn => exact doDraw_ok hT hrec h
  | call f args st pan => exact doCall_ok hrec hT h
  | leave cx fn p fr => exact doLeave_ok hrec hT h
  | round l args st => exact doRound_ok hrec hT h
end

/-- what the executor answers is what the machine does -/
theorem run_ok (hT : TabOK T) : ∀ n, Sound T B W (run T n)
  | 0 => fun t r h => by cases h
  | n + 1 => fun t r h => doTask_ok (run_ok hT n) hT h

/-- the executor's call, of the machine -/
theorem calls_of_run (hT : TabOK T) {n : Nat} {f : FuncId} {args : List AV} {st st' : St} {v : AV} {rc : Bool} (h : run T n (.call f args st none) = .ok (.ret v st' rc))
    {φ : Phi} {w : World} {vs : List Value} (hvs : VRs φ args vs) (hs : SR T.ng B W φ st w) :
    Calls T.P f ⟨vs⟩ w fun e w' => ∃ φ' v', φ.le φ' ∧ e = .returned v' ∧ VR φ' v v' ∧ SR T.ng B W φ' st' w' := by
  intro cs
  obtain ⟨φ', w', fr', fn, v', hle, hs', hst, hkind, hdef, hfn, hmode, hfun, hres, hv⟩ := run_ok hT n _ _ h φ w vs .normal (fun _ => cs) hvs hs (recOK_normal φ _)
  exact ⟨.returned v', w', fr', ⟨φ', v', hle, rfl, hv, hs'⟩, hst, hfn, hmode, hdef, hkind, fn, by rw [hfn]; exact hfun, hres⟩
end
end Go.Ex
namespace Go.Ex
open Go Go.RowKit

/-- the executor's view of a program: its own tables -/
noncomputable def progTab (P : Program) (ext : FuncId → Option ExtK) (ng : Nat) : Tab := { P := P, under := fun t => P.underlying t, info := fun t => P.info? t, func := fun f => P.funcs[f]?, ext := ext, ng := ng }

/-- a function without a Go body answers by this row of the model's -/
def ExtIs (P : Program) (f : FuncId) (e : Func → Array Value → Sem Value) : Prop :=
  ∃ fn, P.funcs[f]? = some fn ∧ (fn.name == "runtime.NumGoroutine") = false ∧ fn.body.isNone = true ∧ Extern.findNext fn = none ∧ Extern.find fn = some (e fn)

theorem callFunc_ext {P : Program} {f : FuncId} {e : Func → Array Value → Sem Value} (h : ExtIs P f e) (args : Array Value) (w : World) :
    ∃ fn, P.funcs[f]? = some fn ∧ (callFunc f args).run P w = (e fn args >>= fun v => pure (Next.value v)).run P w := by
  obtain ⟨fn, h1, h2, h3, h4, h5⟩ := h
  refine ⟨fn, h1, ?_⟩
  unfold callFunc
  simp only [Sem.run_bind, run_program, Result.andThen_ok, h1, h2, h3, h4, h5, Bool.false_eq_true, if_false, if_true]
  simp [Sem.run_bind]

def ExtFits (P : Program) (f : FuncId) : ExtK → Prop
  | .pure g => ExtIs P f fun _ => g
  | .same => ExtIs P f fun _ => Extern.AbiNoEscape.same
  | .noZero => ExtIs P f fun fn => Extern.BytealgMakeNoZero.makeNoZero fn.params fn.resultTypes

theorem progTab_ok {P : Program} {ext : FuncId → Option ExtK} {ng : Nat} (hm : P.follows .mixedOrders = true) (hn : P.funcs.toList.all (fun fn => !(fn.name == "runtime.NumGoroutine")) = true)
    (hext : ∀ f k, ext f = some k → ExtFits P f k) : TabOK (progTab P ext ng) where
  mixed := hm
  under := fun _ _ h => h
  info := fun _ _ h => h
  func := fun f fn h => by
    have h' : P.funcs[f]? = some fn := h
    refine ⟨h', ?_⟩
    have := List.all_eq_true.1 hn fn (by simpa using Array.mem_of_getElem? h')
    simpa using this
  ext := fun f g h args w v hv => by
    obtain ⟨fn, _, he⟩ := callFunc_ext (hext f _ h) args w
    show (callFunc f args).run P w = _
    rw [he, Sem.run_bind, show (g args).run P w = .ok v w from hv]
    rfl
  same := fun f h x w => by
    obtain ⟨fn, _, he⟩ := callFunc_ext (hext f _ h) #[x] w
    show (callFunc f #[x]).run P w = _
    rw [he]
    rfl
  noZero := fun f fn h hf args w => by
    obtain ⟨fn', h1, he⟩ := callFunc_ext (hext f _ h) args w
    have hf' : P.funcs[f]? = some fn := hf
    rw [h1] at hf'
    cases hf'
    exact he
end Go.Ex
namespace Go.Ex
open Go Go.RowKit

/-! ### a program's tables as tries -/
noncomputable def split {α : Type} (l : List α) : List α × List α := List.rec (motive := fun _ => List α × List α) ([], []) (fun a _ ih => (a :: ih.2, ih.1)) l
noncomputable def ofList {α : Type} (f : Nat) : List α → Tr α := Nat.rec (motive := fun _ => List α → Tr α) (fun _ => .nil)
  (fun _ ih l => List.rec (motive := fun _ => Tr α) .nil (fun a r _ => .node (ih (split r).1) (some a) (ih (split r).2)) l) f

theorem split_cons {α : Type} (a : α) (l : List α) : split (a :: l) = (a :: (split l).2, (split l).1) := rfl
theorem split_get {α : Type} : ∀ (l : List α) (j : Nat), (split l).1[j]? = l[2 * j]? ∧ (split l).2[j]? = l[2 * j + 1]?
  | [], j => ⟨rfl, rfl⟩
  | a :: l, j => by
    rw [split_cons]
    refine ⟨?_, ?_⟩
    · cases j with
      | zero => rfl
      | succ j =>
        show (split l).2[j]? = _
        rw [(split_get l j).2, show 2 * (j + 1) = (2 * j + 1) + 1 by omega]
        rfl
    · show (split l).1[j]? = _
      rw [(split_get l j).1]
      rfl
theorem split_len {α : Type} : ∀ l : List α, (split l).1.length ≤ l.length ∧ (split l).2.length ≤ l.length
  | [] => ⟨Nat.le_refl _, Nat.le_refl _⟩
  | a :: l => by
    rw [split_cons]
    have := split_len l
    simp only [List.length_cons]
    omega
theorem ofList_get {α : Type} : ∀ (f : Nat) (l : List α) (i : Nat), l.length ≤ f → (ofList f l).get i = l[i]?
  | 0, l, i, h => by
    cases l with
    | nil => rfl
    | cons a l => simp at h
  | f + 1, [], i, _ => rfl
  | f + 1, a :: r, i, h => by
    have hl := split_len r
    simp only [List.length_cons] at h
    show (Tr.node (ofList f (split r).1) (some a) (ofList f (split r).2)).get i = _
    rw [Tr.get_node]
    by_cases h0 : i = 0
    · subst h0; rfl
    · rw [if_neg h0]
      by_cases h1 : i % 2 = 1
      · rw [if_pos h1, ofList_get f _ _ (by omega), (split_get r _).1]
        rw [show i = 2 * (i / 2) + 1 by omega]
        simp only [List.getElem?_cons_succ]
        congr 1
        omega
      · rw [if_neg h1, ofList_get f _ _ (by omega), (split_get r _).2]
        rw [show i = (2 * (i / 2 - 1) + 1) + 1 by omega]
        simp only [List.getElem?_cons_succ]
        congr 1
        omega

noncomputable def triInfo (P : Program) : Tr TypeInfo := ofList 100000 P.types.toList
noncomputable def triFunc (P : Program) : Tr Func := ofList 100000 P.funcs.toList
noncomputable def descOf (I : TypeId → Option TypeInfo) (d : TypeDesc) : Option TypeDesc := match d with
  | .named _ u => match I u with
    | some j => some j.desc
    | none => none
  | d => some d
/-- the executor's view of a program: its own tables, as tries -/
noncomputable def triTab (P : Program) (ext : FuncId → Option ExtK) (ng : Nat) : Tab :=
  { P := P, under := fun t => match (triInfo P).get t with | some i => descOf (triInfo P).get i.desc | none => none, info := (triInfo P).get, func := (triFunc P).get, ext := ext, ng := ng }

theorem tri_info {P : Program} (hs : P.types.toList.length ≤ 100000) {t : TypeId} {i : TypeInfo} (h : (triInfo P).get t = some i) : P.info? t = some i := by
  unfold triInfo at h
  rw [ofList_get _ _ _ hs] at h
  have h' : P.types[t]? = some i := by simpa using h
  unfold Tables.info?
  rw [if_pos (Array.getElem?_eq_some_iff.1 h').1]
  exact h'

theorem tri_under {P : Program} {ext : FuncId → Option ExtK} {ng : Nat} (hs : P.types.toList.length ≤ 100000) {t : TypeId} {d : TypeDesc} (h : (triTab P ext ng).under t = some d) : P.underlying t = some d := by
  have h : (match (triInfo P).get t with | some i => descOf (triInfo P).get i.desc | none => none) = some d := h
  cases hi : (triInfo P).get t with
  | none => rw [hi] at h; cases h
  | some i =>
    rw [hi] at h
    have hP := tri_info hs hi
    unfold Program.underlying
    rw [hP]
    obtain ⟨desc⟩ := i
    simp only [descOf] at h
    cases desc with
    | named n u =>
      simp only at h ⊢
      cases hu : (triInfo P).get u with
      | none => rw [hu] at h; cases h
      | some j =>
        rw [hu] at h
        rw [tri_info hs hu]
        cases h
        rfl
    | _ => simp only at h ⊢; cases h; rfl

theorem triTab_ok {P : Program} {ext : FuncId → Option ExtK} {ng : Nat} (hm : P.follows .mixedOrders = true) (hn : P.funcs.toList.all (fun fn => !(fn.name == "runtime.NumGoroutine")) = true)
    (hs : Nat.ble P.types.toList.length 100000 = true) (hf : Nat.ble P.funcs.toList.length 100000 = true)
    (hext : ∀ f k, ext f = some k → ExtFits P f k) : TabOK (triTab P ext ng) := by
  have hs := Nat.le_of_ble_eq_true hs
  have hf := Nat.le_of_ble_eq_true hf
  have hp := progTab_ok (ng := ng) hm hn hext
  have func : ∀ f fn, (triFunc P).get f = some fn → P.funcs[f]? = some fn := fun f fn h => by
    unfold triFunc at h
    rw [ofList_get _ _ _ hf] at h
    simpa using h
  exact ⟨hm, fun t d h => tri_under hs h, fun t i h => tri_info hs h, fun f fn h => hp.func f fn (func f fn h), hp.ext, hp.same, fun f fn h h' => hp.noZero f fn h (func f fn h')⟩
end Go.Ex
