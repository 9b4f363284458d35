/- The executor: a big-step reading of the program as the model runs it, made for evaluation by the kernel, and its soundness (part ExI). -/
import Derived.Test.YtmkdjmoifkffgaaGreatDoorExG
set_option linter.unusedVariables false
set_option linter.unusedSimpArgs false
set_option linter.unusedSectionVars false
namespace Go.Ex
open Go Go.RowKit

section
variable {T : Tab}

theorem slowBin_ok {op : BinOp} {ty : TypeId} {x y : Operand} {a b : AV} {h : Tr AObj} {nx : Nat} {k : KA} {res : Res} (hh : slowBin T op ty x y a b h nx k = .ok res) :
    (∃ v s, binA T ⟨h, nx⟩ op ty x y a b = .ok (.val v s) ∧ k v = .ok res) := by
  unfold slowBin at hh
  cases hb : binA T ⟨h, nx⟩ op ty x y a b with
  | err e => rw [hb] at hh; cases hh
  | ok out =>
    rw [hb] at hh
    cases out with
    | val v s =>
      simp only [fA_eq] at hh
      exact ⟨v, s, rfl, hh⟩
    | _ => cases hh

theorem eqAddr_st {s : St} {ty : TypeId} {same : Bool} {a b : AV} {v : AV} {s' : St} (h : eqAddr T s ty same a b = .ok (.val v s')) : s' = s := by
  unfold eqAddr at h
  split at h
  · split at h
    · cases h; rfl
    · split at h
      · obtain ⟨n, _, h⟩ := R.bind_ok h
        cases hc : (Nat.beq _ _ && !Nat.beq n 0) with
        | true => rw [hc] at h; cases h; rfl
        | false => rw [hc] at h; cases h
      · cases h
  · cases h
theorem pureV_st {s : St} {m : Sem Value} {v : AV} {s' : St} (h : pureV T s m = .ok (.val v s')) : s' = s := by
  unfold pureV at h
  split at h
  · split at h
    · cases h; rfl
    · cases h
  · cases h
theorem binSlow_st {s : St} {op : BinOp} {ty : TypeId} {x y : Operand} {a b v : AV} {s' : St} (h : binSlow T s op ty x y a b = .ok (.val v s')) : s' = s := by
  unfold binSlow at h
  split at h
  · exact pureV_st h
  · split at h
    · exact eqAddr_st h
    · exact eqAddr_st h
    · cases h
theorem cmpInts_st {s : St} {op : BinOp} {ty : TypeId} {x y : Operand} {k l : IntKind} {m n : Int} {v : AV} {s' : St} (h : cmpInts T s op ty x y k l m n = .ok (.val v s')) : s' = s := by
  unfold cmpInts at h
  split at h
  · split at h
    · cases h; rfl
    · exact binSlow_st h
  · exact binSlow_st h
theorem binA_st {s : St} {op : BinOp} {ty : TypeId} {x y : Operand} {a b v : AV} {s' : St} (h : binA T s op ty x y a b = .ok (.val v s')) : s' = s := by
  unfold binA at h
  split at h
  · split at h
    · cases h; rfl
    · exact cmpInts_st h
  · exact cmpInts_st h
  · exact binSlow_st h

theorem opA_bin {s : St} {t : Tm} {o : Oper} {op : BinOp} {ty ty' : TypeId} {x y : Operand} {a b : AV} (ho : o.op = .binOp op ty x y ty') (hx : evA T t x = .ok a) (hy : evA T t y = .ok b) :
    opA T s t o = binA T s op ty x y a b := by
  unfold opA; rw [ho]; simp only [hx, hy, R.bind]

theorem vBin_ok {op : BinOp} {ty ty' : TypeId} {x y : Operand} : VOK T (.binOp op ty x y ty') (vBin T op ty x y) := by
  obtain ⟨fx, e1, h1⟩ := decOpd_ok (T := T) x
  obtain ⟨fy, e2, h2⟩ := decOpd_ok (T := T) y
  have slow : ∀ {t : Tm} {h : Tr AObj} {nx : Nat} {k : KA} {res : Res} {a b : AV} {o : Oper}, o.op = .binOp op ty x y ty' → evA T t x = .ok a → evA T t y = .ok b → slowBin T op ty x y a b h nx k = .ok res →
      ∃ v, opA T ⟨h, nx⟩ t o = .ok (.val v ⟨h, nx⟩) ∧ k v = .ok res := by
    intro t h nx k res a b o ho hx hy hh
    obtain ⟨v, s, hb, hk⟩ := slowBin_ok hh
    have := binA_st hb
    subst this
    exact ⟨v, by rw [opA_bin ho hx hy, hb], hk⟩
  cases hB : binT T op ty with
  | int kd =>
    obtain ⟨q, e3, h3⟩ := decKind_ok kd
    obtain ⟨fi, e4, h4⟩ := decInt_ok op kd
    refine ⟨_, by unfold vBin; simp only [e1, e2, hB, e3, e4]; rfl, fun {t h nx k res} hh o ho => ?_⟩
    obtain ⟨a, ha, hk⟩ := h1 hh
    replace hk := h2 hk; obtain ⟨b, hb, hk⟩ := hk
    replace hk := h3 hk
    rcases hk with ⟨m, hk, he⟩ | hk
    · subst he
      replace hk := h3 hk
      rcases hk with ⟨n, hk, he⟩ | hk
      · subst he
        replace hk := h4 hk
        rcases hk with ⟨v, hk, hv⟩ | hk
        · exact ⟨v, by rw [opA_bin ho ha hb]; exact hv T _ ty x y, hk⟩
        · exact slow ho ha hb hk
      · exact slow ho ha hb hk
    · exact slow ho ha hb hk
  | shift kd =>
    obtain ⟨q, e3, h3⟩ := decKind_ok kd
    obtain ⟨fi, e4, h4⟩ := decShift_ok op kd
    refine ⟨_, by unfold vBin; simp only [e1, e2, hB, e3, e4]; rfl, fun {t h nx k res} hh o ho => ?_⟩
    obtain ⟨a, ha, hk⟩ := h1 hh
    replace hk := h2 hk; obtain ⟨b, hb, hk⟩ := hk
    replace hk := h3 hk
    rcases hk with ⟨m, hk, he⟩ | hk
    · subst he
      replace hk := asNat_ok hk
      rcases hk with ⟨kb, n, hk, he⟩ | hk
      · subst he
        replace hk := h4 hk
        rcases hk with ⟨v, hk, hv⟩ | hk
        · exact ⟨v, by rw [opA_bin ho ha hb]; exact hv kb T _ ty x y, hk⟩
        · exact slow ho ha hb hk
      · exact slow ho ha hb hk
    · exact slow ho ha hb hk
  | str =>
    refine ⟨_, by unfold vBin; simp only [e1, e2, hB]; rfl, fun {t h nx k res} hh o ho => ?_⟩
    obtain ⟨a, ha, hk⟩ := h1 hh
    replace hk := h2 hk; obtain ⟨b, hb, hk⟩ := hk
    replace hk := asStr_ok hk
    rcases hk with ⟨m, hk, he⟩ | hk
    · subst he
      replace hk := asStr_ok hk
      rcases hk with ⟨n, hk, he⟩ | hk
      · subst he
        replace hk := strF_ok hk
        rcases hk with ⟨v, hk, hv⟩ | hk
        · exact ⟨v, by rw [opA_bin ho ha hb]; exact hv T _ ty x y, hk⟩
        · exact slow ho ha hb hk
      · exact slow ho ha hb hk
    · exact slow ho ha hb hk
  | other =>
    refine ⟨_, by unfold vBin; simp only [e1, e2, hB]; rfl, fun {t h nx k res} hh o ho => ?_⟩
    obtain ⟨a, ha, hk⟩ := h1 hh
    replace hk := h2 hk; obtain ⟨b, hb, hk⟩ := hk
    exact slow ho ha hb hk

theorem boundK_ok {f : Option Operand} {t : Tm} {dflt hi : Nat} {k : Nat → RR} {res : Res} (h : boundK T f t dflt hi k = .ok res) : ∃ v n, evOpt T t f = .ok v ∧ bnd v dflt hi = .ok n ∧ k n = .ok res := by
  cases f with
  | none => exact ⟨none, dflt, rfl, rfl, h⟩
  | some x =>
    obtain ⟨g, e, hg⟩ := decOpd_ok (T := T) x
    unfold boundK at h
    simp only [e] at h
    obtain ⟨v, hv, hk⟩ := hg h
    replace hk := asNat_ok hk
    rcases hk with ⟨kd, n, hk, he⟩ | hk
    · subst he
      rcases bool_rec_ok hk with ⟨hb, hk⟩ | ⟨hb, hk⟩
      · exact ⟨_, n, by simp only [evOpt, hv]; rfl, by simp only [bnd, hb, cond_true], hk⟩
      · cases hk
    · cases hk

theorem isStrTy_ok {ty : TypeId} (h : isStrTy T ty = true) : T.under ty = some .string := by
  unfold isStrTy at h
  split at h
  · assumption
  · cases h

theorem vSliceStr_ok {ty : TypeId} {x : Operand} {lo hi : Option Operand} (hty : isStrTy T ty = true) : VOK T (.slice ty x lo hi none) (vSliceStr T x lo hi) := by
  obtain ⟨fx, e1, h1⟩ := decOpd_ok (T := T) x
  refine ⟨_, by unfold vSliceStr; rw [e1], fun {t h nx k res} hh o ho => ?_⟩
  obtain ⟨a, ha, hk⟩ := h1 hh
  replace hk := asStr_ok hk
  rcases hk with ⟨l, hk, he⟩ | hk
  · subst he
    rw [fN_eq] at hk
    obtain ⟨vh, hn, q1, q2, hk⟩ := boundK_ok hk
    obtain ⟨vl, ln, q3, q4, hk⟩ := boundK_ok hk
    rw [dropB_eq, takeB_eq] at hk
    refine ⟨_, ?_, hk⟩
    rw [lenB_eq] at q2
    have hs : (⟨⟨l⟩⟩ : ByteArray).size = l.length := rfl
    have hx : (⟨⟨l⟩⟩ : ByteArray).extract ln hn = ⟨⟨(l.drop ln).take (hn - ln)⟩⟩ := by ext1; simp
    unfold opA; rw [ho]; simp only [opSlice, ha, R.bind, q1, q3, sliceA, isStrTy_ok hty, hs, q2, q4, hx]
    rfl
  · cases hk

/-! ### steps -/
theorem frk_eq (k : KN) (fr : Fr) : frk k fr = k fr.tmps fr.st.heap fr.st.next fr.defers fr.recd := by
  obtain ⟨t, ⟨h, nx⟩, d, r⟩ := fr
  cases r <;> cases d <;> rfl

theorem putF_of {cx : Cx} {fr : Fr} {st : St} {d : Option Tmp} {a : AV} {k : Fr → R Res} (hd : ∀ x, d = some x → x < cx.nt) : putF cx fr st d a k = k { tmps := putT fr.tmps d a, st := st, defers := fr.defers, recd := fr.recd } := by
  unfold putF
  rw [forceS_eq]
  cases d with
  | none => rfl
  | some d =>
    have : Nat.blt d cx.nt = true := Nat.ble_eq_true_of_le (hd d rfl)
    simp only [this, cond_true, forceA_eq, forceTm_eq]
    rfl

/-- a decoded step does what the operation does -/
def SOK (T : Tab) (nt : Nat) (all : Array Oper) (o : Oper) (s : DStep) : Prop := ∃ f, s = .mk f ∧ ∀ {rec : Rec} {cx : Cx} {t : Tm} {h : Tr AObj} {nx : Nat} {d : List ADef} {r : Bool} {k : KN} {res : Res}, cx.nt = nt →
  f rec cx t h nx d r k = .ok res → Region.wanted o (yieldedA all t) = true → oneA T rec cx all o ⟨t, ⟨h, nx⟩, d, r⟩ (frk k) = .ok res

variable {nt : Nat} {all : Array Oper} {o : Oper}

theorem sGen_ok : SOK T nt all o (sGen T all o) := ⟨_, rfl, fun _ h _ => h⟩

theorem one_of {rec : Rec} {cx : Cx} {fr : Fr} {k : Fr → RR} {out : Out} {res : Res} (hw : Region.wanted o (yieldedA all fr.tmps) = true) (ho : opA T fr.st fr.tmps o = .ok out) (h : onOut rec cx o.dst fr k out = .ok res) :
    oneA T rec cx all o fr k = .ok res := by
  unfold oneA
  rw [hw]
  simp only [ho]
  exact h

theorem val_of {rec : Rec} {cx : Cx} {t : Tm} {h : Tr AObj} {nx : Nat} {d : List ADef} {r : Bool} {k : KN} {res : Res} {v : AV} {h' : Tr AObj} {nx' : Nat} (hd : ∀ x, o.dst = some x → x < cx.nt) (hk : k (putT t o.dst v) h' nx' d r = .ok res) :
    onOut rec cx o.dst ⟨t, ⟨h, nx⟩, d, r⟩ (frk k) (.val v ⟨h', nx'⟩) = .ok res := by
  simp only [onOut]
  rw [putF_of hd, frk_eq]
  exact hk
theorem skip_of {rec : Rec} {cx : Cx} {t : Tm} {h : Tr AObj} {nx : Nat} {d : List ADef} {r : Bool} {k : KN} {res : Res} {h' : Tr AObj} {nx' : Nat} (hd : ∀ x, o.dst = some x → x < cx.nt) (hk : k (putT t o.dst undefA) h' nx' d r = .ok res) :
    onOut rec cx o.dst ⟨t, ⟨h, nx⟩, d, r⟩ (frk k) (.skip ⟨h', nx'⟩) = .ok res := by
  simp only [onOut]
  rw [putF_of hd, frk_eq]
  exact hk

theorem sVal_ok {op : Op} {v : DV} (hop : o.op = op) (hv : VOK T op v) : SOK T nt all o (sVal nt o v) := by
  obtain ⟨fv, e1, h1⟩ := hv
  obtain ⟨p, e2, h2⟩ := decPut_ok nt o.dst
  refine ⟨_, by unfold sVal; rw [e1, e2], fun {rec cx t h nx d r k res} hnt hh hw => ?_⟩
  obtain ⟨x, hx, hk⟩ := h1 hh o hop
  obtain ⟨hd, hk⟩ := h2 hk
  subst hnt
  exact one_of hw hx (val_of hd hk)

theorem sMove_ok {x : Operand} (hop : o.op = .move x ∨ o.op = .assign x) : SOK T nt all o (sMove T nt o x) := by
  obtain ⟨f, e1, h1⟩ := decOpd_ok (T := T) x
  obtain ⟨p, e2, h2⟩ := decPut_ok nt o.dst
  refine ⟨_, by unfold sMove; rw [e1, e2], fun {rec cx t h nx d r k res} hnt hh hw => ?_⟩
  obtain ⟨v, hv, hk⟩ := h1 hh
  obtain ⟨hd, hk⟩ := h2 hk
  subst hnt
  refine one_of hw (out := .val v ⟨h, nx⟩) ?_ (val_of hd hk)
  rcases hop with ho | ho <;> (unfold opA; rw [ho]; simp only [hv]; rfl)

theorem outF_ok {p : AV → Tm → (Tm → RR) → RR} (hp : ∀ {v : AV} {t : Tm} {k : Tm → RR} {res : Res}, p v t k = .ok res → (∀ x, o.dst = some x → x < nt) ∧ k (putT t o.dst v) = .ok res)
    {rec : Rec} {cx : Cx} {t : Tm} {h : Tr AObj} {nx : Nat} {d : List ADef} {r : Bool} {k : KN} {x : R Out} {res : Res} (hnt : cx.nt = nt) (hh : outF o.dst p rec cx t h nx d r k x = .ok res) :
    ∃ out, x = .ok out ∧ onOut rec cx o.dst ⟨t, ⟨h, nx⟩, d, r⟩ (frk k) out = .ok res := by
  subst hnt
  cases x with
  | err e => cases hh
  | ok out =>
    refine ⟨out, rfl, ?_⟩
    cases out with
    | val v st =>
      obtain ⟨h', nx'⟩ := st
      replace hh : fT h' (fun h => fN nx' fun nx => fA v fun v => p v t fun t => k t h nx d r) = .ok res := hh
      rw [fT_eq, fN_eq, fA_eq] at hh
      obtain ⟨hd, hk⟩ := hp hh
      exact val_of hd hk
    | skip st =>
      obtain ⟨h', nx'⟩ := st
      replace hh : fT h' (fun h => fN nx' fun nx => p undefA t fun t => k t h nx d r) = .ok res := hh
      rw [fT_eq, fN_eq] at hh
      obtain ⟨hd, hk⟩ := hp hh
      exact skip_of hd hk
    | enter f args st => exact hh
    | round l args => exact hh
    | defer f args => exact hh
    | panic v => exact hh
    | recover => exact hh

theorem sOut_ok {g : St → Tm → R Out} (hg : ∀ s t out, g s t = .ok out → opA T s t o = .ok out) : SOK T nt all o (sOut nt o g) := by
  obtain ⟨p, e2, h2⟩ := decPut_ok nt o.dst
  refine ⟨_, by unfold sOut; rw [e2], fun {rec cx t h nx d r k res} hnt hh hw => ?_⟩
  obtain ⟨out, hx, hk⟩ := outF_ok h2 hnt hh
  exact one_of hw (hg _ _ _ hx) hk
theorem sOut0_ok {g : St → R Out} (hg : ∀ s t out, g s = .ok out → opA T s t o = .ok out) : SOK T nt all o (sOut0 nt o g) := by
  obtain ⟨p, e2, h2⟩ := decPut_ok nt o.dst
  refine ⟨_, by unfold sOut0; rw [e2], fun {rec cx t h nx d r k res} hnt hh hw => ?_⟩
  obtain ⟨out, hx, hk⟩ := outF_ok h2 hnt hh
  exact one_of hw (hg _ t _ hx) hk
theorem sOut1_ok {x : Operand} {g : St → AV → R Out} (hg : ∀ s t a out, evA T t x = .ok a → g s a = .ok out → opA T s t o = .ok out) : SOK T nt all o (sOut1 T nt o x g) := by
  obtain ⟨p, e2, h2⟩ := decPut_ok nt o.dst
  obtain ⟨fx, e1, h1⟩ := decOpd_ok (T := T) x
  refine ⟨_, by unfold sOut1; rw [e2, e1], fun {rec cx t h nx d r k res} hnt hh hw => ?_⟩
  obtain ⟨a, ha, hk⟩ := h1 hh
  obtain ⟨out, hx, hk⟩ := outF_ok h2 hnt hk
  exact one_of hw (hg _ t a _ ha hx) hk
theorem sOut2_ok {x y : Operand} {g : St → AV → AV → R Out} (hg : ∀ s t a b out, evA T t x = .ok a → evA T t y = .ok b → g s a b = .ok out → opA T s t o = .ok out) : SOK T nt all o (sOut2 T nt o x y g) := by
  obtain ⟨p, e2, h2⟩ := decPut_ok nt o.dst
  obtain ⟨fx, e1, h1⟩ := decOpd_ok (T := T) x
  obtain ⟨fy, e3, h3⟩ := decOpd_ok (T := T) y
  refine ⟨_, by unfold sOut2; rw [e2, e1, e3], fun {rec cx t h nx d r k res} hnt hh hw => ?_⟩
  obtain ⟨a, ha, hk⟩ := h1 hh
  replace hk := h3 hk; obtain ⟨b, hb, hk⟩ := hk
  obtain ⟨out, hx, hk⟩ := outF_ok h2 hnt hk
  exact one_of hw (hg _ t a b _ ha hb hx) hk
theorem sOutL_ok {x : Operand} {l : List Operand} {g : St → AV → List AV → R Out} (hg : ∀ s t a as out, evA T t x = .ok a → evAs T t l = .ok as → g s a as = .ok out → opA T s t o = .ok out) : SOK T nt all o (sOutL T nt o x l g) := by
  obtain ⟨p, e2, h2⟩ := decPut_ok nt o.dst
  obtain ⟨fx, e1, h1⟩ := decOpd_ok (T := T) x
  obtain ⟨fl, e3, h3⟩ := decOpds_ok (T := T) l
  refine ⟨_, by unfold sOutL; rw [e2, e1, e3], fun {rec cx t h nx d r k res} hnt hh hw => ?_⟩
  obtain ⟨a, ha, hk⟩ := h1 hh
  replace hk := h3 hk; obtain ⟨b, hb, hk⟩ := hk
  obtain ⟨out, hx, hk⟩ := outF_ok h2 hnt hk
  exact one_of hw (hg _ t a b _ ha hb hx) hk
theorem sOutP_ok {l : List (Nat × Operand)} {g : St → List (Nat × AV) → R Out} (hg : ∀ s t as out, evParts T t l = .ok as → g s as = .ok out → opA T s t o = .ok out) : SOK T nt all o (sOutP T nt o l g) := by
  obtain ⟨p, e2, h2⟩ := decPut_ok nt o.dst
  obtain ⟨fl, e3, h3⟩ := decParts_ok (T := T) l
  refine ⟨_, by unfold sOutP; rw [e2, e3], fun {rec cx t h nx d r k res} hnt hh hw => ?_⟩
  obtain ⟨b, hb, hk⟩ := h3 hh
  obtain ⟨out, hx, hk⟩ := outF_ok h2 hnt hk
  exact one_of hw (hg _ t b _ hb hx) hk
theorem sSlice_ok {ty : TypeId} {x : Operand} {lo hi : Option Operand} (ho : o.op = .slice ty x lo hi none) : SOK T nt all o (sSlice T nt o ty x lo hi) := by
  obtain ⟨p, e2, h2⟩ := decPut_ok nt o.dst
  obtain ⟨fx, e1, h1⟩ := decOpd_ok (T := T) x
  refine ⟨_, by unfold sSlice; rw [e2, e1], fun {rec cx t h nx d r k res} hnt hh hw => ?_⟩
  obtain ⟨a, ha, hk⟩ := h1 hh
  obtain ⟨l, hl, hk⟩ := optK_ok hk
  obtain ⟨u, hu, hk⟩ := optK_ok hk
  obtain ⟨out, hx, hk⟩ := outF_ok h2 hnt hk
  refine one_of hw ?_ hk
  unfold opA; rw [ho]; simp only [opSlice, ha, hl, hu]
  exact hx
end
end Go.Ex
namespace Go.Ex
open Go Go.RowKit

section
variable {T : Tab} {nt : Nat} {all : Array Oper} {o : Oper}

theorem cells_single {x : AV} (h : single x = true) : x.cells = [x] := by cases x <;> first | rfl | cases h

theorem stK_ok {n v off : Nat} {x : AV} {h : Tr AObj} {k : Tr AObj → RR} {res : Res} (nx : Nat) (hh : stK n v off x h k = .ok res) :
    ∃ h', (bif Nat.beq x.cells.length n then stCells ⟨h, nx⟩ v off x.cells else .err 14 : R St) = .ok ⟨h', nx⟩ ∧ k h' = .ok res := by
  unfold stK at hh
  rcases bool_rec_ok hh with ⟨_, hh⟩ | ⟨hv, hh⟩
  · cases hh
  have agg : ∀ cs : List AV, Bool.rec (motive := fun _ => RR) (.err 14) (Bool.rec (motive := fun _ => RR) (.err 11) (hgetK (pth v) h (.err 10) fun ob => asCells ob (fun l e x => owK off l cs (fun l => hsetK (pth v) h (.cells l e x) k) (.err 9)) (.err 10)) (allSingle cs)) (Nat.beq (lenB cs) n) = .ok res →
      ∃ h', (bif Nat.beq cs.length n then stCells ⟨h, nx⟩ v off cs else .err 14 : R St) = .ok ⟨h', nx⟩ ∧ k h' = .ok res := by
    intro cs hh
    rcases bool_rec_ok hh with ⟨hn, hh⟩ | ⟨_, hh⟩
    · rcases bool_rec_ok hh with ⟨hs, hh⟩ | ⟨_, hh⟩
      · rcases hgetK_ok hh with ⟨ob, hob, hk⟩ | hk
        · replace hk := asCells_ok hk
          rcases hk with ⟨l, e, b, hk, he⟩ | hk
          · subst he
            rcases owK_ok hk with ⟨m, hm, hk⟩ | hk
            · rw [hsetK_eq] at hk
              rw [lenB_eq] at hn
              exact ⟨_, by simp only [hn, cond_true, stCells, hv, cond_false, hs, hob, hm], hk⟩
            · cases hk
          · cases hk
        · cases hk
      · cases hh
    · cases hh
  have one : Bool.rec (motive := fun _ => RR) (.err 14) (oneCell x (hgetK (pth v) h (.err 10) fun ob => asCells ob (fun l e b => owK off l [x] (fun l => hsetK (pth v) h (.cells l e b) k) (.err 9)) (.err 10)) (.err 11)) (Nat.beq 1 n) = .ok res →
      ∃ h', (bif Nat.beq x.cells.length n then stCells ⟨h, nx⟩ v off x.cells else .err 14 : R St) = .ok ⟨h', nx⟩ ∧ k h' = .ok res := by
    intro hh
    rcases bool_rec_ok hh with ⟨hn, hh⟩ | ⟨_, hh⟩
    · rcases oneCell_ok hh with ⟨hs, hh⟩ | hh
      · rcases hgetK_ok hh with ⟨ob, hob, hk⟩ | hk
        · replace hk := asCells_ok hk
          rcases hk with ⟨l, e, b, hk, he⟩ | hk
          · subst he
            rcases owK_ok hk with ⟨m, hm, hk⟩ | hk
            · rw [hsetK_eq] at hk
              rw [cells_single hs]
              exact ⟨_, by simp only [List.length_cons, List.length_nil, hn, Nat.zero_add, cond_true, stCells, hv, cond_false, allSingle, hs, Bool.and_self, hob, hm], hk⟩
            · cases hk
          · cases hk
        · cases hk
      · cases hh
    · cases hh
  cases x with
  | agg l => exact agg l hh
  | _ => exact one hh

theorem sStore_ok {ty : TypeId} {a x : Operand} (ho : o.op = .store ty a x) : SOK T nt all o (sStore T nt o ty a x) := by
  obtain ⟨p, e2, h2⟩ := decPut_ok nt o.dst
  obtain ⟨fa, e1, h1⟩ := decOpd_ok (T := T) a
  obtain ⟨fx, e3, h3⟩ := decOpd_ok (T := T) x
  cases hS : sizeA T ty with
  | err e => exact ⟨_, by unfold sStore; simp only [e1, e3, hS]; rfl, fun _ hh => by cases hh⟩
  | ok n =>
    refine ⟨_, by unfold sStore; simp only [e1, e3, hS, forceN_eq, e2]; rfl, fun {rec cx t h nx d r k res} hnt hh hw => ?_⟩
    obtain ⟨av, ha, hk⟩ := h1 hh
    replace hk := h3 hk; obtain ⟨xv, hx, hk⟩ := hk
    replace hk := asPtr_ok hk
    rcases hk with ⟨v, off, hk, he⟩ | hk
    · subst he
      replace hk := stK_ok nx hk
      obtain ⟨h', q, hk⟩ := hk
      obtain ⟨hd, hk⟩ := h2 hk
      subst hnt
      refine one_of hw (out := .skip ⟨h', nx⟩) ?_ (skip_of hd hk)
      unfold opA; rw [ho]; simp only [ha, hx, R.bind, storeA, hS, q]
    · cases hk

theorem hasBody_ok {f : FuncId} (h : hasBody T f = true) : ∃ fn c, T.func f = some fn ∧ fn.body = some c := by
  unfold hasBody at h
  split at h
  · rename_i fn hf
    split at h
    · rename_i c hc
      exact ⟨fn, c, hf, hc⟩
    · cases h
  · cases h

theorem backK_ok {p : AV → Tm → (Tm → RR) → RR} (hp : ∀ {v : AV} {t : Tm} {k : Tm → RR} {res : Res}, p v t k = .ok res → (∀ x, o.dst = some x → x < nt) ∧ k (putT t o.dst v) = .ok res)
    {cx : Cx} {t : Tm} {h : Tr AObj} {nx : Nat} {d : List ADef} {r : Bool} {k : KN} {x : RR} {res : Res} (hnt : cx.nt = nt) (hh : backK t d r p k x = .ok res) : afterCall cx ⟨t, ⟨h, nx⟩, d, r⟩ o.dst x (frk k) = .ok res := by
  subst hnt
  cases x with
  | err e => cases hh
  | ok rr =>
    cases rr with
    | ext e fr => cases hh
    | ret v st rc =>
      obtain ⟨h', nx'⟩ := st
      replace hh : p v t (fun t => k t h' nx' d r) = .ok res := hh
      obtain ⟨hd, hk⟩ := hp hh
      simp only [afterCall]
      rw [putF_of hd, frk_eq]
      exact hk
    | pan v st rc => exact hh

theorem sCall_ok {c : Call} {fid : FuncId} (ho : o.op = .call c) (hc : c.callee = .value (.func fid)) (hb : hasBody T fid = true) : SOK T nt all o (sCall T nt o fid c.args.toList) := by
  obtain ⟨p, e2, h2⟩ := decPut_ok nt o.dst
  obtain ⟨g, e1, h1⟩ := decOpds_ok (T := T) c.args.toList
  obtain ⟨fn, cb, hf, hcb⟩ := hasBody_ok hb
  refine ⟨_, by unfold sCall; rw [e1, e2], fun {rec cx t h nx d r k res} hnt hh hw => ?_⟩
  obtain ⟨args, ha, hk⟩ := h1 hh
  refine one_of hw (out := .enter fid args ⟨h, nx⟩) ?_ ?_
  · unfold opA; rw [ho]; simp only [opCall, hc, evA, R.bind, ha, callV, List.nil_append, List.append_nil, callA, hf, hcb]
  · simp only [onOut]
    exact backK_ok h2 hnt hk

theorem lenT_str {t : Option TypeId} (h : lenT T t = .str) : ∃ ty, t = some ty ∧ T.under ty = some .string := by
  unfold lenT at h
  cases t with
  | none => cases h
  | some ty => simp only at h; split at h <;> first | (cases h; done) | exact ⟨ty, rfl, by assumption⟩
theorem lenT_sl {t : Option TypeId} (h : lenT T t = .sl) : ∃ ty e, t = some ty ∧ T.under ty = some (.slice e) := by
  unfold lenT at h
  cases t with
  | none => cases h
  | some ty => simp only at h; split at h <;> first | (cases h; done) | exact ⟨ty, _, rfl, by assumption⟩
theorem lenT_arr {t : Option TypeId} {n : Nat} (h : lenT T t = .arr n) : ∃ ty e, t = some ty ∧ T.under ty = some (.array n e) := by
  unfold lenT at h
  cases t with
  | none => cases h
  | some ty => simp only at h; split at h <;> first | (cases h; done) | (cases h; exact ⟨ty, _, rfl, by assumption⟩)

theorem opA_len {s : St} {t : Tm} {c : Call} {x : Operand} (ho : o.op = .call c) (hc : c.callee = .builtin .len) (hl : c.args.toList = [x]) {a : AV} (ha : evA T t x = .ok a) : opA T s t o = opLen T s c.argTypes[0]? a := by
  unfold opA; rw [ho]; simp only [opCall, hc, hl, callB, ha, R.bind]

theorem sLen_ok {c : Call} {x : Operand} (ho : o.op = .call c) (hc : c.callee = .builtin .len) (hl : c.args.toList = [x]) : SOK T nt all o (sLen T nt o c.argTypes x) := by
  obtain ⟨f, e1, h1⟩ := decOpd_ok (T := T) x
  cases hL : lenT T c.argTypes[0]? with
  | str =>
    obtain ⟨ty, h0, hu⟩ := lenT_str hL
    have : sLen T nt o c.argTypes x = sVal nt o (.mk fun t _ _ k => f t fun a => asStr a (fun l => vInt (lenB l) k) (.err 107)) := by unfold sLen; simp only [hL, e1]
    rw [this]
    refine sVal_ok rfl ⟨_, rfl, fun {t h nx k res} hh o' ho' => ?_⟩
    obtain ⟨a, ha, hk⟩ := h1 hh
    replace hk := asStr_ok hk
    rcases hk with ⟨l, hk, he⟩ | hk
    · subst he
      unfold vInt at hk
      rw [fN_eq, lenB_eq] at hk
      exact ⟨_, by rw [opA_len (o := o') (by rw [ho']; exact ho) hc hl ha]; simp only [opLen, h0, hu, intOut]; rfl, hk⟩
    · cases hk
  | sl =>
    obtain ⟨ty, e, h0, hu⟩ := lenT_sl hL
    have : sLen T nt o c.argTypes x = sVal nt o (.mk fun t _ _ k => f t fun a => lenSl a (fun n => k (.int .i64 (.ofNat n))) (.err 107)) := by unfold sLen; simp only [hL, e1]
    rw [this]
    refine sVal_ok rfl ⟨_, rfl, fun {t h nx k res} hh o' ho' => ?_⟩
    obtain ⟨a, ha, hk⟩ := h1 hh
    rcases lenSl_ok hk with ⟨n, hn, hk⟩ | hk
    · refine ⟨_, ?_, hk⟩
      rw [opA_len (o := o') (by rw [ho']; exact ho) hc hl ha]
      rcases hn with ⟨_, _, _, rfl⟩ | ⟨_, _, _, rfl⟩ | ⟨rfl | rfl, rfl⟩ <;> (simp only [opLen, h0, hu, intOut])
    · cases hk
  | arr n =>
    obtain ⟨ty, e, h0, hu⟩ := lenT_arr hL
    have : sLen T nt o c.argTypes x = sVal nt o (.mk fun t _ _ k => f t fun _ => vInt n k) := by unfold sLen; simp only [hL, e1]
    rw [this]
    refine sVal_ok rfl ⟨_, rfl, fun {t h nx k res} hh o' ho' => ?_⟩
    obtain ⟨a, ha, hk⟩ := h1 hh
    unfold vInt at hk
    rw [fN_eq] at hk
    exact ⟨_, by rw [opA_len (o := o') (by rw [ho']; exact ho) hc hl ha]; simp only [opLen, h0, hu, intOut], hk⟩
  | other =>
    have : sLen T nt o c.argTypes x = sOut1 T nt o x fun s x => opLen T s c.argTypes[0]? x := by unfold sLen; simp only [hL]
    rw [this]
    exact sOut1_ok fun s t a out ha h => by rw [opA_len ho hc hl ha]; exact h

theorem psem_underlying {α : Type} {P : Program} {t : TypeId} {d : TypeDesc} (h : P.underlying t = some d) (f : TypeDesc → Sem α) : psem P (underlying t >>= f) = psem P (f d) := by
  show psem P (Sem.bind (underlying t) f) = _
  unfold underlying
  simp only [program, Bind.bind, Sem.bind, psem, h]
  rfl

theorem convT_ok {src dst : TypeId} {kd : IntKind} (h : convT T src dst = some kd) : ∃ k0, T.under src = some (.int k0) ∧ T.under dst = some (.int kd) := by
  unfold convT at h
  split at h
  · cases h; exact ⟨_, by assumption, by assumption⟩
  · cases h

theorem convA_int (hT : TabOK T) {src dst : TypeId} {k0 kd kb : IntKind} (s : St) (n : Int) (hs : T.under src = some (.int k0)) (hd : T.under dst = some (.int kd)) : convA T s src dst (.int kb n) = .ok (.val (.int kd (kd.wrap n)) s) := by
  simp only [convA, toV, pureV]
  have : psem T.P (convert src dst (.int kb n)) = some (.int kd (kd.wrap n)) := by
    unfold convert
    rw [psem_underlying (hT.under _ _ hs), psem_underlying (hT.under _ _ hd)]
    rfl
  rw [this]
  rfl

theorem slowConv_ok {p : AV → Tm → (Tm → RR) → RR} (hp : ∀ {v : AV} {t : Tm} {k : Tm → RR} {res : Res}, p v t k = .ok res → (∀ x, o.dst = some x → x < nt) ∧ k (putT t o.dst v) = .ok res)
    {src dst : TypeId} {a : AV} {rec : Rec} {cx : Cx} {t : Tm} {h : Tr AObj} {nx : Nat} {d : List ADef} {r : Bool} {k : KN} {res : Res} (hnt : cx.nt = nt) (hh : slowConv T src dst a h nx k (fun v kt => p v t kt) d r = .ok res) :
    ∃ out, convA T ⟨h, nx⟩ src dst a = .ok out ∧ onOut rec cx o.dst ⟨t, ⟨h, nx⟩, d, r⟩ (frk k) out = .ok res := by
  subst hnt
  unfold slowConv at hh
  cases hb : convA T ⟨h, nx⟩ src dst a with
  | err e => rw [hb] at hh; cases hh
  | ok out =>
    rw [hb] at hh
    cases out with
    | val v st =>
      obtain ⟨h', nx'⟩ := st
      simp only [fT_eq, fN_eq, fA_eq] at hh
      obtain ⟨hd, hk⟩ := hp hh
      exact ⟨_, rfl, val_of hd hk⟩
    | _ => cases hh

theorem sConv_ok (hT : TabOK T) {src dst : TypeId} {x : Operand} (ho : o.op = .convert src dst x) : SOK T nt all o (sConv T nt o src dst x) := by
  obtain ⟨p, e2, h2⟩ := decPut_ok nt o.dst
  obtain ⟨f, e1, h1⟩ := decOpd_ok (T := T) x
  have opc : ∀ {s : St} {t : Tm} {a : AV}, evA T t x = .ok a → opA T s t o = convA T s src dst a := fun ha => by unfold opA; rw [ho]; simp only [ha, R.bind]
  cases hc : convT T src dst with
  | none =>
    refine ⟨_, by unfold sConv; simp only [e1, e2, hc]; rfl, fun {rec cx t h nx d r k res} hnt hh hw => ?_⟩
    obtain ⟨a, ha, hk⟩ := h1 hh
    obtain ⟨out, hx, hk⟩ := slowConv_ok (rec := rec) h2 hnt hk
    exact one_of hw (by rw [opc ha]; exact hx) hk
  | some kd =>
    obtain ⟨k0, q1, q2⟩ := convT_ok hc
    refine ⟨_, by unfold sConv; simp only [e1, e2, hc]; rfl, fun {rec cx t h nx d r k res} hnt hh hw => ?_⟩
    obtain ⟨a, ha, hk⟩ := h1 hh
    have slow : slowConv T src dst a h nx k (fun v kt => p v t kt) d r = .ok res → oneA T rec cx all o ⟨t, ⟨h, nx⟩, d, r⟩ (frk k) = .ok res := fun hk => by
      obtain ⟨out, hx, hk⟩ := slowConv_ok (rec := rec) h2 hnt hk
      exact one_of hw (by rw [opc ha]; exact hx) hk
    replace hk := asNat_ok hk
    rcases hk with ⟨kb, n, hk, he⟩ | hk
    · subst he
      rcases wrapK_ok hk with ⟨r', hk, hr⟩ | hk
      · obtain ⟨hd, hk⟩ := h2 hk
        subst hnt
        refine one_of hw (out := .val (.int kd (.ofNat r')) ⟨h, nx⟩) ?_ (val_of hd hk)
        rw [opc ha, convA_int hT _ _ q1 q2]
        rw [show kd.wrap (Int.ofNat n) = Int.ofNat r' from hr]
      · exact slow hk
    · exact slow hk

theorem isFn_ok {f : Operand} {fid : FuncId} (h : isFn f = some fid) : f = .func fid := by
  cases f <;> simp [isFn] at h
  rw [h]

theorem sCallee_ok {c : Call} (ho : o.op = .call c) : SOK T nt all o (sCallee T nt all o c) := by
  unfold sCallee
  cases hc : c.callee with
  | value f =>
    have gen : SOK T nt all o (sOutL T nt o f c.args.toList fun s f args => callV T s f args) :=
      sOutL_ok fun s t a as out ha has h => by unfold opA; rw [ho]; simp only [opCall, hc, ha, has, R.bind]; exact h
    simp only
    cases hf : isFn f with
    | none => exact gen
    | some fid =>
      simp only
      have := isFn_ok hf
      subst this
      cases hb : hasBody T fid with
      | false => exact gen
      | true => exact sCall_ok ho hc hb
  | invoke r m => exact sGen_ok
  | builtin b =>
    simp only
    split
    · rename_i x h1
      exact sLen_ok ho hc h1
    · rename_i x y h1
      exact sOut2_ok fun s t a b out ha hb h => by unfold opA; rw [ho]; simp only [opCall, hc, h1, callB, ha, hb, R.bind]; exact h
    · exact sOut_ok fun s t out h => by unfold opA; rw [ho]; simp only [opCall, hc]; exact h

theorem sBase_ok (hT : TabOK T) : SOK T nt all o (sBase T nt all o) := by
  unfold sBase
  cases ho : o.op with
  | move x => exact sMove_ok (.inl ho)
  | assign x => exact sMove_ok (.inr ho)
  | pick c a b => exact sVal_ok ho vPick_ok
  | alloc e => exact sOut0_ok fun s t out h => by unfold opA; rw [ho]; exact h
  | box e x => exact sOut1_ok fun s t a out ha h => by unfold opA; rw [ho]; simp only [ha, R.bind]; exact h
  | build ty ps => exact sOutP_ok fun s t as out ha h => by unfold opA; rw [ho]; simp only [ha, R.bind]; exact h
  | buildSlice ty l ps => exact sOutP_ok fun s t as out ha h => by unfold opA; rw [ho]; simp only [ha, R.bind]; exact h
  | load ty a => exact sVal_ok ho vLoad_ok
  | store ty a x => exact sStore_ok ho
  | nilCheck x => exact sVal_ok ho vNilCheck_ok
  | binOp op ty x y ty' => exact sVal_ok ho vBin_ok
  | unOp op ty x =>
    have gen : SOK T nt all o (sOut1 T nt o x fun s x => (opt 33 (toV x)).bind fun v => pureV T s (Op.unary op v)) :=
      sOut1_ok fun s t a out ha h => by unfold opA; rw [ho]; simp only [evV, ha, R.bind]; exact h
    cases op <;> first | exact sVal_ok ho vNot_ok | exact gen
  | convert s d x => exact sConv_ok hT ho
  | makeInterface ty x => exact sOut1_ok fun s t a out ha h => by unfold opA; rw [ho]; simp only [ha, R.bind]; exact h
  | makeFunc fn a b => exact sOut_ok fun s t out h => by unfold opA; rw [ho]; exact h
  | makeSlice ty l c => exact sOut2_ok fun s t a b out ha hb h => by unfold opA; rw [ho]; simp only [ha, hb, R.bind]; exact h
  | slice ty x lo hi mx =>
    cases mx with
    | none =>
      simp only
      cases hs : isStrTy T ty with
      | true => exact sVal_ok ho (vSliceStr_ok hs)
      | false => exact sSlice_ok ho
    | some _ => exact sGen_ok
  | fieldAddr st x f => exact sVal_ok ho vFieldAddr_ok
  | field st x f => exact sVal_ok ho vField_ok
  | indexAddr ty x i => exact sVal_ok ho vIndexAddr_ok
  | index ty x i => exact sVal_ok ho vIndex_ok
  | range ty x => exact sOut1_ok fun s t a out ha h => by unfold opA; rw [ho]; simp only [ha, R.bind]; exact h
  | next it b =>
    cases b with
    | true => exact sOut1_ok fun s t a out ha h => by unfold opA; rw [ho]; simp only [ha, R.bind]; exact h
    | false => exact sGen_ok
  | extract tu i => exact sVal_ok ho vExtract_ok
  | call c => exact sCallee_ok ho
  | _ => exact sGen_ok

theorem wanted_none (hg : o.guard = none) (y : Nat → Option Bool) : Region.wanted o y = true := by unfold Region.wanted; rw [hg]

theorem skip_one {rec : Rec} {cx : Cx} {t : Tm} {h : Tr AObj} {nx : Nat} {d : List ADef} {r : Bool} {k : KN} {res : Res} (hw : Region.wanted o (yieldedA all t) = false) (hd : ∀ x, o.dst = some x → x < cx.nt) (hk : k (putT t o.dst undefA) h nx d r = .ok res) :
    oneA T rec cx all o ⟨t, ⟨h, nx⟩, d, r⟩ (frk k) = .ok res := by
  unfold oneA
  simp only [hw]
  rw [putF_of hd, frk_eq]
  exact hk

theorem decStep_ok (hT : TabOK T) : ∃ f, decStep T nt all o = .mk f ∧ ∀ {rec : Rec} {cx : Cx} {t : Tm} {h : Tr AObj} {nx : Nat} {d : List ADef} {r : Bool} {k : KN} {res : Res}, cx.nt = nt →
    f rec cx t h nx d r k = .ok res → oneA T rec cx all o ⟨t, ⟨h, nx⟩, d, r⟩ (frk k) = .ok res := by
  obtain ⟨f, e1, h1⟩ := sBase_ok (T := T) (nt := nt) (all := all) (o := o) hT
  obtain ⟨p, e2, h2⟩ := decPut_ok nt o.dst
  cases hg : o.guard with
  | none => exact ⟨f, by unfold decStep; simp only [hg, e1], fun hnt hh => h1 hnt hh (wanted_none hg _)⟩
  | some gw =>
    obtain ⟨g, want⟩ := gw
    cases hG : guardOf all g with
    | none =>
      refine ⟨_, by unfold decStep; simp only [hg, e2, hG]; rfl, fun {rec cx t h nx d r k res} hnt hh => ?_⟩
      obtain ⟨hd, hk⟩ := h2 hh
      subst hnt
      refine skip_one ?_ hd hk
      unfold Region.wanted
      rw [hg]
      have : yieldedA all t g = none := by
        unfold guardOf at hG
        unfold yieldedA
        cases ha : all[g]? with
        | none => rfl
        | some q => rw [ha] at hG; simp only at hG ⊢; rw [hG]
      simp only [this]
      rfl
    | some dg =>
      obtain ⟨gt, gs, e3, h3, _⟩ := slot_ok dg
      have hy : ∀ t : Tm, yieldedA all t g = match t.get dg with | some (.bool b) => some b | _ => none := fun t => by
        unfold guardOf at hG
        unfold yieldedA
        cases ha : all[g]? with
        | none => rw [ha] at hG; cases hG
        | some q => rw [ha] at hG; simp only at hG ⊢; rw [hG]; rfl
      have hwv : ∀ (t : Tm) (b : Bool), (t.get dg).getD undefA = .bool b → Region.wanted o (yieldedA all t) = (b == want) := fun t b hb => by
        unfold Region.wanted
        rw [hg]
        simp only [hy]
        cases hq : t.get dg with
        | none => rw [hq] at hb; cases hb
        | some v => rw [hq] at hb; simp only [Option.getD_some] at hb; subst hb; cases b <;> cases want <;> rfl
      have hwn : ∀ (t : Tm), (∀ b, (t.get dg).getD undefA ≠ .bool b) → Region.wanted o (yieldedA all t) = false := fun t hb => by
        unfold Region.wanted
        rw [hg]
        simp only [hy]
        cases hq : t.get dg with
        | none => cases want <;> rfl
        | some v =>
          rw [hq] at hb
          cases v with
          | bool b => exact absurd rfl (hb b)
          | _ => cases want <;> rfl
      have main : ∀ (rec : Rec) (cx : Cx) (t : Tm) (h : Tr AObj) (nx : Nat) (d : List ADef) (r : Bool) (k : KN) (res : Res), cx.nt = nt → ∀ b, (t.get dg).getD undefA = .bool b →
          (bif b == want then f rec cx t h nx d r k else p undefA t fun t => k t h nx d r) = .ok res → oneA T rec cx all o ⟨t, ⟨h, nx⟩, d, r⟩ (frk k) = .ok res := by
        intro rec cx t h nx d r k res hnt b hb hh
        cases hbw : b == want with
        | true => rw [hbw] at hh; exact h1 hnt hh (by rw [hwv t b hb, hbw])
        | false =>
          rw [hbw] at hh
          obtain ⟨hd, hk⟩ := h2 hh
          subst hnt
          exact skip_one (by rw [hwv t b hb, hbw]) hd hk
      have other : ∀ (rec : Rec) (cx : Cx) (t : Tm) (h : Tr AObj) (nx : Nat) (d : List ADef) (r : Bool) (k : KN) (res : Res) (x y : RR), cx.nt = nt →
          asBool ((t.get dg).getD undefA) x y (p undefA t fun t => k t h nx d r) = .ok res → (x = .ok res → (t.get dg).getD undefA = .bool true → oneA T rec cx all o ⟨t, ⟨h, nx⟩, d, r⟩ (frk k) = .ok res) →
          (y = .ok res → (t.get dg).getD undefA = .bool false → oneA T rec cx all o ⟨t, ⟨h, nx⟩, d, r⟩ (frk k) = .ok res) → oneA T rec cx all o ⟨t, ⟨h, nx⟩, d, r⟩ (frk k) = .ok res := by
        intro rec cx t h nx d r k res x y hnt hh hx hyy
        cases hv : (t.get dg).getD undefA with
        | bool b => rw [hv] at hh; cases b with
          | true => exact hx hh hv
          | false => exact hyy hh hv
        | _ =>
          rw [hv] at hh
          obtain ⟨hd, hk⟩ := h2 (v := undefA) (t := t) (k := fun t => k t h nx d r) hh
          subst hnt
          exact skip_one (hwn t (by rw [hv]; intro b e; cases e)) hd hk
      cases hwant : want with
      | true =>
        subst hwant
        refine ⟨_, by unfold decStep; simp only [hg, e1, e2, hG, e3]; rfl, fun {rec cx t h nx d r k res} hnt hh => ?_⟩
        rw [h3] at hh
        exact other rec cx t h nx d r k res _ _ hnt hh (fun hx hb => main rec cx t h nx d r k res hnt true hb (by simpa using hx)) (fun hx hb => main rec cx t h nx d r k res hnt false hb (by simpa using hx))
      | false =>
        subst hwant
        refine ⟨_, by unfold decStep; simp only [hg, e1, e2, hG, e3]; rfl, fun {rec cx t h nx d r k res} hnt hh => ?_⟩
        rw [h3] at hh
        exact other rec cx t h nx d r k res _ _ hnt hh (fun hx hb => main rec cx t h nx d r k res hnt true hb (by simpa using hx)) (fun hx hb => main rec cx t h nx d r k res hnt false hb (by simpa using hx))
end
end Go.Ex
namespace Go.Ex
open Go Go.RowKit

section
variable {T : Tab} {B : Nat} {W : World}

def run5 (k : KN) (fr : Fr) : RR := k fr.tmps fr.st.heap fr.st.next fr.defers fr.recd

/-! ### an operation does not look at what follows it -/
theorem putF_k {cx : Cx} {fr : Fr} {st : St} {d : Option Tmp} {a : AV} {k1 : Fr → RR} {res : Res} (h : putF cx fr st d a k1 = .ok res) : ∃ fr', k1 fr' = .ok res ∧ ∀ k2 : Fr → RR, putF cx fr st d a k2 = k2 fr' := by
  obtain ⟨hd, hk⟩ := putF_eq h
  exact ⟨_, hk, fun k2 => putF_of hd⟩

theorem oneA_k {rec : Rec} {cx : Cx} {all : Array Oper} {o : Oper} {fr : Fr} {k1 : Fr → RR} {res : Res} (h : oneA T rec cx all o fr k1 = .ok res) :
    (∃ fr', k1 fr' = .ok res ∧ ∀ (rec2 : Rec) (k2 : Fr → RR), (∀ f a s p, rec2 (.call f a s p) = rec (.call f a s p)) → (∀ l a s, rec2 (.round l a s) = rec (.round l a s)) → oneA T rec2 cx all o fr k2 = k2 fr') ∨
    (∃ v fr1, res = .ext (.panic v) fr1 ∧ ∀ (rec2 : Rec) (k2 : Fr → RR), (∀ f a s p, rec2 (.call f a s p) = rec (.call f a s p)) → (∀ l a s, rec2 (.round l a s) = rec (.round l a s)) → oneA T rec2 cx all o fr k2 = .ok res) := by
  unfold oneA at h
  cases hw : Region.wanted o (yieldedA all fr.tmps) with
  | false =>
    rw [hw] at h
    obtain ⟨fr', hk, h2⟩ := putF_k h
    exact .inl ⟨fr', hk, fun rec2 k2 _ _ => by unfold oneA; rw [hw]; exact h2 k2⟩
  | true =>
    rw [hw] at h
    simp only at h
    cases hop : opA T fr.st fr.tmps o with
    | err e => rw [hop] at h; cases h
    | ok out =>
      rw [hop] at h
      have red : ∀ (rec2 : Rec) (k2 : Fr → RR), oneA T rec2 cx all o fr k2 = onOut rec2 cx o.dst fr k2 out := fun rec2 k2 => by unfold oneA; rw [hw]; simp only [hop]
      cases out with
      | val v st =>
        obtain ⟨fr', hk, h2⟩ := putF_k h
        exact .inl ⟨fr', hk, fun rec2 k2 _ _ => (red rec2 k2).trans (h2 k2)⟩
      | skip st =>
        obtain ⟨fr', hk, h2⟩ := putF_k h
        exact .inl ⟨fr', hk, fun rec2 k2 _ _ => (red rec2 k2).trans (h2 k2)⟩
      | enter f args st =>
        simp only [onOut] at h
        cases hc : rec (.call f args st none) with
        | err e => rw [hc] at h; cases h
        | ok rr =>
          rw [hc] at h
          cases rr with
          | ext e fr' => cases h
          | ret v st2 rc =>
            obtain ⟨fr', hk, h2⟩ := putF_k h
            exact .inl ⟨fr', hk, fun rec2 k2 c1 _ => by rw [red]; simp only [onOut]; rw [c1, hc]; exact h2 k2⟩
          | pan v st2 rc =>
            cases h
            exact .inr ⟨v, _, rfl, fun rec2 k2 c1 _ => by rw [red]; simp only [onOut]; rw [c1, hc]; rfl⟩
      | round l args =>
        simp only [onOut] at h
        cases hc : rec (.round l args fr.st) with
        | err e => rw [hc] at h; cases h
        | ok rr =>
          rw [hc] at h
          cases rr with
          | ext e fr' => cases h
          | ret v st2 rc =>
            obtain ⟨fr', hk, h2⟩ := putF_k h
            exact .inl ⟨fr', hk, fun rec2 k2 _ c2 => by rw [red]; simp only [onOut]; rw [c2, hc]; exact h2 k2⟩
          | pan v st2 rc =>
            cases h
            exact .inr ⟨v, _, rfl, fun rec2 k2 _ c2 => by rw [red]; simp only [onOut]; rw [c2, hc]; rfl⟩
      | defer f args =>
        simp only [onOut] at h
        cases hcr : cx.round with
        | some l => rw [hcr] at h; cases h
        | none =>
          rw [hcr] at h
          obtain ⟨fr', hk, h2⟩ := putF_k h
          exact .inl ⟨fr', hk, fun rec2 k2 _ _ => by rw [red]; simp only [onOut, hcr]; exact h2 k2⟩
      | panic v =>
        cases h
        exact .inr ⟨v, _, rfl, fun rec2 k2 _ _ => by rw [red]; rfl⟩
      | recover =>
        simp only [onOut] at h
        cases hcr : cx.round with
        | some l => rw [hcr] at h; cases h
        | none =>
          rw [hcr] at h
          simp only at h
          cases hp : cx.pan with
          | none =>
            rw [hp] at h
            obtain ⟨fr', hk, h2⟩ := putF_k h
            exact .inl ⟨fr', hk, fun rec2 k2 _ _ => by rw [red]; simp only [onOut, hcr, hp]; exact h2 k2⟩
          | some v =>
            cases hr : fr.recd with
            | true =>
              rw [hp, hr] at h
              obtain ⟨fr', hk, h2⟩ := putF_k h
              exact .inl ⟨fr', hk, fun rec2 k2 _ _ => by rw [red]; simp only [onOut, hcr, hp, hr]; exact h2 k2⟩
            | false =>
              rw [hp, hr] at h
              obtain ⟨fr', hk, h2⟩ := putF_k h
              exact .inl ⟨fr', hk, fun rec2 k2 _ _ => by rw [red]; simp only [onOut, hcr, hp, hr]; exact h2 k2⟩

/-! ### a region in the text's order -/
open Classical in
noncomputable def recAt (rec : Rec) (t0 : Task) (r0 : Res) : Rec := fun t => if t = t0 then .ok r0 else rec t
theorem recAt_sound {rec : Rec} {t0 : Task} {r0 : Res} (h : Sound T B W rec) (h0 : TaskOK T T.ng B W t0 r0) : Sound T B W (recAt rec t0 r0) := by
  intro t r hr
  unfold recAt at hr
  split at hr
  · rename_i e; subst e; cases hr; exact h0
  · exact h t r hr
theorem recAt_same {rec : Rec} {t0 : Task} {r0 : Res} : recAt rec t0 r0 t0 = .ok r0 := by unfold recAt; rw [if_pos rfl]
theorem recAt_other {rec : Rec} {t0 t : Task} {r0 : Res} (h : t ≠ t0) : recAt rec t0 r0 t = rec t := by unfold recAt; rw [if_neg h]

theorem decOps_ok (hT : TabOK T) (nt : Nat) (all : Array Oper) : ∀ l : List Oper, ∃ g, decOps T nt all l = .mk g ∧ ∀ {rec : Rec} {cx : Cx} {fr : Fr} {k : KN} {res : Res}, Sound T B W rec → cx.nt = nt →
    g rec cx fr.tmps fr.st.heap fr.st.next fr.defers fr.recd k = .ok res →
    (∃ fr', TaskOK T T.ng B W (.ops cx all l fr) (.ext .normal fr') ∧ run5 k fr' = .ok res) ∨ (∃ v fr', res = .ext (.panic v) fr' ∧ TaskOK T T.ng B W (.ops cx all l fr) res)
  | [] => ⟨_, rfl, fun {rec cx fr k res} hrec hnt hh => .inl ⟨fr, doOps_ok hT hrec rfl, hh⟩⟩
  | o :: l => by
    obtain ⟨f, e1, h1⟩ := decStep_ok (T := T) (nt := nt) (all := all) (o := o) hT
    obtain ⟨g, e2, h2⟩ := decOps_ok hT nt all l
    refine ⟨fun rec cx t h nx d r k => f rec cx t h nx d r fun t h nx d r => g rec cx t h nx d r k, ?_, fun {rec cx fr k res} hrec hnt hh => ?_⟩
    · show DStep.rec (motive := fun _ => DStep) (fun f => .mk fun rec cx t h nx d r k => f rec cx t h nx d r fun t h nx d r => DStep.rec (motive := fun _ => RR) (fun g => g rec cx t h nx d r k) (decOps T nt all l)) (decStep T nt all o) = _
      rw [e1, e2]
    · have hone := h1 hnt hh
      have hfr : (⟨fr.tmps, ⟨fr.st.heap, fr.st.next⟩, fr.defers, fr.recd⟩ : Fr) = fr := rfl
      rw [hfr] at hone
      rcases oneA_k hone with ⟨fr1, hk, hgo⟩ | ⟨v, fr1, rfl, hgo⟩
      · rw [frk_eq] at hk
        have fin : ∀ r1 : Res, TaskOK T T.ng B W (.ops cx all l fr1) r1 → TaskOK T T.ng B W (.ops cx all (o :: l) fr) r1 := by
          intro r1 hr1
          refine doOps_ok hT (recAt_sound hrec hr1) (rec := recAt rec (.ops cx all l fr1) r1) ?_
          show oneA T (recAt rec (.ops cx all l fr1) r1) cx all o fr (fun fr => recAt rec (.ops cx all l fr1) r1 (.ops cx all l fr)) = _
          rw [hgo _ _ (fun f a s p => recAt_other (by intro e; cases e)) (fun f a s => recAt_other (by intro e; cases e))]
          exact recAt_same
        rcases h2 hrec hnt hk with ⟨fr', hok, hk'⟩ | ⟨v, fr', rfl, hok⟩
        · exact .inl ⟨fr', fin _ hok, hk'⟩
        · exact .inr ⟨v, fr', rfl, fin _ hok⟩
      · refine .inr ⟨v, fr1, rfl, doOps_ok hT hrec ?_⟩
        exact hgo rec _ (fun _ _ _ _ => rfl) (fun _ _ _ => rfl)

/-! ### code -/
theorem resK_ok {kn : KN} {kx : Ext → KN} {x : RR} {res : Res} (h : resK kn kx x = .ok res) :
    (∃ fr', x = .ok (.ext .normal fr') ∧ run5 kn fr' = .ok res) ∨ (∃ e fr', e ≠ .normal ∧ x = .ok (.ext e fr') ∧ run5 (kx e) fr' = .ok res) ∨ (∃ v fr', x = .ok (.ext (.panic v) fr') ∧ res = .ext (.panic v) fr') := by
  cases x with
  | err e => cases h
  | ok rr =>
    cases rr with
    | ret => cases h
    | pan => cases h
    | ext e fr =>
      cases e with
      | normal => exact .inl ⟨fr, rfl, (frk_eq kn fr).symm.trans h⟩
      | exit id => exact .inr (.inl ⟨_, fr, (by intro e; cases e), rfl, (frk_eq (kx (.exit id)) fr).symm.trans h⟩)
      | goto l => exact .inr (.inl ⟨_, fr, (by intro e; cases e), rfl, (frk_eq (kx (.goto l)) fr).symm.trans h⟩)
      | ret => exact .inr (.inl ⟨_, fr, (by intro e; cases e), rfl, (frk_eq (kx .ret) fr).symm.trans h⟩)
      | panic v => cases h; exact .inr (.inr ⟨v, fr, rfl, rfl⟩)

/-- where code has come to -/
def Done (T : Tab) (B : Nat) (W : World) (cx : Cx) (c : Code) (fr : Fr) (kn : KN) (kx : Ext → KN) (res : Res) : Prop :=
  (∃ fr', TaskOK T T.ng B W (.code cx c fr) (.ext .normal fr') ∧ run5 kn fr' = .ok res) ∨ (∃ e fr', e ≠ .normal ∧ TaskOK T T.ng B W (.code cx c fr) (.ext e fr') ∧ run5 (kx e) fr' = .ok res) ∨
  (∃ v fr', res = .ext (.panic v) fr' ∧ TaskOK T T.ng B W (.code cx c fr) res)

def COK (T : Tab) (B : Nat) (W : World) (nt : Nat) (c : Code) : Prop := ∃ f, decC T nt c = .mk f ∧ ∀ {rec : Rec} {cx : Cx} {fr : Fr} {kn : KN} {kx : Ext → KN} {res : Res}, Sound T B W rec → cx.nt = nt →
  f rec cx fr.tmps fr.st.heap fr.st.next fr.defers fr.recd kn kx = .ok res → Done T B W cx c fr kn kx res

theorem Done.of_res {cx : Cx} {c : Code} {fr : Fr} {kn : KN} {kx : Ext → KN} {x : RR} {res : Res} (hx : ∀ r, x = .ok r → TaskOK T T.ng B W (.code cx c fr) r) (h : resK kn kx x = .ok res) : Done T B W cx c fr kn kx res := by
  rcases resK_ok h with ⟨fr', e, hk⟩ | ⟨e, fr', hne, he, hk⟩ | ⟨v, fr', e, rfl⟩
  · exact .inl ⟨fr', hx _ e, hk⟩
  · exact .inr (.inl ⟨e, fr', hne, hx _ he, hk⟩)
  · exact .inr (.inr ⟨v, fr', rfl, hx _ e⟩)

theorem seq_normal {cx : Cx} {a b : Code} {fr fr1 : Fr} {r : Res} (h1 : TaskOK T T.ng B W (.code cx a fr) (.ext .normal fr1)) (h2 : TaskOK T T.ng B W (.code cx b fr1) r) : TaskOK T T.ng B W (.code cx (.seq a b) fr) r := by
  intro φ E tmps ds w k hs hf
  refine CodeRes.start (Steps.one (st_seq hf.env.mode rfl)) ?_
  show CodeRes T T.ng B W φ cx E (mac E tmps (.code a :: .code b :: k) ds fr.recd w) k r
  exact (h1 φ E tmps ds w (.code b :: k) hs hf).seq fun φ' tmps' ds' w' hs' hf' => h2 φ' E tmps' ds' w' k hs' hf'
theorem seq_exit {cx : Cx} {a b : Code} {fr fr1 : Fr} {e : Ext} (he : e ≠ .normal) (h1 : TaskOK T T.ng B W (.code cx a fr) (.ext e fr1)) : TaskOK T T.ng B W (.code cx (.seq a b) fr) (.ext e fr1) := by
  intro φ E tmps ds w k hs hf
  refine CodeRes.start (Steps.one (st_seq hf.env.mode rfl)) ?_
  exact (h1 φ E tmps ds w (.code b :: k) hs hf).pass rfl he

theorem again_normal {cx : Cx} {c : Code} {fr fr1 : Fr} {r : Res} (h1 : TaskOK T T.ng B W (.code cx c fr) (.ext .normal fr1)) (h2 : TaskOK T T.ng B W (.again cx c fr1) r) :
    TaskOK T T.ng B W (.code cx (.loop c) fr) r ∧ TaskOK T T.ng B W (.again cx c fr) r := by
  have body : ∀ φ E tmps ds w k, SR T.ng B W φ fr.st w → FR φ cx fr E tmps ds → CodeRes T T.ng B W φ cx E (mac E tmps (.code c :: .inLoop c :: k) ds fr.recd w) k r := fun φ E tmps ds w k hs hf =>
    (h1 φ E tmps ds w (.inLoop c :: k) hs hf).seq fun φ' tmps' ds' w' hs' hf' => h2 φ' E tmps' ds' w' k hs' hf'
  exact ⟨fun φ E tmps ds w k hs hf => CodeRes.start (Steps.one (st_loop hf.env.mode rfl)) (body φ E tmps ds w k hs hf), fun φ E tmps ds w k hs hf => CodeRes.start (Steps.one (st_inLoop hf.env.mode rfl)) (body φ E tmps ds w k hs hf)⟩
theorem again_exit {cx : Cx} {c : Code} {fr fr1 : Fr} {e : Ext} (he : e ≠ .normal) (h1 : TaskOK T T.ng B W (.code cx c fr) (.ext e fr1)) :
    TaskOK T T.ng B W (.code cx (.loop c) fr) (.ext e fr1) ∧ TaskOK T T.ng B W (.again cx c fr) (.ext e fr1) := by
  have body : ∀ φ E tmps ds w k, SR T.ng B W φ fr.st w → FR φ cx fr E tmps ds → CodeRes T T.ng B W φ cx E (mac E tmps (.code c :: .inLoop c :: k) ds fr.recd w) k (.ext e fr1) := fun φ E tmps ds w k hs hf =>
    (h1 φ E tmps ds w (.inLoop c :: k) hs hf).pass rfl he
  exact ⟨fun φ E tmps ds w k hs hf => CodeRes.start (Steps.one (st_loop hf.env.mode rfl)) (body φ E tmps ds w k hs hf), fun φ E tmps ds w k hs hf => CodeRes.start (Steps.one (st_inLoop hf.env.mode rfl)) (body φ E tmps ds w k hs hf)⟩

theorem noRec : Sound T B W fun _ => .err 0 := fun t r h => by cases h

theorem block_of {cx : Cx} {id : Nat} {c : Code} {fr fr1 : Fr} {e : Ext} (h1 : TaskOK T T.ng B W (.code cx c fr) (.ext e fr1)) :
    TaskOK T T.ng B W (.code cx (.block id c) fr) (.ext (bif exitIs id e then .normal else e) fr1) := by
  refine doBlock_ok (rec := recAt (fun _ => .err 0) (.code cx c fr) (.ext e fr1)) (recAt_sound noRec h1) ?_
  unfold doBlock
  rw [recAt_same]
  cases e with
  | exit id' =>
    simp only [exitIs]
    cases Nat.beq id' id <;> rfl
  | _ => rfl

theorem cond_of {cx : Cx} {x : Operand} {a b : Code} {fr : Fr} {v : Bool} {r : Res} (hx : evA T fr.tmps x = .ok (.bool v)) (h1 : TaskOK T T.ng B W (.code cx (bif v then a else b) fr) r) : TaskOK T T.ng B W (.code cx (.cond x a b) fr) r := by
  refine doCond_ok (rec := recAt (fun _ => .err 0) (.code cx (bif v then a else b) fr) r) (recAt_sound noRec h1) ?_
  unfold doCond
  rw [hx]
  cases v <;> exact recAt_same

theorem region_of (hT : TabOK T) {cx : Cx} {id : Nat} {ops : Array Oper} {fr : Fr} {r : Res} (h1 : TaskOK T T.ng B W (.ops cx ops ops.toList fr) r) : TaskOK T T.ng B W (.code cx (.region id ops false) fr) r :=
  doRegion_ok (rec := recAt (fun _ => .err 0) (.ops cx ops ops.toList fr) r) (recAt_sound noRec h1) hT (by unfold doRegion; exact recAt_same)

theorem decC_ok (hT : TabOK T) (nt : Nat) (c : Code) : COK T B W nt c := by
  induction c with
  | skip => exact ⟨_, rfl, fun {rec cx fr kn kx res} hrec hnt hh => .inl ⟨fr, doCode_ok noRec hT (c := .skip) (rec := fun _ => .err 0) rfl, hh⟩⟩
  | label l => exact ⟨_, rfl, fun {rec cx fr kn kx res} hrec hnt hh => .inl ⟨fr, doCode_ok noRec hT (c := .label l) (rec := fun _ => .err 0) rfl, hh⟩⟩
  | exit id => exact ⟨_, rfl, fun {rec cx fr kn kx res} hrec hnt hh => .inr (.inl ⟨.exit id, fr, (by intro e; cases e), doCode_ok noRec hT (c := .exit id) (rec := fun _ => .err 0) rfl, hh⟩)⟩
  | goto l => exact ⟨_, rfl, fun {rec cx fr kn kx res} hrec hnt hh => .inr (.inl ⟨.goto l, fr, (by intro e; cases e), doCode_ok noRec hT (c := .goto l) (rec := fun _ => .err 0) rfl, hh⟩)⟩
  | ret => exact ⟨_, rfl, fun {rec cx fr kn kx res} hrec hnt hh => .inr (.inl ⟨.ret, fr, (by intro e; cases e), doCode_ok noRec hT (c := .ret) (rec := fun _ => .err 0) rfl, hh⟩)⟩
  | refuse why => exact ⟨_, rfl, fun hrec hnt hh => by cases hh⟩
  | region id ops draw =>
    cases draw with
    | true => exact ⟨_, rfl, fun {rec cx fr kn kx res} hrec hnt hh => Done.of_res (fun r hr => doRegion_ok hrec hT (id := id) hr) hh⟩
    | false =>
      obtain ⟨g, e1, h1⟩ := decOps_ok (B := B) (W := W) hT nt ops ops.toList
      refine ⟨fun rec cx t h nx d r kn _ => g rec cx t h nx d r kn, ?_, fun {rec cx fr kn kx res} hrec hnt hh => ?_⟩
      · show DStep.rec (motive := fun _ => DC) (fun g => .mk fun rec cx t h nx d r kn _ => g rec cx t h nx d r kn) (decOps T nt ops ops.toList) = _
        rw [e1]
      · rcases h1 hrec hnt hh with ⟨fr', hok, hk⟩ | ⟨v, fr', rfl, hok⟩
        · exact .inl ⟨fr', region_of hT hok, hk⟩
        · exact .inr (.inr ⟨v, fr', rfl, region_of hT hok⟩)
  | seq a b iha ihb =>
    obtain ⟨fa, e1, h1⟩ := iha
    obtain ⟨fb, e2, h2⟩ := ihb
    refine ⟨fun rec cx t h nx d r kn kx => fa rec cx t h nx d r (fun t h nx d r => fb rec cx t h nx d r kn kx) kx, ?_, fun {rec cx fr kn kx res} hrec hnt hh => ?_⟩
    · show DC.rec (motive := fun _ => DC) (fun f => .mk fun rec cx t h nx d r kn kx => f rec cx t h nx d r (fun t h nx d r => DC.rec (motive := fun _ => RR) (fun g => g rec cx t h nx d r kn kx) (decC T nt b)) kx) (decC T nt a) = _
      rw [e1, e2]
    · rcases h1 hrec hnt hh with ⟨fr1, hok, hk⟩ | ⟨e, fr1, hne, hok, hk⟩ | ⟨v, fr1, rfl, hok⟩
      · rcases h2 hrec hnt hk with ⟨fr2, hok2, hk2⟩ | ⟨e, fr2, hne, hok2, hk2⟩ | ⟨v, fr2, rfl, hok2⟩
        · exact .inl ⟨fr2, seq_normal hok hok2, hk2⟩
        · exact .inr (.inl ⟨e, fr2, hne, seq_normal hok hok2, hk2⟩)
        · exact .inr (.inr ⟨v, fr2, rfl, seq_normal hok hok2⟩)
      · exact .inr (.inl ⟨e, fr1, hne, seq_exit hne hok, hk⟩)
      · exact .inr (.inr ⟨v, fr1, rfl, seq_exit (by intro e; cases e) hok⟩)
  | cond x a b iha ihb =>
    obtain ⟨fx, e0, h0⟩ := decOpd_ok (T := T) x
    obtain ⟨fa, e1, h1⟩ := iha
    obtain ⟨fb, e2, h2⟩ := ihb
    refine ⟨fun rec cx t h nx d r kn kx => fx t fun v => asBool v (fa rec cx t h nx d r kn kx) (fb rec cx t h nx d r kn kx) (.err 130), ?_, fun {rec cx fr kn kx res} hrec hnt hh => ?_⟩
    · show DOp.rec (motive := fun _ => DC) (fun fc => .mk fun rec cx t h nx d r kn kx => fc t fun v => asBool v (DC.rec (motive := fun _ => RR) (fun g => g rec cx t h nx d r kn kx) (decC T nt a)) (DC.rec (motive := fun _ => RR) (fun g => g rec cx t h nx d r kn kx) (decC T nt b)) (.err 130)) (decOpd T x) = _
      rw [e0, e1, e2]
    · obtain ⟨v, hv, hk⟩ := h0 hh
      replace hk := asBool_ok hk
      rcases hk with ⟨hk, he⟩ | ⟨hk, he⟩ | hk
      · subst he
        rcases h1 hrec hnt hk with ⟨fr2, hok2, hk2⟩ | ⟨e, fr2, hne, hok2, hk2⟩ | ⟨v, fr2, rfl, hok2⟩
        · exact .inl ⟨fr2, cond_of hv hok2, hk2⟩
        · exact .inr (.inl ⟨e, fr2, hne, cond_of hv hok2, hk2⟩)
        · exact .inr (.inr ⟨v, fr2, rfl, cond_of hv hok2⟩)
      · subst he
        rcases h2 hrec hnt hk with ⟨fr2, hok2, hk2⟩ | ⟨e, fr2, hne, hok2, hk2⟩ | ⟨v, fr2, rfl, hok2⟩
        · exact .inl ⟨fr2, cond_of hv hok2, hk2⟩
        · exact .inr (.inl ⟨e, fr2, hne, cond_of hv hok2, hk2⟩)
        · exact .inr (.inr ⟨v, fr2, rfl, cond_of hv hok2⟩)
      · cases hk
  | block id c ih =>
    obtain ⟨f, e1, h1⟩ := ih
    refine ⟨fun rec cx t h nx d r kn kx => f rec cx t h nx d r kn fun e t h nx d r => Bool.rec (motive := fun _ => RR) (kx e t h nx d r) (kn t h nx d r) (exitIs id e), ?_, fun {rec cx fr kn kx res} hrec hnt hh => ?_⟩
    · show DC.rec (motive := fun _ => DC) (fun f => .mk fun rec cx t h nx d r kn kx => f rec cx t h nx d r kn fun e t h nx d r => Bool.rec (motive := fun _ => RR) (kx e t h nx d r) (kn t h nx d r) (exitIs id e)) (decC T nt c) = _
      rw [e1]
    · rcases h1 hrec hnt hh with ⟨fr1, hok, hk⟩ | ⟨e, fr1, hne, hok, hk⟩ | ⟨v, fr1, rfl, hok⟩
      · exact .inl ⟨fr1, block_of (id := id) hok, hk⟩
      · have hb := block_of (id := id) hok
        rcases bool_rec_ok (show Bool.rec (motive := fun _ => RR) (run5 (kx e) fr1) (run5 kn fr1) (exitIs id e) = .ok res from hk) with ⟨he, hk⟩ | ⟨he, hk⟩
        · rw [he] at hb; exact .inl ⟨fr1, hb, hk⟩
        · rw [he] at hb; exact .inr (.inl ⟨e, fr1, hne, hb, hk⟩)
      · exact .inr (.inr ⟨v, fr1, rfl, block_of (id := id) hok⟩)
  | loop c ih =>
    obtain ⟨f, e1, h1⟩ := ih
    refine ⟨fun rec cx t h nx d r kn kx => f rec cx t h nx d r (fun t h nx d r => resK kn kx (rec (.again cx c ⟨t, ⟨h, nx⟩, d, r⟩))) kx, ?_, fun {rec cx fr kn kx res} hrec hnt hh => ?_⟩
    · show DC.rec (motive := fun _ => DC) (fun f => .mk fun rec cx t h nx d r kn kx => f rec cx t h nx d r (fun t h nx d r => resK kn kx (rec (.again cx c ⟨t, ⟨h, nx⟩, d, r⟩))) kx) (decC T nt c) = _
      rw [e1]
    · rcases h1 hrec hnt hh with ⟨fr1, hok, hk⟩ | ⟨e, fr1, hne, hok, hk⟩ | ⟨v, fr1, rfl, hok⟩
      · exact Done.of_res (fun r hr => (again_normal hok (hrec _ _ hr)).1) hk
      · exact .inr (.inl ⟨e, fr1, hne, (again_exit hne hok).1, hk⟩)
      · exact .inr (.inr ⟨v, fr1, rfl, (again_exit (by intro e; cases e) hok).1⟩)
  | rangeFunc f ps a b _ _ => exact ⟨_, rfl, fun {rec cx fr kn kx res} hrec hnt hh => Done.of_res (fun r hr => doRangeFunc_ok hT hrec hr) hh⟩
  | scope c _ =>
    exact ⟨_, rfl, fun {rec cx fr kn kx res} hrec hnt hh => Done.of_res (fun r hr => fun φ E tmps ds w k hs hf => CodeRes.start (Steps.one (st_scope hf.env.mode rfl)) ((show TaskOK T T.ng B W (.scope cx c c fr) r from hrec _ _ hr) φ E tmps ds w k hs hf)) hh⟩
end
end Go.Ex
namespace Go.Ex
open Go Go.RowKit

section
variable {T : Tab} {B : Nat} {W : World}

theorem argsK_eq : ∀ (l : List AV) (i : Nat) (t : Tm) (k : Tm → RR), argsK l i t k = k (initT i l t)
  | [], i, t, k => rfl
  | a :: l, i, t, k => by
    obtain ⟨g, s, e, _, h2⟩ := slot_ok i
    show Slot.rec (motive := fun _ => RR) (fun _ s => s a t fun t => argsK l (Nat.succ i) t k) (slot i) = _
    rw [e]
    simp only [h2, argsK_eq l]
    simp only [initT, forceTm_eq]

theorem one_ok {l : List AV} {k : KA} : one l k = k (oneOrTuple l) := by
  match l with
  | [] => rfl
  | [a] => rfl
  | a :: b :: l => rfl

theorem resTmps_ok : ∀ {l : List ResultVar} {xs : List Operand}, resTmps l = some xs → ∀ {s : St} {t : Tm} {vs : List AV}, evAs T t xs = .ok vs → resultsA T s t l = .ok vs
  | [], xs, h, s, t, vs, hv => by cases h; exact hv
  | .tmp i :: l, xs, h, s, t, vs, hv => by
    unfold resTmps at h
    cases hr : resTmps l with
    | none => rw [hr] at h; cases h
    | some r =>
      rw [hr] at h
      cases h
      simp only [evAs] at hv
      obtain ⟨a, ha, hv⟩ := R.bind_ok hv
      obtain ⟨as, has, hv⟩ := R.bind_ok hv
      cases hv
      simp only [resultsA, ha, resTmps_ok hr has, R.bind]
  | .cell a ty :: l, xs, h, s, t, vs, hv => by cases h

theorem decRes_ok (l : List ResultVar) : ∃ q, decRes T l = .mk q ∧ ∀ {t : Tm} {h : Tr AObj} {nx : Nat} {k : KA} {res : Res}, q t h nx k = .ok res → ∃ vs, resultsA T ⟨h, nx⟩ t l = .ok vs ∧ k (oneOrTuple vs) = .ok res := by
  cases hr : resTmps l with
  | none =>
    refine ⟨_, by unfold decRes; simp only [hr]; rfl, fun {t h nx k res} hh => ?_⟩
    cases hx : resultsA T ⟨h, nx⟩ t l with
    | err e => rw [hx] at hh; cases hh
    | ok vs =>
      rw [hx] at hh
      simp only [fL_eq, one_ok] at hh
      exact ⟨vs, rfl, hh⟩
  | some xs =>
    obtain ⟨f, e1, h1⟩ := decOpds_ok (T := T) xs
    refine ⟨_, by unfold decRes; simp only [hr, e1]; rfl, fun {t h nx k res} hh => ?_⟩
    obtain ⟨vs, hvs, hk⟩ := h1 hh
    rw [one_ok] at hk
    exact ⟨vs, resTmps_ok hr hvs, hk⟩

open Classical in
noncomputable def rec2 (t0 : Task) (r0 : Res) (t1 : Task) (r1 : Res) : Rec := fun t => if t = t0 then .ok r0 else if t = t1 then .ok r1 else .err 0
theorem rec2_sound {t0 t1 : Task} {r0 r1 : Res} (h0 : TaskOK T T.ng B W t0 r0) (h1 : TaskOK T T.ng B W t1 r1) : Sound T B W (rec2 t0 r0 t1 r1) := by
  intro t r hr
  unfold rec2 at hr
  split at hr
  · rename_i e; subst e; cases hr; exact h0
  · split at hr
    · rename_i e; subst e; cases hr; exact h1
    · cases hr

theorem call_rel (hT : TabOK T) {f : FuncId} {fn : Func} {c : Code} {args : List AV} {st : St} {pan : Option AV} (hf : T.func f = some fn) (hb : fn.body = some c) {nt : Nat} (hnt : max fn.ntmps args.length = nt)
    {e : Ext} {fr1 : Fr} {p : Option AV} {r : Res} (h1 : TaskOK T T.ng B W (.code ⟨f, nt, none, pan⟩ c ⟨initT 0 args Tm.nil, st, [], false⟩) (.ext e fr1)) (h2 : TaskOK T T.ng B W (.leave ⟨f, nt, none, pan⟩ fn p fr1) r)
    (hep : (e = .normal ∧ p = none) ∨ (e = .ret ∧ p = none) ∨ (∃ v, e = .panic v ∧ p = some v)) : TaskOK T T.ng B W (.call f args st pan) r := by
  subst hnt
  refine doCall_ok (rec := rec2 (.code ⟨f, max fn.ntmps args.length, none, pan⟩ c ⟨initT 0 args Tm.nil, st, [], false⟩) (.ext e fr1) (.leave ⟨f, max fn.ntmps args.length, none, pan⟩ fn p fr1) r) (rec2_sound h1 h2) hT ?_
  have q1 : rec2 (.code ⟨f, max fn.ntmps args.length, none, pan⟩ c ⟨initT 0 args Tm.nil, st, [], false⟩) (.ext e fr1) (.leave ⟨f, max fn.ntmps args.length, none, pan⟩ fn p fr1) r (.code ⟨f, max fn.ntmps args.length, none, pan⟩ c ⟨initT 0 args Tm.nil, st, [], false⟩) = .ok (.ext e fr1) := by
    unfold rec2; rw [if_pos rfl]
  have q2 : rec2 (.code ⟨f, max fn.ntmps args.length, none, pan⟩ c ⟨initT 0 args Tm.nil, st, [], false⟩) (.ext e fr1) (.leave ⟨f, max fn.ntmps args.length, none, pan⟩ fn p fr1) r (.leave ⟨f, max fn.ntmps args.length, none, pan⟩ fn p fr1) = .ok r := by
    unfold rec2; rw [if_neg (by intro e; cases e), if_pos rfl]
  unfold doCall
  simp only [hf, hb, q1]
  rcases hep with ⟨rfl, rfl⟩ | ⟨rfl, rfl⟩ | ⟨v, rfl, rfl⟩ <;> exact q2

theorem leave_rel (hT : TabOK T) {cx : Cx} {fn : Func} {fr : Fr} {vs : List AV} (hd : fr.defers = []) (hv : resultsA T fr.st fr.tmps fn.results.toList = .ok vs) : TaskOK T T.ng B W (.leave cx fn none fr) (.ret (oneOrTuple vs) fr.st fr.recd) := by
  refine doLeave_ok noRec hT (rec := fun _ => .err 0) ?_
  unfold doLeave
  rw [hd]
  simp only [leaveEnd, hv]
  rfl

theorem finK_ok (hT : TabOK T) {cx : Cx} {fn : Func} {q : Tm → Tr AObj → Nat → KA → RR} (hq : ∀ {t : Tm} {h : Tr AObj} {nx : Nat} {k : KA} {res : Res}, q t h nx k = .ok res → ∃ vs, resultsA T ⟨h, nx⟩ t fn.results.toList = .ok vs ∧ k (oneOrTuple vs) = .ok res)
    {fr : Fr} {res : Res} (h : run5 (finK q) fr = .ok res) : (TaskOK T T.ng B W (.leave cx fn none fr) res ∧ ∃ v st r, res = .ret v st r) ∨ res = .ext .ret fr := by
  obtain ⟨t, ⟨hp, nx⟩, d, r⟩ := fr
  cases d with
  | nil =>
    obtain ⟨vs, hvs, hk⟩ := hq (show q t hp nx (fun v => .ok (.ret v ⟨hp, nx⟩ r)) = .ok res from h)
    cases hk
    exact .inl ⟨leave_rel hT rfl hvs, _, _, _, rfl⟩
  | cons a l =>
    have h' : (.ok (.ext .ret ⟨t, ⟨hp, nx⟩, a :: l, r⟩) : RR) = .ok res := h
    cases h'
    exact .inr rfl

theorem callF_ok (hT : TabOK T) {rec : Rec} (hrec : Sound T B W rec) {f : FuncId} {args : List AV} {h : Tr AObj} {nx : Nat} {pan : Option AV} {res : Res} (hh : callF T rec f args h nx pan = .ok res) : TaskOK T T.ng B W (.call f args ⟨h, nx⟩ pan) res := by
  unfold callF at hh
  cases hf : T.func f with
  | none =>
    have : decF T f = .bad := by unfold decF; rw [hf]
    rw [this] at hh; cases hh
  | some fn =>
    cases hb : fn.body with
    | none =>
      have : decF T f = .bad := by unfold decF; rw [hf]; simp only [hb]
      rw [this] at hh; cases hh
    | some c =>
      obtain ⟨g, e1, h1⟩ := decC_ok (B := B) (W := W) hT fn.ntmps c
      obtain ⟨q, e2, h2⟩ := decRes_ok (T := T) fn.results.toList
      have : decF T f = .mk fn.ntmps fn g q := by unfold decF; rw [hf]; simp only [hb, forceN_eq, e1, e2]
      rw [this] at hh
      rcases bool_rec_ok hh with ⟨hle, hh⟩ | ⟨_, hh⟩
      · have hle := Nat.le_of_ble_eq_true hle
        rw [lenB_eq] at hle
        have hmax : max fn.ntmps args.length = fn.ntmps := Nat.max_eq_left hle
        rw [argsK_eq] at hh
        cases hx : g rec ⟨f, fn.ntmps, none, pan⟩ (initT 0 args Tm.nil) h nx [] false (finK q) (retK q) with
        | err e => rw [hx] at hh; cases hh
        | ok xr =>
          rw [hx] at hh
          have hdone := h1 (fr := ⟨initT 0 args Tm.nil, ⟨h, nx⟩, [], false⟩) hrec rfl hx
          -- the code came to its end, or returned
          have fin : ∀ (e : Ext) (fr' : Fr), (e = .normal ∨ e = .ret) → TaskOK T T.ng B W (.code ⟨f, fn.ntmps, none, pan⟩ c ⟨initT 0 args Tm.nil, ⟨h, nx⟩, [], false⟩) (.ext e fr') → run5 (finK q) fr' = .ok xr → TaskOK T T.ng B W (.call f args ⟨h, nx⟩ pan) res := by
            intro e fr' he hok hk
            have hep : (e = .normal ∧ (none : Option AV) = none) ∨ (e = .ret ∧ (none : Option AV) = none) ∨ (∃ v, e = .panic v ∧ (none : Option AV) = some v) := by
              rcases he with rfl | rfl
              · exact .inl ⟨rfl, rfl⟩
              · exact .inr (.inl ⟨rfl, rfl⟩)
            rcases finK_ok (B := B) (W := W) (cx := ⟨f, fn.ntmps, none, pan⟩) hT h2 hk with ⟨hl, v, st, r, rfl⟩ | rfl
            · have hh' : (.ok (.ret v st r) : RR) = .ok res := hh
              cases hh'
              exact call_rel hT hf hb hmax hok hl hep
            · exact call_rel hT hf hb hmax hok (hrec _ _ hh) hep
          rcases hdone with ⟨fr', hok, hk⟩ | ⟨e, fr', hne, hok, hk⟩ | ⟨v, fr', rfl, hok⟩
          · exact fin _ _ (.inl rfl) hok hk
          · cases e with
            | ret => exact fin _ _ (.inr rfl) hok hk
            | normal => exact absurd rfl hne
            | _ => cases hk
          · exact call_rel hT hf hb hmax hok (hrec _ _ hh) (.inr (.inr ⟨v, rfl, rfl⟩))
      · cases hh

theorem loadOf_ok {op : Op} {ty : TypeId} {a : Operand} (h : loadOf op = some (ty, a)) : op = .load ty a := by
  cases op <;> simp [loadOf] at h
  obtain ⟨rfl, rfl⟩ := h
  rfl

theorem decNote_ok (all : Array Oper) (o : Oper) : ∃ q, decNote T all o = .mk q ∧ ∀ {i : Nat} {fr fr' : Fr} {lds : List Ld} {sn : List (Nat × St × St)} {k : List Ld → List (Nat × St × St) → RR} {res : Res},
    q i fr.tmps fr.st.heap fr.st.next fr.defers fr.recd fr'.tmps fr'.st.heap fr'.st.next fr'.defers fr'.recd lds sn k = .ok res → noteDraw T all i o fr fr' lds sn k = .ok res := by
  cases hg : o.guard with
  | some gw => exact ⟨_, by unfold decNote; simp only [hg]; rfl, fun hh => hh⟩
  | none =>
    have hw : ∀ t, Region.wanted o (yieldedA all t) = true := fun t => wanted_none hg _
    cases hl : loadOf o.op with
    | some p =>
      obtain ⟨ty, a⟩ := p
      have ho := loadOf_ok hl
      obtain ⟨fa, e1, h1⟩ := decOpd_ok (T := T) a
      obtain ⟨fv, e2, h2⟩ := vLoad_ok' (T := T) (ty := ty) (a := a)
      refine ⟨_, by unfold decNote; simp only [hg, hl, e1, e2]; rfl, fun {i fr fr' lds sn k res} hh => ?_⟩
      obtain ⟨av, ha, hk⟩ := h1 hh
      obtain ⟨p, x, hp, hx, hk⟩ := h2 hk
      rw [ha] at hp
      cases hp
      unfold noteDraw
      rw [hw, ho]
      simp only [ha, R.bind]
      have hx' : loadA T fr.st ty av = .ok x := hx
      rw [hx']
      simp only [forceA_eq]
      exact hk
    | none =>
      have hno : ∀ ty a, o.op ≠ .load ty a := fun ty a e => by rw [e] at hl; cases hl
      have red : ∀ (i : Nat) (fr fr' : Fr) (lds : List Ld) (sn : List (Nat × St × St)) (k : List Ld → List (Nat × St × St) → RR), noteDraw T all i o fr fr' lds sn k = bif isPure T o.op then k lds sn else k lds ((i, fr.st, fr'.st) :: sn) := by
        intro i fr fr' lds sn k
        unfold noteDraw
        rw [hw]
        simp only
      cases hp : isPure T o.op with
      | true => exact ⟨_, by unfold decNote; simp only [hg, hl, hp]; rfl, fun hh => by rw [red, hp]; exact hh⟩
      | false => exact ⟨_, by unfold decNote; simp only [hg, hl, hp]; rfl, fun hh => by rw [red, hp]; exact hh⟩

theorem drawF_ok (hT : TabOK T) {rec : Rec} (hrec : Sound T B W rec) {cx : Cx} {all : Array Oper} {i : Nat} {l : List Oper} {fr : Fr} {lds : List Ld} {sn : List (Nat × St × St)} {res : Res} (h : drawF T rec cx all i l fr lds sn = .ok res) :
    TaskOK T T.ng B W (.draw cx all i l fr lds sn) res := by
  refine doDraw_ok hT hrec ?_
  cases l with
  | nil => exact h
  | cons o l =>
    obtain ⟨fn, nt, rd, pan⟩ := cx
    obtain ⟨t, ⟨hp, nx⟩, d, r⟩ := fr
    obtain ⟨f, e1, h1⟩ := decStep_ok (T := T) (nt := nt) (all := all) (o := o) hT
    obtain ⟨q, e2, h2⟩ := decNote_ok (T := T) all o
    have hh : f rec ⟨fn, nt, rd, pan⟩ t hp nx d r (fun t' h' nx' d' r' => q i t hp nx d r t' h' nx' d' r' lds sn fun lds sn => fN (Nat.succ i) fun i => rec (.draw ⟨fn, nt, rd, pan⟩ all i l ⟨t', ⟨h', nx'⟩, d', r'⟩ lds sn)) = .ok res := by
      unfold drawF at h
      simp only [e1, e2] at h
      exact h
    have hone := h1 rfl hh
    show oneA T rec ⟨fn, nt, rd, pan⟩ all o ⟨t, ⟨hp, nx⟩, d, r⟩ (fun fr' => noteDraw T all i o ⟨t, ⟨hp, nx⟩, d, r⟩ fr' lds sn fun lds sn => forceN (i + 1) fun i => rec (.draw ⟨fn, nt, rd, pan⟩ all i l fr' lds sn)) = .ok res
    rcases oneA_k hone with ⟨fr1, hk, hgo⟩ | ⟨v, fr1, rfl, hgo⟩
    · rw [hgo rec _ (fun _ _ _ _ => rfl) (fun _ _ _ => rfl)]
      rw [frk_eq] at hk
      refine h2 ?_
      simp only [forceN_eq]
      simp only [fN_eq] at hk
      exact hk
    · exact hgo rec _ (fun _ _ _ _ => rfl) (fun _ _ _ => rfl)

theorem codeF_ok (hT : TabOK T) {rec : Rec} (hrec : Sound T B W rec) {cx : Cx} {c : Code} {fr : Fr} {kn : KN} {res : Res} (h : codeF T rec cx c fr kn = .ok res) : Done T B W cx c fr kn (fun e t h nx d r => .ok (.ext e ⟨t, ⟨h, nx⟩, d, r⟩)) res := by
  obtain ⟨fn, nt, rd, pan⟩ := cx
  obtain ⟨t, ⟨hp, nx⟩, d, r⟩ := fr
  obtain ⟨f, e1, h1⟩ := decC_ok (B := B) (W := W) hT nt c
  unfold codeF at h
  simp only [e1] at h
  exact h1 (fr := ⟨t, ⟨hp, nx⟩, d, r⟩) hrec rfl h

theorem forceRes_ok {x : RR} {res : Res} (h : forceRes x = .ok res) : x = .ok res := by
  cases x with
  | err e => cases h
  | ok rr =>
    cases rr with
    | ext e fr => exact h
    | pan v st rc => exact h
    | ret v st rc =>
      unfold forceRes at h
      simp only [fA_eq, forceS_eq] at h
      cases rc <;> exact h

/-- what is known of calls holds -/
def KnownOK (T : Tab) (B : Nat) (W : World) (K : FuncId → List (List AV × AV)) : Prop := ∀ f as v, (as, v) ∈ K f → ∀ st, TaskOK T T.ng B W (.call f as st none) (.ret v st false)

theorem knownK_ok : ∀ {l : List (List AV × AV)} {args : List AV} {k : KA} {e : RR} {res : Res}, knownK l args k e = .ok res → (∃ v, (args, v) ∈ l ∧ k v = .ok res) ∨ e = .ok res
  | [], _, _, _, _, h => .inr h
  | (as, v) :: l, args, k, e, res, h => by
    rcases bool_rec_ok (show Bool.rec (motive := fun _ => RR) (knownK l args k e) (k v) (beqL as args) = .ok res from h) with ⟨hb, hk⟩ | ⟨_, h⟩
    · have : as = args := beqL_same hb
      subst this
      exact .inl ⟨v, List.mem_cons_self, hk⟩
    · rcases knownK_ok h with ⟨w, hw, hk⟩ | h
      · exact .inl ⟨w, List.mem_cons_of_mem _ hw, hk⟩
      · exact .inr h

theorem taskF_ok (hT : TabOK T) {K : FuncId → List (List AV × AV)} (hK : KnownOK T B W K) {rec : Rec} (hrec : Sound T B W rec) {t : Task} {r : Res} (h : taskF T K rec t = .ok r) : TaskOK T T.ng B W t r := by
  cases t with
  | code cx c fr =>
    rcases codeF_ok hT hrec (show codeF T rec cx c fr (fun t h nx d r => .ok (.ext .normal ⟨t, ⟨h, nx⟩, d, r⟩)) = .ok r from h) with ⟨fr', hok, hk⟩ | ⟨e, fr', hne, hok, hk⟩ | ⟨v, fr', rfl, hok⟩
    · cases hk; exact hok
    · cases hk; exact hok
    · exact hok
  | scope cx body c fr => exact doScope_ok hrec h
  | again cx c fr =>
    rcases codeF_ok hT hrec (show codeF T rec cx c fr (fun t h nx d r => rec (.again cx c ⟨t, ⟨h, nx⟩, d, r⟩)) = .ok r from h) with ⟨fr', hok, hk⟩ | ⟨e, fr', hne, hok, hk⟩ | ⟨v, fr', rfl, hok⟩
    · exact (again_normal hok (hrec _ _ hk)).2
    · cases hk; exact (again_exit hne hok).2
    · exact (again_exit (by intro e; cases e) hok).2
  | ops cx all l fr => exact doOps_ok hT hrec h
  | draw cx all i l fr lds sn => exact drawF_ok hT hrec h
  | call f args st pan =>
    obtain ⟨hp, nx⟩ := st
    cases pan with
    | some v => exact callF_ok hT hrec h
    | none =>
      rcases knownK_ok (show knownK (K f) args (fun v => .ok (.ret v ⟨hp, nx⟩ false)) (callF T rec f args hp nx none) = .ok r from h) with ⟨v, hv, hk⟩ | h
      · cases hk; exact hK f args v hv _
      · exact callF_ok hT hrec h
  | leave cx fn p fr => exact doLeave_ok hrec hT (forceRes_ok h)
  | round l args st => exact doRound_ok hrec hT (forceRes_ok h)

/-- what the lean executor answers is what the machine does -/
theorem runF_ok (hT : TabOK T) {K : FuncId → List (List AV × AV)} (hK : KnownOK T B W K) : ∀ n, Sound T B W (runF T K n)
  | 0 => fun t r h => by cases h
  | n + 1 => fun t r h => taskF_ok hT hK (runF_ok hT hK n) h
end
end Go.Ex
