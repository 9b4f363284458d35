/- The executor: a big-step reading of the program as the model runs it, made for evaluation by the kernel, and its soundness (part ExL). -/
import Derived.Test.YtmkdjmoifkffgaaGreatDoorExI
import Derived.OpenShut
import GoSem.ClaimJoined
set_option linter.unusedVariables false
set_option linter.unusedSimpArgs false
set_option linter.unusedSectionVars false
namespace Go.Ex
open Go Go.RowKit

/-! ### a listed variable's datum, as the executor's cells -/
noncomputable def litA : Lit → List AV
  | .bool b => [.bool b]
  | .int k n => [.int k n]
  | .float k n => [.float k n]
  | .string l => [.string ⟨⟨l⟩⟩]
  | .nil => []
noncomputable def appA (l m : List AV) : List AV := List.rec (motive := fun _ => List AV) m (fun a _ ih => a :: ih) l
noncomputable def flatD (d : DataW Unit) : List AV := DataW.rec (motive_1 := fun _ => List AV) (motive_2 := fun _ => List AV) (motive_3 := fun _ => Unit) (motive_4 := fun _ => Unit)
  (fun l => litA l) [] (fun _ _ => []) (fun _ _ _ _ => []) (fun _ ih => ih) (fun _ _ _ => []) (fun _ _ => []) (fun _ => []) [] (fun _ _ a l => appA a l) () (fun _ _ _ _ => ()) (fun _ _ _ => ()) d
noncomputable def flatL (l : List (DataW Unit)) : List AV := DataW.rec_1 (motive_1 := fun _ => List AV) (motive_2 := fun _ => List AV) (motive_3 := fun _ => Unit) (motive_4 := fun _ => Unit)
  (fun l => litA l) [] (fun _ _ => []) (fun _ _ _ _ => []) (fun _ ih => ih) (fun _ _ _ => []) (fun _ _ => []) (fun _ => []) [] (fun _ _ a l => appA a l) () (fun _ _ _ _ => ()) (fun _ _ _ => ()) l
theorem appA_eq : ∀ l m : List AV, appA l m = l ++ m
  | [], _ => rfl
  | a :: l, m => congrArg (a :: ·) (appA_eq l m)
theorem flatL_cons (a : DataW Unit) (l : List (DataW Unit)) : flatL (a :: l) = flatD a ++ flatL l := (show flatL (a :: l) = appA (flatD a) (flatL l) from rfl).trans (appA_eq _ _)

def litV : Lit → List Value
  | .bool b => [.bool b]
  | .int k n => [.int k n]
  | .float k n => [.float k n]
  | .string l => [.string ⟨⟨l⟩⟩]
  | .nil => []
mutual
def flatV : DataW Unit → List Value
  | .lit l => litV l
  | .agg l => flatVs l
  | _ => []
def flatVs : List (DataW Unit) → List Value
  | [] => []
  | a :: l => flatV a ++ flatVs l
end
mutual
/-- literals, and rows of them -/
def isFlat : DataW Unit → Bool
  | .lit .nil => false
  | .lit _ => true
  | .agg l => isFlats l
  | _ => false
def isFlats : List (DataW Unit) → Bool
  | [] => true
  | a :: l => isFlat a && isFlats l
end

theorem lit_VRs (φ : Phi) (l : Lit) : VRs φ (litA l) (litV l) := by
  cases l <;> first | exact ⟨_, [], rfl, rfl, rfl⟩ | exact rfl
mutual
theorem flat_VRs (φ : Phi) : ∀ d : DataW Unit, isFlat d = true → VRs φ (flatD d) (flatV d)
  | .lit l, _ => by
    simp only [flatV]
    exact lit_VRs φ l
  | .agg l, h => by
    simp only [flatV]
    exact flats_VRs φ l (by simpa [isFlat] using h)
  | .nil, h | .ptr _, h | .slice .., h | .iface .., h | .map _, h | .held _, h => by simp [isFlat] at h
theorem flats_VRs (φ : Phi) : ∀ l : List (DataW Unit), isFlats l = true → VRs φ (flatL l) (flatVs l)
  | [], _ => rfl
  | a :: l, h => by
    simp only [isFlats, Bool.and_eq_true] at h
    rw [flatL_cons]
    simp only [flatVs]
    exact (flat_VRs φ a h.1).append (flats_VRs φ l h.2)
end

/-- a struct's fields lie one behind the other, and are plain -/
def fieldsRow (P : Program) (ok : TypeId → Bool) : Nat → List Field → Option Nat
  | o, [] => some o
  | o, f :: l => if f.offset = o ∧ ok f.type = true then fieldsRow P ok (o + P.cellsOf f.type) l else none
def okTy (P : Program) : Nat → TypeId → Bool
  | 0, _ => false
  | n + 1, t => match P.underlying t with
    | some (.struct fs) => fieldsRow P (okTy P n) 0 fs.toList == some (P.cellsOf t)
    | some (.array k e) => k * P.cellsOf e == P.cellsOf t && okTy P n e
    | some .bool | some (.int _) | some (.float _) | some .string => P.cellsOf t == 1
    | _ => false

theorem rows_cat {cs : List Value} : ∀ (fs : List Field) (ds : List (DataW Unit)) (o n : Nat) (P : Program) (ok : TypeId → Bool), fieldsRow P ok o fs = some n → fs.length = ds.length →
    (∀ (i : Nat) (f : Field) (d : DataW Unit), fs[i]? = some f → ds[i]? = some d → (cs.drop f.offset).take (P.cellsOf f.type) = flatV d) → (cs.drop o).take (n - o) = flatVs ds ∧ o ≤ n
  | [], [], o, n, P, ok, h, _, _ => by simp [fieldsRow] at h; subst h; simp [flatVs]
  | [], _ :: _, _, _, _, _, _, h, _ => by simp at h
  | _ :: _, [], _, _, _, _, _, h, _ => by simp at h
  | f :: fs, d :: ds, o, n, P, ok, h, hl, hall => by
    unfold fieldsRow at h
    split at h
    · rename_i hf
      obtain ⟨h1, h2⟩ := rows_cat fs ds (o + P.cellsOf f.type) n P ok h (by simpa using hl) fun i g e hg he => hall (i + 1) g e (by simpa using hg) (by simpa using he)
      have h0 := hall 0 f d rfl rfl
      rw [hf.1] at h0
      refine ⟨?_, by omega⟩
      simp only [flatVs]
      rw [← h0, ← h1, show n - o = P.cellsOf f.type + (n - (o + P.cellsOf f.type)) by omega, List.take_add, List.drop_drop]
    · cases h

theorem arr_cat {cs : List Value} {sz : Nat} : ∀ (ds : List (DataW Unit)) (o : Nat), (∀ i d, ds[i]? = some d → (cs.drop (o + i * sz)).take sz = flatV d) → (cs.drop o).take (ds.length * sz) = flatVs ds
  | [], o, _ => by simp [flatVs]
  | d :: ds, o, hall => by
    have h1 := arr_cat ds (o + sz) fun i e he => by
      have := hall (i + 1) e (by simpa using he)
      rwa [show o + (i + 1) * sz = o + sz + i * sz by rw [Nat.succ_mul]; omega] at this
    have h0 := hall 0 d rfl
    rw [Nat.zero_mul, Nat.add_zero] at h0
    simp only [flatVs, List.length_cons]
    rw [← h0, ← h1, Nat.succ_mul, Nat.add_comm (ds.length * sz) sz, List.take_add, List.drop_drop]

theorem isFlats_get : ∀ {l : List (DataW Unit)} {i : Nat} {d : DataW Unit}, isFlats l = true → l[i]? = some d → isFlat d = true
  | a :: l, 0, d, h, e => by simp only [isFlats, Bool.and_eq_true] at h; simp at e; subst e; exact h.1
  | a :: l, i + 1, d, h, e => by simp only [isFlats, Bool.and_eq_true] at h; exact isFlats_get h.2 (by simpa using e)
  | [], i, d, h, e => by simp at e

/-- what is read as a flat datum is that datum's cells -/
theorem trod_flat {P : Program} {w : World} {enc : TypeId × Value → Unit} {base : Nat} {spare : Nat → Bool} {held : Bool} : ∀ (m : Nat) (fuel : Nat) (t : TypeId) (cs : List Value) (d : DataW Unit) (p : List MemPlace),
    okTy P m t = true → isFlat d = true → DataW.trod enc P w base spare held fuel t cs = some (d, p) → cs = flatV d
  | 0, _, _, _, _, _, h, _, _ => by simp [okTy] at h
  | m + 1, fuel, t, cs, d, p, hok, hfl, h => by
    unfold okTy at hok
    split at hok
    · rename_i fs hu
      obtain ⟨xs, n, rfl, hx, hlen, hn, hel⟩ := DataW.trod_struct hu h
      cases hx
      have hrow : fieldsRow P (okTy P m) 0 fs.toList = some (P.cellsOf t) := by simpa using hok
      have hfl' : isFlats (xs.map (·.1)) = true := by simpa [isFlat] using hfl
      have oks : ∀ (l : List Field) (o n : Nat), fieldsRow P (okTy P m) o l = some n → ∀ (i : Nat) (f : Field), l[i]? = some f → okTy P m f.type = true := by
        intro l
        induction l with
        | nil => intro o n _ i f hf; simp at hf
        | cons g l ih =>
          intro o n hr i f hf
          unfold fieldsRow at hr
          split at hr
          · rename_i hg
            cases i with
            | zero => simp at hf; subst hf; exact hg.2
            | succ i => exact ih _ _ hr i f (by simpa using hf)
          · cases hr
      have := rows_cat (cs := cs) fs.toList (xs.map (·.1)) 0 (P.cellsOf t) P (okTy P m) hrow (by simp [hn]) fun i f d hf hd => by
        have hf' : fs[i]? = some f := by simpa using hf
        have h1 := hel i f hf'
        rw [List.getElem?_map] at hd
        cases hxi : xs[i]? with
        | none => rw [hxi] at hd; cases hd
        | some x =>
          rw [hxi] at hd
          simp only [Option.map_some, Option.some.injEq] at hd
          subst hd
          rw [hxi] at h1
          exact trod_flat m n f.type _ x.1 x.2 (oks _ _ _ hrow i f hf) (isFlats_get (i := i) hfl' (by simp [hxi])) h1
      simp only [flatV]
      rw [← this.1, List.drop_zero, Nat.sub_zero, ← hlen, List.take_length]
    · rename_i k e hu
      obtain ⟨xs, n, rfl, hx, hlen, hn, hel⟩ := DataW.trod_array hu h
      cases hx
      simp only [Bool.and_eq_true, beq_iff_eq] at hok
      have hfl' : isFlats (xs.map (·.1)) = true := by simpa [isFlat] using hfl
      have := arr_cat (cs := cs) (sz := P.cellsOf e) (xs.map (·.1)) 0 fun i d hd => by
        rw [List.getElem?_map] at hd
        cases hxi : xs[i]? with
        | none => rw [hxi] at hd; cases hd
        | some x =>
          rw [hxi] at hd
          simp only [Option.map_some, Option.some.injEq] at hd
          subst hd
          have hi : i < k := by rw [← hn]; exact (List.getElem?_eq_some_iff.1 hxi).1
          have h1 := hel i hi
          rw [hxi] at h1
          rw [Nat.zero_add]
          exact trod_flat m n e _ x.1 x.2 hok.2 (isFlats_get (i := i) hfl' (by simp [hxi])) h1
      simp only [flatV]
      rw [← this, List.drop_zero, List.length_map, hn, hok.1, ← hlen, List.take_length]
    all_goals
      first
      | (cases hok; done)
      | (rename_i hu
         cases fuel with
         | zero => simp [DataW.trod] at h
         | succ n =>
           unfold DataW.trod at h
           rw [hu] at h
           split at h <;> first
             | (simp_all; done)
             | (simp only [Option.ite_none_right_eq_some, Option.some.injEq, Prod.mk.injEq] at h
                obtain ⟨h1, h2, _⟩ := h
                subst h2
                simp_all [flatV, litV]; done)
             | (cases h; simp_all [flatV, litV]; done)
             | (cases h; rfl))
end Go.Ex
namespace Go.Ex
open Go Go.RowKit

/-- the listed variables, as the executor's memory: variable g at g, what a slice leads to at 100 + g -/
noncomputable def layH : List (Nat × DataW Unit) → Tr AObj
  | [] => .nil
  | (g, .slice l _) :: r => ((layH r).put g (.cells [.slice (100 + g) 0 (lenB l) (lenB l)] 0 false)).put (100 + g) (.cells (flatL l) 0 false)
  | (g, d) :: r => (layH r).put g (.cells (flatD d) 0 false)

def phi0 (ng : Nat) (W : World) : Phi := fun v =>
  if v < ng then some ⟨v, 0, match W.heap[v]? with | some (.cells c _ _) => c.size | _ => 0⟩
  else if 100 ≤ v ∧ v < 100 + ng then match W.cell? ⟨v - 100, 0, none⟩ with
    | some (.slice (some a) _ _) => (match W.heap[a.block]? with
      | some (.cells c _ _) => some ⟨a.block, a.off, c.size⟩
      | _ => none)
    | _ => none
  else none

/-- a variable lies as its datum says -/
def LaidAt (W : World) (g : Nat) : DataW Unit → Prop
  | .slice l _ => isFlats l = true ∧ ∃ cs e fr a c e' fr', W.heap[g]? = some (.cells cs e fr) ∧ cs.toList = [.slice (some a) l.length l.length] ∧ a.spot = none ∧ W.heap[a.block]? = some (.cells c e' fr') ∧
      (c.toList.drop a.off).take (flatVs l).length = flatVs l ∧ a.off + (flatVs l).length ≤ c.size
  | d => isFlat d = true ∧ ∃ cs e fr, W.heap[g]? = some (.cells cs e fr) ∧ cs.toList = flatV d

theorem LaidAt.flat {W : World} {g : Nat} {d : DataW Unit} (hd : ∀ l s, d ≠ .slice l s) : LaidAt W g d ↔ (isFlat d = true ∧ ∃ cs e fr, W.heap[g]? = some (.cells cs e fr) ∧ cs.toList = flatV d) := by
  cases d <;> first | exact Iff.rfl | exact absurd rfl (hd _ _)

theorem layH_flat (g : Nat) {d : DataW Unit} (hd : ∀ l s, d ≠ .slice l s) (r : List (Nat × DataW Unit)) : layH ((g, d) :: r) = (layH r).put g (.cells (flatD d) 0 false) := by
  cases d <;> first | rfl | exact absurd rfl (hd _ _)

theorem LaidAt.of_same {W w : World} {B g : Nat} {d : DataW Unit} (h : LaidAt W g d) (hB : B = W.heap.size) (hb : ∀ k, k < B → w.heap[k]? = W.heap[k]?) : LaidAt w g d := by
  have lt : ∀ {k : Nat} {o : Obj}, W.heap[k]? = some o → w.heap[k]? = some o := fun {k o} hk => by
    rw [hb k (by rw [hB]; exact (Array.getElem?_eq_some_iff.1 hk).1)]; exact hk
  cases d with
  | slice l s =>
    obtain ⟨h0, cs, e, fr, a, c, e', fr', h1, h2, h3, h4, h5, h6⟩ := h
    exact ⟨h0, cs, e, fr, a, c, e', fr', lt h1, h2, h3, lt h4, h5, h6⟩
  | _ =>
    obtain ⟨h0, cs, e, fr, h1, h2⟩ := h
    exact ⟨h0, cs, e, fr, lt h1, h2⟩

theorem VRs_len {φ : Phi} {l : List AV} {vs : List Value} (h : VRs φ l vs) : l.length = vs.length := h.length.symm

theorem lay_or {ng : Nat} (hng : ng ≤ 100) {W : World} : ∀ (l : List (Nat × DataW Unit)), (∀ p ∈ l, p.1 < ng ∧ LaidAt W p.1 p.2) → ∀ v o, (layH l).get v = some o → ∃ i, phi0 ng W v = some i ∧ OR (phi0 ng W) v i W o
  | [], _, v, o, h => by rw [show layH [] = Tr.nil from rfl, Tr.get_nil] at h; cases h
  | (g, d) :: r, hall, v, o, h => by
    have ih := lay_or hng r (fun p hp => hall p (List.mem_cons_of_mem _ hp))
    obtain ⟨hg, hl⟩ := hall (g, d) List.mem_cons_self
    by_cases hd : ∃ l s, d = .slice l s
    · obtain ⟨l, s, rfl⟩ := hd
      obtain ⟨h0, cs, e, fr, a, c, e', fr', h1, h2, h3, h4, h5, h6⟩ := hl
      have hcs : cs = #[.slice (some a) l.length l.length] := by
        obtain ⟨cl⟩ := cs
        simp at h2
        rw [h2]
      subst hcs
      have hcell : W.cell? ⟨g, 0, none⟩ = some (.slice (some a) l.length l.length) := by simp [World.cell?, h1]
      have hphi : phi0 ng W (100 + g) = some ⟨a.block, a.off, c.size⟩ := by
        unfold phi0
        rw [if_neg (by omega), if_pos (by omega), show 100 + g - 100 = g by omega, hcell]
        simp only [h4]
      rw [show layH ((g, .slice l s) :: r) = ((layH r).put g (.cells [.slice (100 + g) 0 (lenB l) (lenB l)] 0 false)).put (100 + g) (.cells (flatL l) 0 false) from rfl, Tr.get_put, Tr.get_put] at h
      by_cases e1 : v = 100 + g
      · subst e1
        rw [if_pos rfl] at h
        cases h
        have hv := flats_VRs (phi0 ng W) l h0
        have hlen := VRs_len hv
        refine ⟨_, hphi, c, e', fr', h4, rfl, (fun x => by cases x), (fun x => by omega), ?_, ?_⟩
        · show a.off + (flatL l).length ≤ c.size
          rw [hlen]; exact h6
        · show VRs _ (flatL l) ((c.toList.drop a.off).take (flatL l).length)
          rw [hlen, h5]
          exact hv
      · rw [if_neg e1] at h
        by_cases e2 : v = g
        · subst e2
          rw [if_pos rfl] at h
          cases h
          refine ⟨_, by unfold phi0; rw [if_pos hg], #[.slice (some a) l.length l.length], e, fr, h1, by rw [h1], (fun x => by cases x), (fun x => by omega), by simp, ?_⟩
          refine ⟨.slice (some a) l.length l.length, [], ⟨_, hphi, ?_⟩, rfl, rfl⟩
          rw [lenB_eq]
          obtain ⟨ab, ao, as⟩ := a
          simp only at h3
          subst h3
          rfl
        · rw [if_neg e2] at h
          exact ih v o h
    · have hd' : ∀ l s, d ≠ .slice l s := fun l s e => hd ⟨l, s, e⟩
      obtain ⟨h0, cs, e, fr, h1, h2⟩ := (LaidAt.flat hd').1 hl
      rw [layH_flat g hd', Tr.get_put] at h
      by_cases e2 : v = g
      · subst e2
        rw [if_pos rfl] at h
        cases h
        have hv := flat_VRs (phi0 ng W) d h0
        have hlen := VRs_len hv
        have hsz : (flatD d).length = cs.size := by rw [hlen, ← h2]; simp
        refine ⟨_, by unfold phi0; rw [if_pos hg], cs, e, fr, h1, by rw [h1], (fun x => by cases x), (fun x => by omega), ?_, ?_⟩
        · show 0 + (flatD d).length ≤ cs.size
          omega
        · show VRs _ (flatD d) ((cs.toList.drop 0).take (flatD d).length)
          rw [List.drop_zero, hsz, show cs.size = cs.toList.length by simp, List.take_length, h2]
          exact hv
      · rw [if_neg e2] at h
        exact ih v o h

/-- the bare start: the listed variables alone -/
theorem SR_bare {ng : Nat} (hng : ng ≤ 100) {W : World} (hsz : ng ≤ W.heap.size) {l : List (Nat × DataW Unit)} (hall : ∀ p ∈ l, p.1 < ng ∧ LaidAt W p.1 p.2) : SR ng W.heap.size W (phi0 ng W) ⟨layH l, 1000⟩ W := by
  have big : ∀ v i, phi0 ng W v = some i → v < 1000 := fun v i h => by
    unfold phi0 at h
    split at h
    · omega
    · split at h
      · omega
      · cases h
  refine ⟨lay_or hng l hall, ?_, ?_, ?_, ?_, Nat.le_refl _, Below.refl _ _, Nat.le_refl _, ?_⟩
  · intro u v i j hu _ _ _ hi _ _
    have := big u i hi
    omega
  · intro v i hv _ hi
    have := big v i hi
    omega
  · intro v i _ h
    unfold phi0 at h
    split at h
    · cases h; show v < W.heap.size; omega
    · split at h
      · split at h
        · split at h
          · rename_i hc
            cases h
            exact (Array.getElem?_eq_some_iff.1 hc).1
          · cases h
        · cases h
      · cases h
  · intro v hv
    cases h : phi0 ng W v with
    | none => rfl
    | some i => have := big v i h; have hv' : 1000 ≤ v := hv; omega
  · intro g hg
    exact ⟨_, by unfold phi0; rw [if_pos hg]⟩

/-! ### values that hold no address -/
mutual
noncomputable def noAddr : AV → Bool
  | .bool _ | .int .. | .float .. | .string _ | .nilptr | .nilslice | .nilmap | .nilFunc | .nilIface => true
  | .agg l | .tuple l => noAddrs l
  | .iface _ x => noAddr x
  | _ => false
noncomputable def noAddrs : List AV → Bool
  | [] => true
  | a :: l => noAddr a && noAddrs l
end
mutual
theorem VR.free {φ ψ : Phi} : ∀ {a : AV} {v : Value}, noAddr a = true → VR φ a v → VR ψ a v
  | .bool _, _, _, e => e
  | .int _ _, _, _, e => e
  | .float _ _, _, _, e => e
  | .string _, _, _, e => e
  | .nilptr, _, _, e => e
  | .nilslice, _, _, e => e
  | .nilmap, _, _, e => e
  | .nilFunc, _, _, e => e
  | .nilIface, _, _, e => e
  | .agg l, _, h, ⟨xs, a, b⟩ => ⟨xs, VRs.free (by simpa [noAddr] using h) a, b⟩
  | .tuple l, _, h, ⟨xs, a, b⟩ => ⟨xs, VRs.free (by simpa [noAddr] using h) a, b⟩
  | .iface _ x, _, h, ⟨y, a, b⟩ => ⟨y, VR.free (by simpa [noAddr] using h) a, b⟩
  | .ptr .., _, h, _ => by simp [noAddr] at h
  | .slice .., _, h, _ => by simp [noAddr] at h
  | .sliceU .., _, h, _ => by simp [noAddr] at h
  | .sliceE, _, h, _ => by simp [noAddr] at h
  | .map _, _, h, _ => by simp [noAddr] at h
  | .func .., _, h, _ => by simp [noAddr] at h
  | .yieldF _, _, h, _ => by simp [noAddr] at h
theorem VRs.free {φ ψ : Phi} : ∀ {l : List AV} {vs : List Value}, noAddrs l = true → VRs φ l vs → VRs ψ l vs
  | [], _, _, e => e
  | a :: l, _, h, ⟨x, xs, p, q, r⟩ => by
    simp only [noAddrs, Bool.and_eq_true] at h
    exact ⟨x, xs, VR.free h.1 p, VRs.free h.2 q, r⟩
end

section
variable {T : Tab}

/-- the world in which a run begins lays the variables -/
structure Laid (ng : Nat) (W : World) (l : List (Nat × DataW Unit)) : Prop where
  few : ng ≤ 100
  size : ng ≤ W.heap.size
  all : ∀ p ∈ l, p.1 < ng ∧ LaidAt W p.1 p.2

theorem Laid.later {ng B : Nat} {W w : World} {l : List (Nat × DataW Unit)} (h : Laid ng W l) (hB : B = W.heap.size) (hb : Below B W w) : Laid ng w l :=
  ⟨h.few, Nat.le_trans h.size hb.size, fun p hp => ⟨(h.all p hp).1, (h.all p hp).2.of_same hB hb.block⟩⟩

theorem SR.later {ng B : Nat} {W : World} {φ : Phi} {s : St} {w w' : World} (hs : SR ng B W φ s w) (hb : Below w.heap.size w w') : SR ng B W φ s w' :=
  ⟨fun v o e => by obtain ⟨i, h1, h2⟩ := hs.heap v o e; exact ⟨i, h1, h2.mono (Phi.le_refl φ) (hb.block _ h2.lt)⟩, hs.inj, hs.own, hs.glob, hs.fresh, hs.low,
    ⟨hb.os.trans hs.below.os, hb.tape.trans hs.below.tape, hb.output.trans hs.below.output, Nat.le_trans hs.below.size hb.size, fun k hk => (hb.block k (Nat.lt_of_lt_of_le hk hs.bsize)).trans (hs.below.block k hk)⟩,
    Nat.le_trans hs.bsize hb.size, hs.globals⟩

/-- a call that was run at the bare start is known, in whatever state -/
theorem known_of {K : FuncId → List (List AV × AV)} (hT : TabOK T) {l l' : List (Nat × DataW Unit)} {W : World} (hL : Laid T.ng W l) (hsub : ∀ p ∈ l', p ∈ l) (hK : ∀ w, Laid T.ng w l → KnownOK T w.heap.size w K) {n : Nat} {f : FuncId} {as : List AV} {v : AV} {st' : St}
    (h : runF T K n (.call f as ⟨layH l', 1000⟩ none) = .ok (.ret v st' false)) (ha : noAddrs as = true) (hv : noAddr v = true) (st : St) : TaskOK T T.ng W.heap.size W (.call f as st none) (.ret v st false) := by
  intro φ w vs kind cs hvs hs hrec
  have hLw : Laid T.ng w l := hL.later rfl hs.below
  have hbare := SR_bare (l := l') hLw.few hLw.size (fun p hp => hLw.all p (hsub p hp))
  obtain ⟨φ', w', fr', fn, v', hle, hs', hst, h1, h2, h3, h4, h5, h6, h7⟩ := runF_ok hT (hK w hLw) n _ _ h (phi0 T.ng w) w vs kind cs (VRs.free ha hvs) hbare hrec
  exact ⟨φ, w', fr', fn, v', Phi.le_refl φ, hs.later hs'.below, hst, h1, h2, h3, h4, h5, h6, VR.free hv h7⟩

/-- the check that the kernel makes of a run -/
noncomputable def retIs (v : AV) : RR → Bool
  | .ok (.ret x _ false) => beqA x v
  | _ => false
theorem retIs_ok {v : AV} {r : RR} (h : retIs v r = true) : ∃ st, r = .ok (.ret v st false) := by
  unfold retIs at h
  split at h
  · rename_i x st
    have := beqA_same h
    subst this
    exact ⟨st, rfl⟩
  · cases h

/-- a closed call, of the machine -/
theorem calls_of_runF {K : FuncId → List (List AV × AV)} (hT : TabOK T) {l l' : List (Nat × DataW Unit)} {W : World} (hL : Laid T.ng W l) (hsub : ∀ p ∈ l', p ∈ l) (hK : KnownOK T W.heap.size W K) {n : Nat} {f : FuncId} {b : Bool}
    (h : retIs (.bool b) (runF T K n (.call f [] ⟨layH l', 1000⟩ none)) = true) : Calls T.P f #[] W fun e w' => e = .returned (.bool b) ∧ Below W.heap.size W w' := by
  intro cs
  obtain ⟨st', hr⟩ := retIs_ok h
  obtain ⟨φ', w', fr', fn, v', hle, hs', hst, hkind, hdef, hfn, hmode, hfun, hres, hv⟩ := runF_ok hT hK n _ _ hr (phi0 T.ng W) W [] .normal (fun _ => cs) rfl (SR_bare (l := l') hL.few hL.size (fun p hp => hL.all p (hsub p hp))) (recOK_normal _ _)
  cases hv
  exact ⟨.returned (.bool b), w', fr', ⟨rfl, hs'.below⟩, hst, hfn, hmode, hdef, hkind, fn, by rw [hfn]; exact hfun, hres⟩
end
end Go.Ex
namespace Go.Ex
open Go Go.RowKit

/-- a listed variable fits: its number, its type -/
def tabFits (P : Program) (n : String) (g : Nat) (d : DataW Unit) : Bool := P.globalNamed n == some g && match (P.globals[g]?).map (·.type) with
  | some t => (match d with
    | .slice l [] => (match P.underlying t with
      | some (.slice e) => okTy P 20 e && (isFlats l && (!l.isEmpty && Nat.ble 1 (P.cellsOf e)))
      | _ => false)
    | d => okTy P 20 t && isFlat d)
  | none => false

theorem laidVars_mem {P : Program} {W : World} {n : String} {d : DataW Unit} : ∀ {l : List (String × DataW Unit)} {ps : List MemPlace}, DataW.LaidVars P W l ps → (n, d) ∈ l →
    ∃ g t cs fuel p, P.globalNamed n = some g ∧ (P.globals[g]?).map (·.type) = some t ∧ W.var? P n = some cs ∧ DataW.trod (fun _ => ()) P W 0 (fun _ => true) false fuel t cs.toList = some (d, p)
  | (m, e) :: r, ps, ⟨g, t, cs, fuel, p, q, h1, h2, h3, h4, h5, _⟩, hm => by
    rcases List.mem_cons.1 hm with he | hm
    · cases he
      exact ⟨g, t, cs, fuel, p, h1, h2, h3, h4⟩
    · exact laidVars_mem h5 hm
  | [], _, _, hm => by cases hm

theorem var_heap {P : Program} {W : World} {n : String} {g : Nat} {cs : Array Value} (h1 : P.globalNamed n = some g) (h3 : W.var? P n = some cs) : ∃ e fr, W.heap[g]? = some (.cells cs e fr) := by
  unfold World.var? at h3
  rw [h1] at h3
  simp only [Option.bind_some] at h3
  split at h3
  · rename_i c e fr hc
    cases h3
    exact ⟨e, fr, hc⟩
  · cases h3

theorem laidAt_of {P : Program} {W : World} {n : String} {g : Nat} {d : DataW Unit} (hf : tabFits P n g d = true) {g' : Nat} {t : TypeId} {cs : Array Value} {fuel : Nat} {p : List MemPlace} (h1 : P.globalNamed n = some g') (h2 : (P.globals[g']?).map (·.type) = some t)
    (h3 : W.var? P n = some cs) (h4 : DataW.trod (fun _ => ()) P W 0 (fun _ => true) false fuel t cs.toList = some (d, p)) : LaidAt W g d := by
  unfold tabFits at hf
  simp only [Bool.and_eq_true, beq_iff_eq] at hf
  obtain ⟨hg, hf⟩ := hf
  rw [h1] at hg
  cases hg
  rw [h2] at hf
  simp only at hf
  obtain ⟨e, fr, hc⟩ := var_heap h1 h3
  have flat : okTy P 20 t = true → isFlat d = true → (∀ l s, d ≠ .slice l s) → LaidAt W g d := fun a b c => (LaidAt.flat c).2 ⟨b, cs, e, fr, hc, trod_flat 20 fuel t _ d p a b h4⟩
  split at hf
  · rename_i l
    split at hf
    · rename_i el hu
      simp only [Bool.and_eq_true] at hf
      obtain ⟨hok, hfl, hne, hsz⟩ := hf
      have hsz : 1 ≤ P.cellsOf el := Nat.le_of_ble_eq_true hsz
      rcases DataW.trod_slice hu h4 with ⟨_, hx⟩ | ⟨a, len, cap, elems, rest, m, rfl, hcs, hx, _, hlc, _, hlen, hel, hsp, _⟩
      · cases hx
      · simp only [Prod.mk.injEq, DataW.slice.injEq] at hx
        obtain ⟨⟨hl, hr⟩, _⟩ := hx
        have hrest : rest = [] := by simpa using hr.symm
        subst hrest
        have hcap : cap = len := by
          have := (hsp rfl).1
          simp at this
          omega
        subst hcap
        have hll : l.length = cap := by rw [hl]; simpa using hlen
        have hpos : 0 < cap := by
          rw [← hll]
          cases l with
          | nil => simp at hne
          | cons _ _ => simp
        -- each element's cells
        have each : ∀ i x, elems[i]? = some x → ∃ csi, W.cells? 0 (a.add (i * P.cellsOf el)) (P.cellsOf el) = some csi ∧ csi = flatV x.1 := by
          intro i x hx
          have hi : i < cap := by rw [← hlen]; exact (List.getElem?_eq_some_iff.1 hx).1
          have := hel i hi
          rw [hx] at this
          obtain ⟨csi, hc1, hc2⟩ := Option.bind_eq_some_iff.1 this
          refine ⟨csi, hc1, trod_flat 20 m el csi x.1 x.2 hok (isFlats_get (i := i) hfl ?_) hc2⟩
          rw [hl, List.getElem?_map, hx]
          rfl
        have cell : ∀ i x, elems[i]? = some x → ∀ j, j < P.cellsOf el → W.cell? ((a.add (i * P.cellsOf el)).add j) = (flatV x.1)[j]? ∧ (flatV x.1).length = P.cellsOf el := by
          intro i x hx j hj
          obtain ⟨csi, hc1, rfl⟩ := each i x hx
          unfold World.cells? at hc1
          rw [if_pos (Nat.zero_le _)] at hc1
          exact ⟨mapM_some_get hc1 j j (by simp [hj]), by simpa using mapM_some_length hc1⟩
        have hx0 : ∃ x0, elems[0]? = some x0 := ⟨elems[0]'(by omega), by simp [List.getElem?_eq_getElem (show 0 < elems.length by omega)]⟩
        obtain ⟨x0, hx0⟩ := hx0
        obtain ⟨hc0, hl0⟩ := cell 0 x0 hx0 0 hsz
        rw [Nat.zero_mul, show (a.add 0).add 0 = a from by simp [Addr.add]] at hc0
        have hsome : ∃ y, W.cell? a = some y := ⟨(flatV x0.1)[0]'(by omega), by rw [hc0]; exact List.getElem?_eq_getElem (by omega)⟩
        obtain ⟨y, hy⟩ := hsome
        have hblock : ∃ c e' fr', W.heap[a.block]? = some (.cells c e' fr') ∧ a.spot = none := by
          unfold World.cell? at hy
          split at hy
          · rename_i c e' fr' hc'
            split at hy
            · cases hy
            · rename_i hs
              exact ⟨c, e', fr', hc', by simpa using hs⟩
          · cases hy
        obtain ⟨c, e', fr', hc', hspot⟩ := hblock
        have hadd : ∀ i j, (a.add i).add j = ⟨a.block, a.off + i + j, none⟩ := by
          intro i j
          obtain ⟨ab, ao, as⟩ := a
          simp only at hspot
          subst hspot
          have one : ∀ (o n : Nat), Addr.add ⟨ab, o, none⟩ n = ⟨ab, o + n, none⟩ := fun o n => by
            unfold Addr.add
            split
            · rename_i e; subst e; rfl
            · rfl
          rw [one, one]
        have hcell : ∀ k, W.cell? ⟨a.block, k, none⟩ = c[k]? := fun k => by simp [World.cell?, hc']
        have hrow : ∀ i x, elems[i]? = some x → (c.toList.drop (a.off + i * P.cellsOf el)).take (P.cellsOf el) = flatV x.1 := by
          intro i x hx
          have hlx := (cell i x hx 0 hsz).2
          apply List.ext_getElem?
          intro j
          by_cases hj : j < P.cellsOf el
          · rw [List.getElem?_take_of_lt hj, List.getElem?_drop, ← (cell i x hx j hj).1, hadd, hcell]
            simp
          · rw [List.getElem?_eq_none (by simp; omega), List.getElem?_eq_none (by omega)]
        have hcat := arr_cat (cs := c.toList) (sz := P.cellsOf el) l a.off fun i d hd => by
          rw [hl, List.getElem?_map] at hd
          cases hxi : elems[i]? with
          | none => rw [hxi] at hd; cases hd
          | some x =>
            rw [hxi] at hd
            simp only [Option.map_some, Option.some.injEq] at hd
            subst hd
            exact hrow i x hxi
        have hbound : a.off + l.length * P.cellsOf el ≤ c.size := by
          obtain ⟨xl, hxl⟩ : ∃ x, elems[cap - 1]? = some x := ⟨elems[cap - 1]'(by omega), List.getElem?_eq_getElem (by omega)⟩
          obtain ⟨q1, q2⟩ := cell (cap - 1) xl hxl (P.cellsOf el - 1) (by omega)
          rw [hadd, hcell, List.getElem?_eq_getElem (by omega)] at q1
          have := (Array.getElem?_eq_some_iff.1 q1).1
          rw [hll]
          have e1 : cap * P.cellsOf el = (cap - 1) * P.cellsOf el + P.cellsOf el := by
            rw [← Nat.succ_mul, Nat.succ_eq_add_one, Nat.sub_add_cancel hpos]
          omega
        have hlenf : (flatVs l).length = l.length * P.cellsOf el := by
          rw [← hcat]
          simp
          omega
        exact ⟨hfl, cs, e, fr, a, c, e', fr', hc, by rw [hcs, hll], hspot, hc', by rw [hlenf]; exact hcat, by rw [hlenf]; exact hbound⟩
    · cases hf
  · rename_i hns
    simp only [Bool.and_eq_true] at hf
    cases d with
    | slice l s =>
      have := hf.2
      simp [isFlat] at this
    | _ => exact flat hf.1 hf.2 (fun _ _ e => by cases e)

/-- from the row's condition to the executor's start -/
theorem laid_of_met {P : Program} {W : World} {laid : List (String × DataW Unit)} {ng : Nat} {tabs : List (String × Nat)} (hng : Nat.ble ng 100 = true) (h : laidMet P laid W) (hz : ∃ n g, (n, g) ∈ tabs ∧ g + 1 = ng)
    (hfit : ∀ n g, (n, g) ∈ tabs → ∃ d, (n, d) ∈ laid ∧ tabFits P n g d = true ∧ g < ng) {l : List (Nat × DataW Unit)} (hl : ∀ p ∈ l, ∃ n, (n, p.1) ∈ tabs ∧ (n, p.2) ∈ laid ∧ tabFits P n p.1 p.2 = true ∧ p.1 < ng) : Laid ng W l := by
  obtain ⟨ps, hv, _⟩ := h
  have at_ : ∀ {n : String} {g : Nat} {d : DataW Unit}, (n, d) ∈ laid → tabFits P n g d = true → LaidAt W g d := fun hm hf => by
    obtain ⟨g', t, cs, fuel, p, h1, h2, h3, h4⟩ := laidVars_mem hv hm
    exact laidAt_of hf h1 h2 h3 h4
  refine ⟨Nat.le_of_ble_eq_true hng, ?_, fun p hp => ?_⟩
  · obtain ⟨n, g, hm, rfl⟩ := hz
    obtain ⟨d, hd, hf, _⟩ := hfit n g hm
    have hA := at_ hd hf
    have : ∃ o, W.heap[g]? = some o := by
      cases d with
      | slice l s => obtain ⟨_, cs, e, fr, _, _, _, _, hc, _⟩ := hA; exact ⟨_, hc⟩
      | _ => obtain ⟨_, cs, e, fr, hc, _⟩ := hA; exact ⟨_, hc⟩
    obtain ⟨o, ho⟩ := this
    exact (Array.getElem?_eq_some_iff.1 ho).1
  · obtain ⟨n, _, hm, hf, hlt⟩ := hl p hp
    exact ⟨hlt, at_ hm hf⟩
end Go.Ex
