/- The executor: a big-step reading of the program as the model runs it, made for evaluation by the kernel, and its soundness (part ExB). -/
import Derived.Test.YtmkdjmoifkffgaaGreatDoorExA
import Derived.IntWalk
import Derived.Laws.BytesString
import Derived.Laws.Cover4
import Derived.Laws.Append
set_option linter.unusedVariables false
set_option linter.unusedSimpArgs false
set_option linter.unusedSectionVars false
namespace Go.Ex
open Go Go.RowKit

theorem overwrite_eq {α : Type} : ∀ (off : Nat) (l cs l' : List α), overwrite off l cs = some l' →
    (l' = l.take off ++ cs ++ l.drop (off + cs.length) ∧ off + cs.length ≤ l.length) ∨ (cs = [] ∧ l' = l)
  | 0, l, [], l', h => by simp [overwrite] at h; subst h; exact .inr ⟨rfl, rfl⟩
  | 0, [], _ :: _, l', h => by simp [overwrite] at h
  | 0, a :: l, y :: ys, l', h => by
    simp only [overwrite] at h
    cases hr : overwrite 0 l ys with
    | none => rw [hr] at h; cases h
    | some r =>
      rw [hr] at h
      cases h
      rcases overwrite_eq 0 l ys r hr with ⟨e1, e2⟩ | ⟨e1, e2⟩
      · refine .inl ⟨?_, by simp at e2 ⊢; omega⟩
        simp only [List.take_zero, List.nil_append, Nat.zero_add] at e1 ⊢
        rw [e1]
        simp
      · refine .inl ⟨?_, by simp [e1]⟩
        simp [e1, e2]
  | n + 1, a :: l, cs, l', h => by
    simp only [overwrite] at h
    cases hr : overwrite n l cs with
    | none => rw [hr] at h; cases h
    | some r =>
      rw [hr] at h
      cases h
      rcases overwrite_eq n l cs r hr with ⟨e1, e2⟩ | ⟨e1, e2⟩
      · refine .inl ⟨?_, by simp; omega⟩
        rw [e1, show n + 1 + cs.length = (n + cs.length) + 1 by omega]
        simp
      · exact .inr ⟨e1, by rw [e2]⟩
  | _ + 1, [], [], l', h => by simp [overwrite] at h; exact .inr ⟨rfl, h⟩
  | _ + 1, [], _ :: _, l', h => by simp [overwrite] at h

theorem splice_eq {α : Type} (C vs : List α) (base n off : Nat) (h1 : base + n ≤ C.length) (h2 : off + vs.length ≤ n) :
    ((C.take (base + off) ++ vs ++ C.drop (base + off + vs.length)).drop base).take n =
      ((C.drop base).take n).take off ++ vs ++ ((C.drop base).take n).drop (off + vs.length) := by
  apply List.ext_getElem?
  intro k
  simp only [List.getElem?_take, List.getElem?_drop, List.getElem?_append, List.length_take, List.length_drop, List.length_append]
  (repeat' split) <;> first
    | rfl
    | (exfalso; omega)
    | (congr 1; omega)

theorem blt_false {v n : Nat} (h : Nat.blt v n = false) : n ≤ v := by
  rcases Nat.lt_or_ge v n with hlt | hge
  · have : Nat.blt v n = true := Nat.ble_eq_true_of_le hlt
    rw [this] at h; cases h
  · exact hge
theorem blt_true {v n : Nat} (h : Nat.blt v n = true) : v < n := Nat.le_of_ble_eq_true h
theorem ble_true {v n : Nat} (h : Nat.ble v n = true) : v ≤ n := Nat.le_of_ble_eq_true h
theorem ble_false {v n : Nat} (h : Nat.ble v n = false) : n < v := by
  rcases Nat.lt_or_ge n v with hlt | hge
  · exact hlt
  · rw [Nat.ble_eq_true_of_le hge] at h; cases h
theorem beq_true {v n : Nat} (h : Nat.beq v n = true) : v = n := Nat.eq_of_beq_eq_true h
theorem beq_false {v n : Nat} (h : Nat.beq v n = false) : v ≠ n := Nat.ne_of_beq_eq_false h

section
variable {ng B : Nat} {W : World} {φ : Phi} {s : St} {w : World} {T : Tab}

theorem stCells_ok (h : SR ng B W φ s w) {v off : Nat} {cs : List AV} {s' : St} (hs : stCells s v off cs = .ok s') {i : PI} (hi : φ v = some i) {vs : List Value} (hv : VRs φ cs vs) (P : Program) :
    ∃ w', (storeCells (i.at off) vs).run P w = .ok () w' ∧ SR ng B W φ s' w' := by
  unfold stCells at hs
  cases hb : Nat.blt v 1000 with
  | true => rw [hb] at hs; cases hs
  | false =>
    rw [hb] at hs
    simp only [cond_false] at hs
    have h1000 : 1000 ≤ v := blt_false hb
    cases ha : allSingle cs with
    | false => rw [ha] at hs; cases hs
    | true =>
      rw [ha] at hs
      simp only [cond_true] at hs
      cases hg : s.heap.get v with
      | none => rw [hg] at hs; cases hs
      | some o =>
        rw [hg] at hs
        cases o with
        | cells l e x =>
          simp only at hs
          cases ho : overwrite off l cs with
          | none => rw [ho] at hs; cases hs
          | some l' =>
            rw [ho] at hs
            cases hs
            obtain ⟨j, hj, c, e', fr, q1, q2, q3, q4, q5, q6⟩ := h.heap v _ hg
            rw [hi] at hj; cases hj
            have hover := overwrite_eq off l cs l' ho
            rcases hover with ⟨hl', hle⟩ | ⟨hcs, hl'⟩
            · have hlen := VRs.length hv
              obtain ⟨w', r1, r2, r3, r4, r5, r6, r7⟩ := run_storeCells_block P i.block (i.base + off) e' fr vs 0 c w q1 (by rw [hlen]; omega) (allSingle_one hv ha) (q4 h1000).2
              refine ⟨w', by simpa [PI.at] using r1, h.write h1000 hi hg _ w' r4 r5 r6 r7 r3 ?_⟩
              refine ⟨_, e', fr, r2, ?_, ?_, ?_, ?_, ?_⟩
              · simp only [List.size_toArray, List.length_append, List.length_take, List.length_drop, Array.length_toList, hlen]
                omega
              · intro hx
                refine ⟨(q3 hx).1, ?_⟩
                have := (q3 hx).2
                rw [hl']
                simp only [List.size_toArray, List.length_append, List.length_take, List.length_drop, Array.length_toList, hlen]
                omega
              · intro hv'
                refine ⟨(q4 hv').1, ?_⟩
                intro k hk
                refine (q4 hv').2 k ?_
                simp only [List.size_toArray, List.length_append, List.length_take, List.length_drop, Array.length_toList, hlen] at hk
                omega
              · rw [hl']
                simp only [List.size_toArray, List.length_append, List.length_take, List.length_drop, Array.length_toList, hlen]
                omega
              · have e1 : ((((c.toList.take (i.base + off + 0) ++ vs ++ c.toList.drop (i.base + off + 0 + vs.length)).toArray.toList.drop i.base).take l'.length)) =
                    (((c.toList.drop i.base).take l.length).take off) ++ vs ++ (((c.toList.drop i.base).take l.length).drop (off + cs.length)) := by
                  have hll : l'.length = l.length := by
                    rw [hl']; simp; omega
                  have := splice_eq c.toList vs i.base l.length off (by simpa using q5) (by rw [hlen]; exact hle)
                  rw [hlen] at this
                  simpa [hll, hlen] using this
                rw [e1, hl']
                refine VRs.append (VRs.append ?_ hv) (q6.drop _)
                have := VRs.take' off q6
                exact this
            · subst hcs
              have hv0 : vs = [] := hv
              subst hv0
              subst hl'
              refine ⟨w, by simp [storeCells], ?_⟩
              refine h.write h1000 hi hg _ w rfl rfl rfl rfl (fun _ _ => rfl) ?_
              exact ⟨c, e', fr, q1, q2, q3, q4, q5, q6⟩
        | _ => cases hs
end
end Go.Ex
namespace Go.Ex
open Go Go.RowKit

section
variable {ng B : Nat} {W : World} {φ : Phi} {s : St} {w : World} {T : Tab}

/-- an operation that gives a value: the executor's answer fits the model's -/
def ValOK (T : Tab) (ng B : Nat) (W : World) (φ : Phi) (w : World) (m : Sem Value) (r : R Out) : Prop :=
  ∀ o, r = .ok o → ∃ v s' φ' v' w', o = .val v s' ∧ φ.le φ' ∧ SR ng B W φ' s' w' ∧ VR φ' v v' ∧ m.run T.P w = .ok v' w'

theorem ValOK.same (h : SR ng B W φ s w) {m : Sem Value} {v : AV} {v' : Value} (hv : VR φ v v') (hr : m.run T.P w = .ok v' w) : ValOK T ng B W φ w m (.ok (.val v s)) := by
  intro o e
  cases e
  exact ⟨v, s, φ, v', w, rfl, Phi.le_refl φ, h, hv, hr⟩
theorem ValOK.err (m : Sem Value) (e : Nat) : ValOK T ng B W φ w m (.err e) := by intro o h; cases h

theorem newCells_ok (h : SR ng B W φ s w) {l : List AV} {c : Array Value} {e : TypeId} {x : Bool} (hlen : l.length ≤ c.size) (hx : x = true → c.size = l.length)
    (hv : VRs φ l (c.toList.take l.length)) :
    φ.le (φ.put s.next ⟨w.heap.size, 0, c.size⟩) ∧
    SR ng B W (φ.put s.next ⟨w.heap.size, 0, c.size⟩) { heap := s.heap.put s.next (.cells l e x), next := s.next + 1 } (w.alloc (.cells c e)) := by
  have hle : φ.le (φ.put s.next ⟨w.heap.size, 0, c.size⟩) := Phi.le_put (h.fresh s.next (Nat.le_refl _))
  refine ⟨hle, h.alloc _ _ _ ⟨c, e, (0, 0), heap_alloc_new w _, rfl, fun e => ⟨rfl, hx e⟩, fun _ => ⟨rfl, fun k _ hk => by omega⟩, by simpa using hlen, ?_⟩⟩
  simpa using hv.mono hle

theorem newCellsA_eq (s : St) (l : List AV) (e : TypeId) (x : Bool) (k : Nat → St → R Out) :
    newCellsA s l e x k = k s.next { heap := s.heap.put s.next (.cells l e x), next := s.next + 1 } := by
  simp [newCellsA, forceAs_eq, forceS_eq]

theorem run_newRow (P : Program) (e : TypeId) (c : Array Value) (w : World) : (newRow e c).run P w = .ok ⟨w.heap.size, 0, none⟩ (w.alloc (.cells c e)) := by
  simp [newRow]

theorem VRs.toArray_cells {a : AV} {v : Value} (h : VR φ a v) : VRs φ a.cells (v.cells.toList.take a.cells.length) := by
  have h1 := VR.cells h
  rw [List.take_of_length_le (by rw [VRs.length h1]; exact Nat.le_refl _)]
  exact h1

/-- a pointer to a new variable -/
theorem newVar_ok (h : SR ng B W φ s w) {a : AV} {v : Value} (ha : VR φ a v) (e : TypeId) (m : Sem Value) (hm : m.run T.P w = (newVar e v >>= fun a => pure (.pointer (some a))).run T.P w) :
    ValOK T ng B W φ w m (newCellsA s a.cells e true fun v s => .ok (.val (.ptr v 0) s)) := by
  rw [newCellsA_eq]
  intro o e'
  cases e'
  have hl := VRs.length (VR.cells ha)
  obtain ⟨q1, q2⟩ := newCells_ok (e := e) (x := true) h (l := a.cells) (c := v.cells) (by simpa using Nat.le_of_eq hl.symm) (fun _ => by simpa using hl) (VRs.toArray_cells ha)
  refine ⟨_, _, _, _, _, rfl, q1, q2, ⟨_, Phi.put_same .., rfl⟩, ?_⟩
  rw [hm]
  simp [newVar, run_newRow, PI.at]

theorem opAlloc_ok (hT : TabOK T) (h : SR ng B W φ s w) (elem : TypeId) : ValOK T ng B W φ w (Instr.alloc elem true (.tuple #[])) (opAlloc T s elem) := by
  unfold opAlloc
  intro o ho
  obtain ⟨z, hz, ho⟩ := R.bind_ok ho
  obtain ⟨zv, q1, q2, _⟩ := zeroA_ok (φ := φ) hT hz w
  refine newVar_ok h q2 elem _ ?_ o ho
  simp [Instr.alloc, q1]

theorem opBox_ok (h : SR ng B W φ s w) (elem : TypeId) {a : AV} {v : Value} (ha : VR φ a v) : ValOK T ng B W φ w (Instr.box elem v) (opBox s elem a) := by
  unfold opBox
  exact newVar_ok h ha elem _ (by simp [Instr.box])

/-! ### building -/
def PR (φ : Phi) : List (Nat × AV) → List (Nat × Value) → Prop
  | [], l => l = []
  | (i, a) :: ps, l => ∃ v r, VR φ a v ∧ PR φ ps r ∧ l = (i, v) :: r

theorem foldl_set (cs : List Value) : ∀ (vs : List Value) (k off : Nat) (C : Array Value), cs.length = 0 → True → off + k + vs.length ≤ C.size →
    (vs.zipIdx k).foldl (fun cs (c, j) => cs.setIfInBounds (off + j) c) C = (C.toList.take (off + k) ++ vs ++ C.toList.drop (off + k + vs.length)).toArray
  | [], k, off, C, _, _, _ => by simp
  | v :: vs, k, off, C, h0, _, hl => by
    rw [List.zipIdx_cons, List.foldl_cons, foldl_set cs vs (k + 1) off _ h0 trivial (by simp at hl ⊢; omega)]
    have e := list_seg_step C.toList (off + k) v vs (by simp at hl ⊢; omega)
    congr 1
    simpa [Array.toList_setIfInBounds, Nat.add_assoc] using e

theorem fill_ok (place : Nat → Option (Nat × Nat)) : ∀ {ps : List (Nat × AV)} {qs : List (Nat × Value)} {cells cells' : List AV} {C : Array Value},
    PR φ ps qs → VRs φ cells C.toList → fillA place cells ps = some cells' → ∃ C' : Array Value, Instr.fill place C qs = some C' ∧ VRs φ cells' C'.toList
  | [], _, cells, cells', C, hp, hc, h => by
    rw [show _ = _ from hp]
    simp [fillA] at h
    subst h
    exact ⟨C, rfl, hc⟩
  | (i, a) :: ps, _, cells, cells', C, ⟨v, r, ha, hr, e⟩, hc, h => by
    subst e
    simp only [fillA] at h
    cases hpl : place i with
    | none => rw [hpl] at h; cases h
    | some q =>
      obtain ⟨off, size⟩ := q
      rw [hpl] at h
      simp only at h
      cases hb0 : (Nat.beq a.cells.length size && !Nat.beq size 0) with
      | false => rw [hb0] at h; cases h
      | true =>
        rw [hb0] at h
        simp only [cond_true] at h
        rw [Bool.and_eq_true] at hb0
        obtain ⟨hb, hz⟩ := hb0
        cases ho : overwrite off cells a.cells with
        | none => rw [ho] at h; cases h
        | some cs' =>
          rw [ho] at h
          simp only at h
          have hac := VR.cells ha
          have hal := VRs.length hac
          have hcl := VRs.length hc
          have hsz : v.cells.size = size := by rw [← beq_true hb]; simpa using hal
          rcases overwrite_eq _ _ _ _ ho with ⟨e1, e2⟩ | ⟨e1, e2⟩
          · have hfit : off + v.cells.size ≤ C.size := by
              have : C.toList.length = C.size := by simp
              have h3 : v.cells.toList.length = v.cells.size := by simp
              omega
            have hfold : v.cells.zipIdx.foldl (fun cs (c, j) => cs.setIfInBounds (off + j) c) C = (C.toList.take off ++ v.cells.toList ++ C.toList.drop (off + v.cells.size)).toArray := by
              have := foldl_set [] v.cells.toList 0 off C rfl trivial (by simpa using hfit)
              rw [← Array.foldl_toList, Array.toList_zipIdx]
              simpa using this
            have hv' : VRs φ cs' ((C.toList.take off ++ v.cells.toList ++ C.toList.drop (off + v.cells.size)).toArray).toList := by
              rw [e1]
              simp only
              refine VRs.append (VRs.append (VRs.take' off hc) hac) ?_
              have h3 : v.cells.toList.length = v.cells.size := by simp
              rw [← hal, h3]
              exact hc.drop _
            obtain ⟨C', r1, r2⟩ := fill_ok place hr hv' h
            refine ⟨C', ?_, r2⟩
            simp only [Instr.fill, hpl]
            rw [if_neg (by simp [hsz]; omega), hfold]
            exact r1
          · exfalso
            have h0 : size = 0 := by rw [← beq_true hb, e1]; rfl
            rw [h0] at hz
            cases hz
end
end Go.Ex
namespace Go.Ex
open Go Go.RowKit

section
variable {ng B : Nat} {W : World} {φ : Phi} {s : St} {w : World} {T : Tab}

theorem run_underlying' (hT : TabOK T) {t : TypeId} {d : TypeDesc} (h : T.under t = some d) (w : World) : (underlying t).run T.P w = .ok d w :=
  run_underlying (hT.under t d h) w

theorem mapM_places (hT : TabOK T) (w : World) : ∀ (l : List Field) (pl : List (Nat × Nat)), placesA T l = some pl →
    (l.mapM fun f => do pure (f.offset, ← sizeOf f.type) : Sem (List (Nat × Nat))).run T.P w = .ok pl w
  | [], pl, h => by simp [placesA] at h; subst h; simp
  | f :: l, pl, h => by
    simp only [placesA] at h
    cases hi : T.info f.type with
    | none => rw [hi] at h; cases h
    | some j =>
      rw [hi] at h
      simp only at h
      cases hl : placesA T l with
      | none => rw [hl] at h; cases h
      | some r =>
        rw [hl] at h
        cases h
        have h2 := mapM_places hT w l r hl
        have h3 := hT.info _ _ hi
        rw [List.mapM_cons]
        simp only [Sem.run_bind, sizeOf, typeInfo, run_program, Result.andThen_ok, h3, Sem.run_pure] at h2 ⊢
        rw [h2]
        rfl

theorem opBuild_ok (hT : TabOK T) (h : SR ng B W φ s w) (ty : TypeId) {ps : List (Nat × AV)} {qs : Array (Nat × Value)} (hp : PR φ ps qs.toList) :
    ValOK T ng B W φ w (Instr.build ty qs) (opBuild T s ty ps) := by
  unfold opBuild
  intro o ho
  obtain ⟨z, hz, ho⟩ := R.bind_ok ho
  obtain ⟨zv, q1, q2, _⟩ := zeroA_ok (φ := φ) hT hz w
  have hzc := VR.cells q2
  cases hu : T.under ty with
  | none => rw [hu] at ho; cases ho
  | some d =>
    rw [hu] at ho
    have hru := run_underlying' hT hu w
    cases d with
    | struct fields =>
      simp only at ho
      cases hpl : placesA T fields.toList with
      | none => rw [hpl] at ho; cases ho
      | some pl =>
        rw [hpl] at ho
        simp only at ho
        cases hf : fillA (fun i : Nat => pl[i]?) z.cells ps with
        | none => rw [hf] at ho; cases ho
        | some cs =>
          rw [hf] at ho
          cases ho
          obtain ⟨C', r1, r2⟩ := fill_ok (fun i : Nat => pl[i]?) hp hzc hf
          refine ⟨_, _, φ, _, w, rfl, Phi.le_refl φ, h, ⟨C'.toList, r2, rfl⟩, ?_⟩
          have hm := mapM_places hT w fields.toList pl hpl
          have hm' : (fields.mapM fun f => do pure (f.offset, ← sizeOf f.type) : Sem (Array (Nat × Nat))).run T.P w = .ok pl.toArray w := by
            rw [Array.mapM_eq_mapM_toList, Sem.run_map, hm]
            rfl
          have hplace : (fun i : Nat => pl.toArray[i]?) = (fun i : Nat => pl[i]?) := by funext i; simp
          simp only [Instr.build, Sem.run_bind, q1, Result.andThen_ok, hru, hm', hplace, r1, Sem.run_pure]
    | array n elem =>
      simp only at ho
      obtain ⟨size, hsz, ho⟩ := R.bind_ok ho
      cases hf : fillA (fun i => some (i * size, size)) z.cells ps with
      | none => rw [hf] at ho; cases ho
      | some cs =>
        rw [hf] at ho
        cases ho
        obtain ⟨C', r1, r2⟩ := fill_ok (fun i => some (i * size, size)) hp hzc hf
        refine ⟨_, _, φ, _, w, rfl, Phi.le_refl φ, h, ⟨C'.toList, r2, rfl⟩, ?_⟩
        simp only [Instr.build, Sem.run_bind, q1, Result.andThen_ok, hru, sizeA_ok hT hsz w, r1, Sem.run_pure]
    | _ => cases ho

/-! ### zeros -/
def replV (n : Nat) (z : List Value) : List Value := match n with
  | 0 => []
  | n + 1 => z ++ replV n z
theorem VRs.repl {z : List AV} {zv : List Value} (h : VRs φ z zv) : ∀ n, VRs φ (repl n z) (replV n zv)
  | 0 => rfl
  | n + 1 => VRs.append h (VRs.repl h n)
theorem replV_length (z : List Value) : ∀ n, (replV n z).length = n * z.length
  | 0 => by simp [replV]
  | n + 1 => by simp [replV, replV_length z n, Nat.add_mul]; omega
theorem replV_get (z : List Value) (hz : 0 < z.length) : ∀ (n k : Nat), k < n * z.length → (replV n z)[k]? = z[k % z.length]?
  | 0, k, h => by simp at h
  | n + 1, k, h => by
    simp only [replV, List.getElem?_append]
    by_cases c : k < z.length
    · rw [if_pos c, Nat.mod_eq_of_lt c]
    · rw [if_neg c, replV_get z hz n (k - z.length) (by rw [Nat.add_mul] at h; omega)]
      rw [← Nat.mod_eq_sub_mod (by omega)]
theorem zeros_eq (z : Array Value) (n : Nat) : ((Array.range (n * z.size)).map (fun i => z[i % z.size]!)) = (replV n z.toList).toArray := by
  apply Array.ext'
  simp only [Array.toList_map, Array.toList_range]
  apply List.ext_getElem?
  intro k
  by_cases hz : z.size = 0
  · simp [hz]
    have : z.toList = [] := by simpa using hz
    rw [this]
    have : (replV n []).length = 0 := by rw [replV_length]; simp
    omega
  · by_cases hk : k < n * z.size
    · have hm : k % z.size < z.size := Nat.mod_lt _ (by omega)
      rw [replV_get z.toList (by simp; omega) n k (by simpa using hk)]
      simp [hk, hm]
    · rw [List.getElem?_eq_none (by simp; omega), List.getElem?_eq_none (by rw [replV_length]; simp; omega)]

theorem zerosA_ok (hT : TabOK T) {elem : TypeId} {size len : Nat} {z : List AV} (h : zerosA T elem size len = .ok z) (w : World) :
    ∃ zv : List Value, VRs φ z zv ∧ zv.length = len * size ∧
      (len * size = 0 ∧ zv = [] ∨ len * size ≠ 0 ∧ ∃ z0 : Value, (zeroValue elem).run T.P w = .ok z0 w ∧ z0.cells.size = size ∧ zv = replV len z0.cells.toList) := by
  unfold zerosA at h
  cases hb : Nat.beq (len * size) 0 with
  | true =>
    rw [hb] at h
    cases h
    have := beq_true hb
    exact ⟨[], rfl, by simp [this], .inl ⟨this, rfl⟩⟩
  | false =>
    rw [hb] at h
    simp only [cond_false] at h
    obtain ⟨y, hy, h⟩ := R.bind_ok h
    cases hb2 : Nat.beq y.cells.length size with
    | false => rw [hb2] at h; cases h
    | true =>
      rw [hb2] at h
      cases h
      obtain ⟨zv, q1, q2, _⟩ := zeroA_ok (φ := φ) hT hy w
      have hc := VR.cells q2
      have hl := VRs.length hc
      have hs : zv.cells.size = size := by rw [← beq_true hb2]; simpa using hl
      exact ⟨_, VRs.repl hc len, by rw [replV_length]; simp [hs], .inr ⟨beq_false hb, zv, q1, hs, rfl⟩⟩

theorem opBuildSlice_ok (hT : TabOK T) (h : SR ng B W φ s w) (ty : TypeId) (len : Nat) {ps : List (Nat × AV)} {qs : Array (Nat × Value)} (hp : PR φ ps qs.toList) :
    ValOK T ng B W φ w (Instr.buildSlice ty len qs) (opBuildSlice T s ty len ps) := by
  unfold opBuildSlice
  intro o ho
  cases hu : T.under ty with
  | none => rw [hu] at ho; cases ho
  | some d =>
    rw [hu] at ho
    have hru := run_underlying' hT hu w
    cases d with
    | slice elem =>
      simp only at ho
      obtain ⟨size, hsz, ho⟩ := R.bind_ok ho
      cases hb : Nat.ble (len * size) 100000 with
      | false => rw [hb] at ho; cases ho
      | true =>
        rw [hb] at ho
        simp only [cond_true] at ho
        have hsmall := ble_true hb
        obtain ⟨z, hz, ho⟩ := R.bind_ok ho
        obtain ⟨zv, z1, z2, z3⟩ := zerosA_ok (φ := φ) hT hz w
        cases hf : fillA (fun i => some (i * size, size)) z ps with
        | none => rw [hf] at ho; cases ho
        | some cs =>
          rw [hf] at ho
          simp only [newCellsA_eq] at ho
          cases ho
          obtain ⟨C', r1, r2⟩ := fill_ok (C := zv.toArray) (fun i => some (i * size, size)) hp (by simpa using z1) hf
          have hl := VRs.length r2
          obtain ⟨n1, n2⟩ := newCells_ok (e := elem) (x := true) h (l := cs) (c := C') (by simpa using Nat.le_of_eq hl.symm) (fun _ => by simpa using hl) (by
            rw [List.take_of_length_le (by rw [hl]; exact Nat.le_refl _)]; exact r2)
          refine ⟨_, _, _, _, _, rfl, n1, n2, ⟨_, Phi.put_same .., rfl⟩, ?_⟩
          have hsize := sizeA_ok hT hsz w
          simp only [Instr.buildSlice, Sem.run_bind, hru, Result.andThen_ok, hsize]
          rw [if_neg (by omega)]
          rcases z3 with ⟨e0, rfl⟩ | ⟨e0, z0, hz0, hzs, rfl⟩
          · rw [if_pos e0]
            have : (Array.range (len * size)).map (fun i => (#[] : Array Value)[i % (#[] : Array Value).size]!) = ([] : List Value).toArray := by rw [e0]; simp
            simp only [Sem.run_pure, Result.andThen_ok, this, r1, Sem.run_bind, run_newRow, PI.at]
          · rw [if_neg e0]
            have := zeros_eq z0.cells len
            rw [hzs] at this
            simp only [Sem.run_bind, hz0, Sem.run_pure, Result.andThen_ok, hzs, this, r1, run_newRow, PI.at]
    | _ => cases ho
end
end Go.Ex
namespace Go.Ex
open Go Go.RowKit

section
variable {ng B : Nat} {W : World} {φ : Phi} {s : St} {w : World} {T : Tab}

theorem wrap64_small (n : Nat) (h : n < 9223372036854775808) : IntKind.i64.wrap (n : Int) = n := by
  simp [IntKind.wrap, IntKind.bits, IntKind.signed]
  omega

theorem opMakeSlice_ok (hT : TabOK T) (h : SR ng B W φ s w) (ty : TypeId) {l c : AV} {lv cv : Value} (hl : VR φ l lv) (hc : VR φ c cv) :
    ValOK T ng B W φ w (Instr.makeSlice ty lv cv) (opMakeSlice T s ty l c) := by
  unfold opMakeSlice
  intro o ho
  split at ho
  · rename_i elem k1 l k2 c hu
    cases hl
    cases hc
    have hru := run_underlying' hT hu w
    cases hb : (Nat.ble l c && (Nat.blt c 100000 && smallA T elem)) with
    | false => rw [hb] at ho; cases ho
    | true =>
      rw [hb] at ho
      simp only [cond_true] at ho
      simp only [Bool.and_eq_true] at hb
      obtain ⟨hb1, hb2, hb3⟩ := hb
      have hle := ble_true hb1
      have hlt := blt_true hb2
      unfold smallA at hb3
      cases hi : T.info elem with
      | none => rw [hi] at hb3; cases hb3
      | some inf =>
        rw [hi] at hb3
        have hby := blt_true hb3
        have hinf := hT.info _ _ hi
        obtain ⟨size, hsz, ho⟩ := R.bind_ok ho
        obtain ⟨z, hz, ho⟩ := R.bind_ok ho
        obtain ⟨zv, z1, z2, z3⟩ := zerosA_ok (φ := φ) hT hz w
        simp only [newCellsA_eq] at ho
        cases ho
        have hzl := VRs.length z1
        obtain ⟨n1, n2⟩ := newCells_ok (e := elem) (x := true) h (l := z) (c := zv.toArray) (by simpa using Nat.le_of_eq hzl.symm) (fun _ => by simpa using hzl) (by
          rw [List.take_of_length_le (by rw [← hzl]; exact Nat.le_refl _)]; exact z1)
        refine ⟨_, _, _, _, _, rfl, n1, n2, ⟨_, Phi.put_same .., rfl⟩, ?_⟩
        have hsize := sizeA_ok hT hsz w
        have w1 := wrap64_small l (by omega)
        have w2 := wrap64_small c (by omega)
        have hbc : inf.bytes * c < 281474976710656 := by
          have : inf.bytes * c ≤ 100000 * 100000 := Nat.mul_le_mul (by omega) (by omega)
          omega
        have hbig : ¬ ((inf.bytes : Int) * (c : Int) > 2 ^ 48) := by
          have : ((inf.bytes * c : Nat) : Int) < 281474976710656 := by omega
          rw [Int.natCast_mul] at this
          omega
        have hcond : ((decide ((Int.ofNat c) < 0) || decide ((inf.bytes : Int) * Int.ofNat c > 2 ^ 48)) || decide (Int.ofNat l < 0) || decide (Int.ofNat l > Int.ofNat c)) = false := by
          simp only [Int.ofNat_eq_natCast]
          simp
          refine ⟨?_, ?_⟩ <;> first | omega | (refine ⟨?_, ?_⟩ <;> omega)
        simp only [Instr.makeSlice, Sem.run_bind, hru, Result.andThen_ok, asInt, asIntOf, Sem.run_pure, typeInfo, run_program, hinf]
        simp only [Int.ofNat_eq_natCast, w1, w2] at hcond ⊢
        rw [if_neg (by rw [hcond]; simp)]
        simp only [Sem.run_bind, run_askRoom, Result.andThen_ok, hsize, Int.toNat_natCast]
        rcases z3 with ⟨e0, rfl⟩ | ⟨e0, z0, hz0, hzs, rfl⟩
        · rw [if_pos e0]
          have : (Array.range (c * size)).map (fun i => (#[] : Array Value)[i % (#[] : Array Value).size]!) = ([] : List Value).toArray := by rw [e0]; simp
          simp only [Sem.run_pure, Result.andThen_ok, this, Sem.run_bind, run_newRow, PI.at]
        · rw [if_neg e0]
          have := zeros_eq z0.cells c
          rw [hzs] at this
          simp only [Sem.run_bind, hz0, Sem.run_pure, Result.andThen_ok, hzs, this, run_newRow, PI.at]
  · cases ho

theorem newObj_ok (h : SR ng B W φ s w) (o : AObj) (obj : Obj) (n : Nat) (ho : ∀ ψ : Phi, φ.le ψ → OR ψ s.next ⟨w.heap.size, 0, n⟩ (w.alloc obj) o) :
    φ.le (φ.put s.next ⟨w.heap.size, 0, n⟩) ∧ SR ng B W (φ.put s.next ⟨w.heap.size, 0, n⟩) { heap := s.heap.put s.next o, next := s.next + 1 } (w.alloc obj) := by
  have hle : φ.le (φ.put s.next ⟨w.heap.size, 0, n⟩) := Phi.le_put (h.fresh s.next (Nat.le_refl _))
  exact ⟨hle, h.alloc _ _ _ (ho _ hle)⟩

theorem opMakeMap_ok (h : SR ng B W φ s w) (ty : TypeId) (r : Option Operand) (ρ : Operand → Value) : ValOK T ng B W φ w (Instr.makeMap ty (r.map ρ)) (opMakeMap s r) := by
  cases r with
  | some r => exact ValOK.err _ _
  | none =>
    intro o ho
    cases ho
    obtain ⟨q1, q2⟩ := newObj_ok h (.map [] 0) (.map #[] 0) 0 (fun ψ _ => ⟨#[], heap_alloc_new w _, rfl⟩)
    refine ⟨_, _, _, _, _, rfl, q1, q2, ⟨_, Phi.put_same .., rfl⟩, ?_⟩
    simp [Instr.makeMap]

theorem opMakeInterface_ok (hT : TabOK T) (h : SR ng B W φ s w) (ty : TypeId) {x : AV} {v : Value} (hx : VR φ x v) : ValOK T ng B W φ w (Instr.makeInterface ty v) (opMakeInterface T s ty x) := by
  unfold opMakeInterface
  intro o ho
  split at ho
  · cases ho
  · cases ho
  · rename_i d hd hne
    refine ValOK.same h (v := .iface ty x) (v' := .iface ty v) ⟨v, hx, rfl⟩ ?_ o ho
    simp only [Instr.makeInterface, Sem.run_bind, run_underlying' hT hne w, Result.andThen_ok]
    rfl

theorem opFieldAddr_ok (hT : TabOK T) (h : SR ng B W φ s w) (st : TypeId) (f : Nat) {x : AV} {v : Value} (hx : VR φ x v) : ValOK T ng B W φ w (Instr.fieldAt st v f) (opFieldAddr T s st x f) := by
  unfold opFieldAddr
  intro o ho
  split at ho
  · rename_i fields hu
    split at ho
    · rename_i fd b off hf
      obtain ⟨i, hi, rfl⟩ := hx
      obtain ⟨n, hn, ho⟩ := R.bind_ok ho
      cases hb : Nat.beq n 0 with
      | true => rw [hb] at ho; cases ho
      | false =>
        rw [hb] at ho
        simp only [cond_false] at ho
        have hne := beq_false hb
        refine ValOK.same h (v := .ptr b (off + fd.offset)) (v' := .pointer (some (i.at (off + fd.offset)))) ⟨i, hi, rfl⟩ ?_ o ho
        simp only [Instr.fieldAt, Sem.run_bind, run_underlying' hT hu w, Result.andThen_ok, hf, Instr.sureAddr, Sem.run_pure, fieldPlace, sizeA_ok hT hn w, if_neg hne, at_add]
    · cases ho
  · cases ho

theorem partA_ok (hT : TabOK T) {ty : TypeId} {cs : List AV} {off : Nat} {x : AV} (hx : partA T ty cs off = .ok x) {vs : List Value} (hv : VRs φ cs vs) (w : World) :
    ∃ v, VR φ x v ∧ (part ty ⟨vs⟩ off).run T.P w = .ok v w := by
  unfold partA at hx
  obtain ⟨b, hb, hx⟩ := R.bind_ok hx
  have hag := isAggA_ok hT hb w
  cases b with
  | true =>
    simp only at hx
    obtain ⟨n, hn, hx⟩ := R.bind_ok hx
    cases ht : takeExact n (cs.drop off) with
    | none => rw [ht] at hx; cases hx
    | some l =>
      rw [ht] at hx
      cases hx
      obtain ⟨q1, q2, q3⟩ := VRs.take n ht (hv.drop off)
      refine ⟨_, ⟨_, q1, rfl⟩, ?_⟩
      simp only [part, Sem.run_bind, hag, Result.andThen_ok, if_true, sizeA_ok hT hn w, Sem.run_pure]
      congr 2
      apply Array.ext'
      simp [List.extract_eq_take_drop]
  | false =>
    simp only at hx
    obtain ⟨v, h1, h2⟩ := VRs.getElem? hv off (opt_ok hx)
    refine ⟨v, h2, ?_⟩
    have : (⟨vs⟩ : Array Value)[off]? = some v := by simpa using h1
    simp [part, hag, this]

theorem opField_ok (hT : TabOK T) (h : SR ng B W φ s w) (st : TypeId) (f : Nat) {x : AV} {v : Value} (hx : VR φ x v) : ValOK T ng B W φ w (Instr.field st v f) (opField T s st x f) := by
  unfold opField
  intro o ho
  split at ho
  · rename_i fields hu
    split at ho
    · rename_i fd cs hf
      obtain ⟨vs, hvs, rfl⟩ := hx
      obtain ⟨y, hy, ho⟩ := R.bind_ok ho
      obtain ⟨yv, q1, q2⟩ := partA_ok hT hy hvs w
      refine ValOK.same h q1 ?_ o ho
      simp only [Instr.field, Sem.run_bind, run_underlying' hT hu w, Result.andThen_ok, hf, asAgg, Sem.run_pure, q2]
    · cases ho
  · cases ho

theorem opIndexAddr_ok (hT : TabOK T) (h : SR ng B W φ s w) (ty : TypeId) {x i : AV} {v iv : Value} (hx : VR φ x v) (hi : VR φ i iv) : ValOK T ng B W φ w (Instr.indexAt ty v iv) (opIndexAddr T s ty x i) := by
  unfold opIndexAddr
  intro o ho
  split at ho
  · rename_i k n
    cases hi
    split at ho
    · rename_i m e b off hu
      obtain ⟨p, hp, rfl⟩ := hx
      cases hb : Nat.blt n m with
      | false => rw [hb] at ho; cases ho
      | true =>
        rw [hb] at ho
        simp only [cond_true] at ho
        have hlt := blt_true hb
        obtain ⟨sz, hsz, ho⟩ := R.bind_ok ho
        refine ValOK.same h (v := .ptr b (off + n * sz)) (v' := .pointer (some (p.at (off + n * sz)))) ⟨p, hp, rfl⟩ ?_ o ho
        simp only [Instr.indexAt, asIntOf, Sem.run_bind, Sem.run_pure, Result.andThen_ok, run_underlying' hT hu w, Instr.sureAddr]
        have hc : (0 : Int) ≤ Int.ofNat n ∧ Int.ofNat n < (m : Int) := ⟨by simp, by simp; exact hlt⟩
        rw [if_pos hc]
        simp only [Sem.run_bind, sizeA_ok hT hsz w, Result.andThen_ok, Sem.run_pure, at_add]
        simp
    · rename_i e b off len cap hu
      obtain ⟨p, hp, rfl⟩ := hx
      cases hb : Nat.blt n len with
      | false => rw [hb] at ho; cases ho
      | true =>
        rw [hb] at ho
        simp only [cond_true] at ho
        have hlt := blt_true hb
        obtain ⟨sz, hsz, ho⟩ := R.bind_ok ho
        refine ValOK.same h (v := .ptr b (off + n * sz)) (v' := .pointer (some (p.at (off + n * sz)))) ⟨p, hp, rfl⟩ ?_ o ho
        simp only [Instr.indexAt, asIntOf, Sem.run_bind, Sem.run_pure, Result.andThen_ok, run_underlying' hT hu w]
        have hc : (0 : Int) ≤ Int.ofNat n ∧ Int.ofNat n < (len : Int) := ⟨by simp, by simp; exact hlt⟩
        rw [if_pos hc]
        simp only [Sem.run_bind, sizeA_ok hT hsz w, Result.andThen_ok, Sem.run_pure, at_add]
        simp
    · rename_i e b off len esz hu
      obtain ⟨p, cc, hp, _, _, rfl⟩ := hx
      cases hb : Nat.blt n len with
      | false => rw [hb] at ho; cases ho
      | true =>
        rw [hb] at ho
        simp only [cond_true] at ho
        have hlt := blt_true hb
        obtain ⟨sz, hsz, ho⟩ := R.bind_ok ho
        refine ValOK.same h (v := .ptr b (off + n * sz)) (v' := .pointer (some (p.at (off + n * sz)))) ⟨p, hp, rfl⟩ ?_ o ho
        simp only [Instr.indexAt, asIntOf, Sem.run_bind, Sem.run_pure, Result.andThen_ok, run_underlying' hT hu w]
        have hc : (0 : Int) ≤ Int.ofNat n ∧ Int.ofNat n < (len : Int) := ⟨by simp, by simp; exact hlt⟩
        rw [if_pos hc]
        simp only [Sem.run_bind, sizeA_ok hT hsz w, Result.andThen_ok, Sem.run_pure, at_add]
        simp
    · cases ho
  · cases ho

theorem bytes_get {l : List UInt8} {n : Nat} {b : UInt8} (h : l[n]? = some b) : (⟨⟨l⟩⟩ : ByteArray)[n]? = some b := by
  obtain ⟨hn, e⟩ := List.getElem?_eq_some_iff.1 h
  have hs : n < (⟨⟨l⟩⟩ : ByteArray).size := hn
  rw [getElem?_pos (⟨⟨l⟩⟩ : ByteArray) n hs]
  exact congrArg some e

theorem opIndex_ok (hT : TabOK T) (h : SR ng B W φ s w) (ty : TypeId) {x i : AV} {v iv : Value} (hx : VR φ x v) (hi : VR φ i iv) : ValOK T ng B W φ w (Instr.index ty v iv) (opIndex T s ty x i) := by
  unfold opIndex
  intro o ho
  split at ho
  · rename_i k n
    cases hi
    split at ho
    · rename_i m e cs hu
      obtain ⟨vs, hvs, rfl⟩ := hx
      cases hb : Nat.blt n m with
      | false => rw [hb] at ho; cases ho
      | true =>
        rw [hb] at ho
        simp only [cond_true] at ho
        have hlt := blt_true hb
        obtain ⟨sz, hsz, ho⟩ := R.bind_ok ho
        obtain ⟨y, hy, ho⟩ := R.bind_ok ho
        obtain ⟨yv, q1, q2⟩ := partA_ok hT hy hvs w
        refine ValOK.same h q1 ?_ o ho
        simp only [Instr.index, asIntOf, Sem.run_bind, Sem.run_pure, Result.andThen_ok, run_underlying' hT hu w]
        have hc : (0 : Int) ≤ Int.ofNat n ∧ Int.ofNat n < (m : Int) := ⟨by simp, by simp; exact hlt⟩
        rw [if_pos hc]
        simpa only [Sem.run_bind, sizeA_ok hT hsz w, Result.andThen_ok, Int.ofNat_eq_natCast, Int.toNat_natCast] using q2
    · rename_i l hu
      cases hx
      cases hl : l[n]? with
      | none => rw [hl] at ho; cases ho
      | some b =>
        rw [hl] at ho
        refine ValOK.same h (v := .int .u8 b.toNat) (v' := .int .u8 b.toNat) rfl ?_ o ho
        have := bytes_get hl
        simp only [Instr.index, asIntOf, Sem.run_bind, Sem.run_pure, Result.andThen_ok, run_underlying' hT hu w, Int.ofNat_eq_natCast, Int.toNat_natCast]
        rw [if_pos (by omega), this]
        rfl
    · cases ho
  · cases ho

theorem opNilCheck_ok {x : AV} {v : Value} (hx : VR φ x v) (ρ : Operand → Value) (y : Operand) (hy : ρ y = v) (o : Oper) (hop : o.op = .nilCheck y) :
    ∀ out, opNilCheck s x = .ok out → out = .val x s ∧ (execOp ρ o).run T.P w = .ok (.value v) w := by
  intro out ho
  cases x with
  | ptr b off => cases ho; obtain ⟨i, hi, rfl⟩ := hx; exact ⟨rfl, by simp only [execOp, hop, hy]; rfl⟩
  | func f a b => cases ho; obtain ⟨xs, ys, h1, h2, rfl⟩ := hx; exact ⟨rfl, by simp only [execOp, hop, hy]; rfl⟩
  | yieldF b => cases ho; obtain ⟨i, hi, rfl⟩ := hx; exact ⟨rfl, by simp only [execOp, hop, hy]; rfl⟩
  | iface t x => cases ho; obtain ⟨y', hy', rfl⟩ := hx; exact ⟨rfl, by simp only [execOp, hop, hy]; rfl⟩
  | _ => cases ho

theorem opExtract_ok (h : SR ng B W φ s w) {x : AV} {v : Value} (hx : VR φ x v) (i : Nat) : ValOK T ng B W φ w (Instr.extract v i) (opExtract s x i) := by
  unfold opExtract
  intro o ho
  split at ho
  · rename_i vs
    obtain ⟨xs, hxs, rfl⟩ := hx
    cases hg : vs[i]? with
    | none => rw [hg] at ho; cases ho
    | some y =>
      rw [hg] at ho
      obtain ⟨yv, q1, q2⟩ := VRs.getElem? hxs i hg
      refine ValOK.same h q2 ?_ o ho
      have : (⟨xs⟩ : Array Value)[i]? = some yv := by simpa using q1
      simp [Instr.extract, this]
  · cases ho
end
end Go.Ex
namespace Go.Ex
open Go Go.RowKit

section
variable {ng B : Nat} {W : World} {φ : Phi} {s : St} {w : World} {T : Tab}

theorem psem_ok (P : Program) {α : Type} : ∀ (m : Sem α) {a : α}, psem P m = some a → ∀ w, m.run P w = .ok a w
  | .pure b, a, h, w => by simp [psem] at h; subst h; rfl
  | .program k, a, h, w => by simp only [psem] at h; exact psem_ok P (k P) h w
  | .mark _ k, a, h, w => by simp only [psem] at h; exact psem_ok P k h w
  | .load .., _, h, _ => by cases h
  | .store .., _, h, _ => by cases h
  | .new .., _, h, _ => by cases h
  | .shape .., _, h, _ => by cases h
  | .freeze .., _, h, _ => by cases h
  | .frozen .., _, h, _ => by cases h
  | .getObj .., _, h, _ => by cases h
  | .setObj .., _, h, _ => by cases h
  | .choose .., _, h, _ => by cases h
  | .sys .., _, h, _ => by cases h
  | .halt .., _, h, _ => by cases h

theorem pureV_ok (h : SR ng B W φ s w) (m : Sem Value) : ValOK T ng B W φ w m (pureV T s m) := by
  unfold pureV
  intro o ho
  cases hp : psem T.P m with
  | none => rw [hp] at ho; cases ho
  | some v =>
    rw [hp] at ho
    cases hv : ofV v with
    | none => simp only [hv] at ho; cases ho
    | some a =>
      simp only [hv] at ho
      exact ValOK.same h (ofV_VR φ v hv) (psem_ok T.P m hp w) o ho

theorem nbeq_eq (m n : Nat) : Nat.beq m n = decide (m = n) := by
  cases hb : Nat.beq m n with
  | true => simp [beq_true hb]
  | false => have := beq_false hb; simp [this]
theorem beqI_eq (a b : Int) : beqI a b = (a == b) := by
  rw [Bool.eq_iff_iff, beq_iff_eq]
  cases a with
  | ofNat m =>
    cases b with
    | ofNat n => simp only [beqI, nbeq_eq, decide_eq_true_eq]; exact ⟨fun h => by rw [h], fun h => Int.ofNat.inj h⟩
    | negSucc n => simp [beqI]
  | negSucc m =>
    cases b with
    | ofNat n => simp [beqI]
    | negSucc n => simp only [beqI, nbeq_eq, decide_eq_true_eq]; exact ⟨fun h => by rw [h], fun h => Int.negSucc.inj h⟩
theorem blt_eq (a b : Nat) : Nat.blt a b = decide (a < b) := by
  cases h : Nat.blt a b with
  | true => simp [blt_true h]
  | false => have := blt_false h; simp; omega
theorem ltI_eq (a b : Int) : ltI a b = decide (a < b) := by
  cases a with
  | ofNat m =>
    cases b with
    | ofNat n => simp only [ltI, blt_eq]; rw [decide_eq_decide]; simp
    | negSucc n => simp only [ltI]; symm; rw [decide_eq_false_iff_not]; simp; omega
  | negSucc m =>
    cases b with
    | ofNat n => simp only [ltI]; symm; rw [decide_eq_true_iff]; simp; omega
    | negSucc n => simp only [ltI, blt_eq]; rw [decide_eq_decide]; omega

theorem cmpA_ok {op : BinOp} {a b : Int} {x : AV} (h : cmpA op a b = some x) (P : Program) (w : World) : ∃ v, x = .bool v ∧ (Op.intCmp op a b).run P w = .ok (.bool v) w := by
  cases op <;> simp [cmpA] at h <;> subst h <;> refine ⟨_, rfl, ?_⟩ <;> simp only [Op.intCmp, Sem.run_pure, beqI_eq, ltI_eq]
  · rfl
  · congr 2; rw [← decide_not]; rw [decide_eq_decide]; omega
  · congr 2; rw [← decide_not]; rw [decide_eq_decide]; omega

theorem cmpA_op {op : BinOp} {a b : Int} {x : AV} (h : cmpA op a b = some x) : op = .eql ∨ op = .neq ∨ op = .lss ∨ op = .gtr ∨ op = .leq ∨ op = .geq := by
  cases op <;> simp [cmpA] at h <;> simp

/-- the model's operation on two operands -/
abbrev binM (op : BinOp) (ty : TypeId) (x y : Operand) (a b : Value) : Sem Value := eqGuard op ty x y a b >>= fun _ => binOp op ty a b

theorem eqGuard_int (op : BinOp) (ty : TypeId) (x y : Operand) (k l : IntKind) (m n : Int) (P : Program) (w : World) :
    (eqGuard op ty x y (.int k m) (.int l n)).run P w = .ok () w := by
  unfold eqGuard
  split <;> simp

theorem wrap64_neg (n : Nat) (h : n < 9223372036854775808) : IntKind.i64.wrap (Int.negSucc n) = Int.negSucc n :=
  IntWalk.i64_in _ (by omega)

theorem intA_ok {op : BinOp} {a b : Int} {x : AV} (h : intA op a b = some x) (ty : TypeId) (P : Program) (w : World) :
    ∃ n, x = .int .i64 n ∧ (binOp op ty (.int .i64 a) (.int .i64 b)).run P w = .ok (.int .i64 n) w := by
  cases op <;> simp only [intA] at h <;> try cases h
  all_goals
    split at h
    · rename_i n hn
      cases hb : Nat.blt n lit64 with
      | false => rw [hb] at h; cases h
      | true =>
        rw [hb] at h
        cases h
        refine ⟨_, rfl, ?_⟩
        have := wrap64_small n (blt_true hb)
        simp only [binOp, ne_eq, not_true_eq_false, if_false, Op.intArith, Sem.run_pure, hn]
        rw [show IntKind.i64.wrap (Int.ofNat n) = Int.ofNat n from this]
    · rename_i n hn
      cases hb : Nat.blt n lit64 with
      | false => rw [hb] at h; cases h
      | true =>
        rw [hb] at h
        cases h
        refine ⟨_, rfl, ?_⟩
        have := wrap64_neg n (blt_true hb)
        simp only [binOp, ne_eq, not_true_eq_false, if_false, Op.intArith, Sem.run_pure, hn, this]

theorem bin_cmp {op : BinOp} (ty : TypeId) (k : IntKind) (m n : Int) (h : op = .eql ∨ op = .neq ∨ op = .lss ∨ op = .gtr ∨ op = .leq ∨ op = .geq) :
    binOp op ty (.int k m) (.int k n) = Op.intCmp op m n := by
  rcases h with rfl | rfl | rfl | rfl | rfl | rfl <;> simp [binOp]

theorem nilOne_ok' {d : TypeDesc} {a b : AV} (h : nilOne d a b = true) {av bv : Value} (ha : VR φ a av) (hb : VR φ b bv) {ty : TypeId} {P : Program} (hu : P.underlying ty = some d) (w : World) (q : Nat) :
    (Op.equalIn (q + 1) ty av bv).run P w = .ok false w := by
  unfold nilOne at h
  split at h
  · obtain ⟨i, hi, rfl⟩ := ha; subst hb; simp [Op.equalIn, run_underlying hu]
  · obtain ⟨i, hi, rfl⟩ := hb; subst ha; simp [Op.equalIn, run_underlying hu]
  · obtain ⟨i, hi, rfl⟩ := ha; subst hb; simp [Op.equalIn, run_underlying hu]
  · obtain ⟨i, hi, rfl⟩ := hb; subst ha; simp [Op.equalIn, run_underlying hu]
  · obtain ⟨i, c, h1, h2, h3, rfl⟩ := ha; subst hb; simp [Op.equalIn, run_underlying hu]
  · obtain ⟨i, c, h1, h2, h3, rfl⟩ := hb; subst ha; simp [Op.equalIn, run_underlying hu]
  · obtain ⟨i, c, rfl⟩ := ha; subst hb; simp [Op.equalIn, run_underlying hu]
  · obtain ⟨i, c, rfl⟩ := hb; subst ha; simp [Op.equalIn, run_underlying hu]
  · obtain ⟨i, hi, rfl⟩ := ha; subst hb; simp [Op.equalIn, run_underlying hu]
  · obtain ⟨i, hi, rfl⟩ := hb; subst ha; simp [Op.equalIn, run_underlying hu]
  · obtain ⟨i, c, h1, h2, rfl⟩ := ha; subst hb; simp [Op.equalIn, run_underlying hu]
  · obtain ⟨i, c, h1, h2, rfl⟩ := hb; subst ha; simp [Op.equalIn, run_underlying hu]
  · obtain ⟨i, hi, rfl⟩ := ha; subst hb; simp [Op.equalIn, run_underlying hu]
  · obtain ⟨i, hi, rfl⟩ := hb; subst ha; simp [Op.equalIn, run_underlying hu]
  · obtain ⟨y, hy, rfl⟩ := ha; subst hb; simp [Op.equalIn, run_underlying hu]
  · obtain ⟨y, hy, rfl⟩ := hb; subst ha; simp [Op.equalIn, run_underlying hu]
  · cases h
theorem nilOne_ok {d : TypeDesc} {a b : AV} (h : nilOne d a b = true) {av bv : Value} (ha : VR φ a av) (hb : VR φ b bv) {ty : TypeId} {P : Program} (hu : P.underlying ty = some d) (w : World) :
    (Op.equal ty av bv).run P w = .ok false w := nilOne_ok' h ha hb hu w 9999
end
end Go.Ex
namespace Go.Ex
open Go Go.RowKit

section
variable {ng B : Nat} {W : World} {φ : Phi} {s : St} {w : World} {T : Tab}

theorem run_sameAddr_block (P : Program) (w : World) (b o1 o2 : Nat) : (sameAddr ⟨b, o1, none⟩ ⟨b, o2, none⟩).run P w = .ok (decide (o1 = o2)) w := by
  simp [sameAddr]
  by_cases h : o1 = o2 <;> simp [h]

theorem eqAddr_ok (hT : TabOK T) (w : World) (ty : TypeId) (same : Bool) {a b : AV} {av bv : Value} (ha : VR φ a av) (hb : VR φ b bv) :
    ∀ out, eqAddr T s ty same a b = .ok out → ∃ r : Bool, out = .val (.bool (r == same)) s ∧ (Op.equal ty av bv).run T.P w = .ok r w := by
  unfold eqAddr
  intro out ho
  cases hu : T.under ty with
  | none => rw [hu] at ho; cases ho
  | some d =>
    rw [hu] at ho
    simp only at ho
    cases hn : nilOne d a b with
    | true =>
      rw [hn] at ho
      cases ho
      exact ⟨false, by cases same <;> rfl, nilOne_ok hn ha hb (hT.under _ _ hu) w⟩
    | false =>
      rw [hn] at ho
      simp only at ho
      split at ho
      · rename_i el v o1 v' o2
        obtain ⟨n, hn', ho⟩ := R.bind_ok ho
        cases hc : (Nat.beq v v' && !Nat.beq n 0) with
        | false => rw [hc] at ho; cases ho
        | true =>
          rw [hc] at ho
          simp only [cond_true] at ho
          cases ho
          rw [Bool.and_eq_true] at hc
          obtain ⟨c1, c2⟩ := hc
          have e := beq_true c1
          subst e
          have hne : n ≠ 0 := by
            intro e0; subst e0; cases c2
          obtain ⟨i, hi, rfl⟩ := ha
          obtain ⟨j, hj, rfl⟩ := hb
          rw [hi] at hj; cases hj
          refine ⟨decide (o1 = o2), by rw [nbeq_eq], ?_⟩
          have key : ∀ q, (Op.equalIn (q + 1) ty (.pointer (some (i.at o1))) (.pointer (some (i.at o2)))).run T.P w = .ok (decide (o1 = o2)) w := by
            intro q
            simp only [Op.equalIn, Sem.run_bind, run_underlying (hT.under _ _ hu), Result.andThen_ok, sizeA_ok hT hn' w]
            simp only [ne_eq, hne, not_false_eq_true, if_true, PI.at, run_sameAddr_block]
            congr 1
            rw [decide_eq_decide]
            omega
          exact key 9999
      · cases ho

theorem VR.not_nil {a : AV} {v : Value} (h : VR φ a v) (ht : toV a = none) : v ≠ .nilIface := by
  intro e
  subst e
  cases a with
  | nilIface => cases ht
  | bool b => cases h
  | int k n => cases h
  | float k n => cases h
  | string b => cases h
  | nilptr => cases h
  | nilslice => cases h
  | nilmap => cases h
  | nilFunc => cases h
  | ptr v o => obtain ⟨i, hi, e⟩ := h; cases e
  | slice a b c d => obtain ⟨i, hi, e⟩ := h; cases e
  | sliceU a b c d => obtain ⟨i, n, h1, h2, h3, e⟩ := h; cases e
  | sliceE => obtain ⟨x, c, e⟩ := h; cases e
  | map v => obtain ⟨i, hi, e⟩ := h; cases e
  | func f a b => obtain ⟨xs, ys, h1, h2, e⟩ := h; cases e
  | yieldF v => obtain ⟨i, hi, e⟩ := h; cases e
  | iface t x => obtain ⟨y, hy, e⟩ := h; cases e
  | tuple l => obtain ⟨xs, h1, e⟩ := h; cases e
  | agg l => obtain ⟨xs, h1, e⟩ := h; cases e

def isAggV : Value → Bool
  | .agg _ => true
  | _ => false
theorem eqGuard_no (op : BinOp) (ty : TypeId) (x y : Operand) {a b : Value} (h1 : a ≠ .nilIface ∨ b ≠ .nilIface) (h2 : isAggV a = false ∨ isAggV b = false) (P : Program) (w : World) :
    (eqGuard op ty x y a b).run P w = .ok () w := by
  unfold eqGuard
  have key : (match a, b with
      | .nilIface, .nilIface => (do
        if (x matches .const _) || (y matches .const _) then return
        if ← Op.eqGuardIn Op.maxDepth ty a b then unsupported (.noEntry "binop/eql: two nil values of an interface type with methods, neither of them the literal nil") : Sem Unit)
      | .agg _, .agg _ => do
        if !(← program).eqGuardType (← program).depth ty then return
        if ← Op.eqGuardIn Op.maxDepth ty a b then unsupported (.noEntry "binop/eql: two nil values of an interface type with methods, in a part of a struct or an array")
      | _, _ => pure ()).run P w = .ok () w := by
    split
    · rcases h1 with h | h
      · exact absurd rfl h
      · exact absurd rfl h
    · rcases h2 with h | h <;> cases h
    · rfl
  cases hop : (!(op matches .eql | .neq)) with
  | true => rw [if_pos rfl]; rfl
  | false => rw [if_neg (by simp)]; exact key

/-- of two values that are compared, kinds that have their own rows in 'binOp' -/
def plainKind : Value → Bool
  | .int .. | .float .. | .complex .. | .string _ => true
  | _ => false
theorem binOp_eql (ty : TypeId) {a b : Value} (h : plainKind a = false ∨ plainKind b = false) : binOp .eql ty a b = (do pure (.bool (← Op.equal ty a b))) := by
  unfold binOp
  split <;> first
    | rfl
    | contradiction
    | (exfalso; rcases h with h | h <;> exact absurd h (by simp [plainKind]))
    | simp_all
theorem binOp_neq (ty : TypeId) {a b : Value} (h : plainKind a = false ∨ plainKind b = false) : binOp .neq ty a b = (do pure (.bool (!(← Op.equal ty a b)))) := by
  unfold binOp
  split <;> first
    | rfl
    | contradiction
    | (exfalso; rcases h with h | h <;> exact absurd h (by simp [plainKind]))
    | simp_all

theorem nilOne_kind {d : TypeDesc} {a b : AV} (h : nilOne d a b = true) {av bv : Value} (ha : VR φ a av) (hb : VR φ b bv) :
    (plainKind av = false ∧ isAggV av = false) := by
  unfold nilOne at h
  split at h
  · obtain ⟨i, hi, rfl⟩ := ha; exact ⟨rfl, rfl⟩
  · cases ha; exact ⟨rfl, rfl⟩
  · obtain ⟨i, hi, rfl⟩ := ha; exact ⟨rfl, rfl⟩
  · cases ha; exact ⟨rfl, rfl⟩
  · obtain ⟨i, c, h1, h2, h3, rfl⟩ := ha; exact ⟨rfl, rfl⟩
  · cases ha; exact ⟨rfl, rfl⟩
  · obtain ⟨i, c, rfl⟩ := ha; exact ⟨rfl, rfl⟩
  · cases ha; exact ⟨rfl, rfl⟩
  · obtain ⟨i, hi, rfl⟩ := ha; exact ⟨rfl, rfl⟩
  · cases ha; exact ⟨rfl, rfl⟩
  · obtain ⟨i, c, h1, h2, rfl⟩ := ha; exact ⟨rfl, rfl⟩
  · cases ha; exact ⟨rfl, rfl⟩
  · obtain ⟨i, hi, rfl⟩ := ha; exact ⟨rfl, rfl⟩
  · cases ha; exact ⟨rfl, rfl⟩
  · obtain ⟨y, hy, rfl⟩ := ha; exact ⟨rfl, rfl⟩
  · cases ha; exact ⟨rfl, rfl⟩
  · cases h

theorem eqAddr_kind {s : St} {ty : TypeId} {same : Bool} {a b : AV} {out : Out} (h : eqAddr T s ty same a b = .ok out) {av bv : Value} (ha : VR φ a av) (hb : VR φ b bv) :
    (plainKind av = false ∧ isAggV av = false) := by
  unfold eqAddr at h
  cases hu : T.under ty with
  | none => rw [hu] at h; cases h
  | some d =>
    rw [hu] at h
    simp only at h
    cases hn : nilOne d a b with
    | true => exact nilOne_kind hn ha hb
    | false =>
      rw [hn] at h
      simp only at h
      split at h
      · obtain ⟨i, hi, rfl⟩ := ha
        exact ⟨rfl, rfl⟩
      · cases h

theorem binSlow_ok (hT : TabOK T) (h : SR ng B W φ s w) (op : BinOp) (ty : TypeId) (x y : Operand) {a b : AV} {av bv : Value} (ha : VR φ a av) (hb : VR φ b bv) :
    ValOK T ng B W φ w (binM op ty x y av bv) (binSlow T s op ty x y a b) := by
  unfold binSlow
  have addr : (toV a = none ∨ toV b = none) → ValOK T ng B W φ w (binM op ty x y av bv) (match op with | .eql => eqAddr T s ty true a b | .neq => eqAddr T s ty false a b | _ => .err 51) := by
    intro hn o ho
    have hnil : av ≠ .nilIface ∨ bv ≠ .nilIface := by
      rcases hn with hn | hn
      · exact .inl (VR.not_nil ha hn)
      · exact .inr (VR.not_nil hb hn)
    cases op <;> simp only at ho <;> try cases ho
    · obtain ⟨r, rfl, hr⟩ := eqAddr_ok hT w ty true ha hb o ho
      obtain ⟨k1, k2⟩ := eqAddr_kind ho ha hb
      refine ValOK.same h (v := .bool (r == true)) (v' := .bool (r == true)) rfl ?_ _ rfl
      rw [Sem.run_bind, eqGuard_no _ _ _ _ hnil (.inl k2), Result.andThen_ok, binOp_eql ty (.inl k1)]
      simp [hr]
    · obtain ⟨r, rfl, hr⟩ := eqAddr_ok hT w ty false ha hb o ho
      obtain ⟨k1, k2⟩ := eqAddr_kind ho ha hb
      refine ValOK.same h (v := .bool (r == false)) (v' := .bool (r == false)) rfl ?_ _ rfl
      rw [Sem.run_bind, eqGuard_no _ _ _ _ hnil (.inl k2), Result.andThen_ok, binOp_neq ty (.inl k1)]
      simp [hr]
  cases hta : toV a with
  | none => exact addr (.inl hta)
  | some av' =>
    cases htb : toV b with
    | none => exact addr (.inr htb)
    | some bv' =>
      have e1 := toV_eq a hta ha
      have e2 := toV_eq b htb hb
      subst e1 e2
      exact pureV_ok h _

theorem cmpInts_ok (hT : TabOK T) (h : SR ng B W φ s w) (op : BinOp) (ty : TypeId) (x y : Operand) (k l : IntKind) (m n : Int) :
    ValOK T ng B W φ w (binM op ty x y (.int k m) (.int l n)) (cmpInts T s op ty x y k l m n) := by
  unfold cmpInts
  cases hk : k == l with
  | false => exact binSlow_ok hT h op ty x y rfl rfl
  | true =>
    have e : k = l := by simpa using hk
    subst e
    simp only
    cases hc : cmpA op m n with
    | none => exact binSlow_ok hT h op ty x y rfl rfl
    | some v =>
      obtain ⟨b, rfl, hb⟩ := cmpA_ok hc T.P w
      refine ValOK.same h (v := .bool b) (v' := .bool b) rfl ?_
      rw [Sem.run_bind, eqGuard_int, Result.andThen_ok, bin_cmp ty k m n (cmpA_op hc)]
      exact hb

theorem binA_ok (hT : TabOK T) (h : SR ng B W φ s w) (op : BinOp) (ty : TypeId) (x y : Operand) {a b : AV} {av bv : Value} (ha : VR φ a av) (hb : VR φ b bv) :
    ValOK T ng B W φ w (binM op ty x y av bv) (binA T s op ty x y a b) := by
  unfold binA
  split
  · rename_i m n
    cases ha
    cases hb
    split
    · rename_i v hv
      obtain ⟨r, rfl, hr⟩ := intA_ok hv ty T.P w
      refine ValOK.same h (v := .int .i64 r) (v' := .int .i64 r) rfl ?_
      rw [Sem.run_bind, eqGuard_int, Result.andThen_ok]
      exact hr
    · exact cmpInts_ok hT h op ty x y .i64 .i64 m n
  · rename_i k m l n _
    cases ha
    cases hb
    exact cmpInts_ok hT h op ty x y k l m n
  · exact binSlow_ok hT h op ty x y ha hb

/-! ### slices -/
def OptR (φ : Phi) (x : Option AV) (xv : Option Value) : Prop := (x = none ∧ xv = none) ∨ ∃ a v, x = some a ∧ xv = some v ∧ VR φ a v

theorem bnd_ok {x : Option AV} {dflt hi n : Nat} (h : bnd x dflt hi = .ok n) {xv : Option Value} (hx : OptR φ x xv) :
    (xv = none ∧ n = dflt) ∨ (∃ k : IntKind, xv = some (.int k n) ∧ n ≤ hi) := by
  rcases hx with ⟨rfl, rfl⟩ | ⟨a, v, rfl, rfl, hx⟩
  · simp [bnd] at h; exact .inl ⟨rfl, h.symm⟩
  · simp only [bnd] at h
    split at h
    · rename_i e; cases e
    · rename_i k m e
      cases e
      cases hb : Nat.ble m hi with
      | false => rw [hb] at h; cases h
      | true =>
        rw [hb] at h
        cases h
        cases hx
        exact .inr ⟨k, rfl, ble_true hb⟩
    · cases h
end
end Go.Ex
namespace Go.Ex
open Go Go.RowKit

section
variable {ng B : Nat} {W : World} {φ : Phi} {s : St} {w : World} {T : Tab}

theorem sliceBound_ok (P : Program) (w : World) (k : IntKind) (n y : Nat) (code : BoundsCode) (h : n ≤ y) : (Instr.sliceBound (.int k n) y code).run P w = .ok n w := by
  simp only [Instr.sliceBound, asIntOf, Sem.run_bind, Sem.run_pure, Result.andThen_ok]
  rw [if_pos (by omega)]
  simp

theorem sliceBounds_ok {lo hi : Option AV} {lov hiv : Option Value} {len cap0 cap h l : Nat} (hh : bnd hi len cap0 = .ok h) (hl : bnd lo 0 h = .ok l) (hc : cap0 ≤ cap) (rhi : OptR φ hi hiv) (rlo : OptR φ lo lov)
    (b : Bool) (P : Program) (w : World) : (Instr.sliceBounds b len cap lov hiv none).run P w = .ok (l, h, cap) w ∧ (h = len ∨ h ≤ cap0) ∧ (l = 0 ∨ l ≤ h) := by
  rcases bnd_ok (φ := φ) hh rhi with ⟨rfl, rfl⟩ | ⟨k, rfl, hk⟩
  · rcases bnd_ok (φ := φ) hl rlo with ⟨rfl, rfl⟩ | ⟨k', rfl, hk'⟩
    · exact ⟨by simp [Instr.sliceBounds], .inl rfl, .inl rfl⟩
    · exact ⟨by simp [Instr.sliceBounds, sliceBound_ok P w k' l h _ hk'], .inl rfl, .inr hk'⟩
  · rcases bnd_ok (φ := φ) hl rlo with ⟨rfl, rfl⟩ | ⟨k', rfl, hk'⟩
    · exact ⟨by simp [Instr.sliceBounds, sliceBound_ok P w k h cap _ (Nat.le_trans hk hc)], .inr hk, .inl rfl⟩
    · exact ⟨by simp [Instr.sliceBounds, sliceBound_ok P w k h cap _ (Nat.le_trans hk hc), sliceBound_ok P w k' l h _ hk'], .inr hk, .inr hk'⟩

theorem addr_if (i : PI) (off l sz m : Nat) : (if m = l then (some (i.at off)) else (some (i.at off)).map (·.add (l * sz))) = some (i.at (bif Nat.beq m l then off else off + l * sz)) := by
  by_cases h : m = l
  · subst h; simp
  · rw [if_neg h]
    have : Nat.beq m l = false := by rw [nbeq_eq]; simp [h]
    rw [this]
    simp [at_add]

theorem sliceA_ok (hT : TabOK T) (w : World) {ty : TypeId} {x : AV} {lo hi : Option AV} {r : AV} (h : sliceA T ty x lo hi = .ok r) {xv : Value} {lov hiv : Option Value}
    (hx : VR φ x xv) (rlo : OptR φ lo lov) (rhi : OptR φ hi hiv) : ∃ v, VR φ r v ∧ (Instr.sliceAt ty xv lov hiv none).run T.P w = .ok v w := by
  unfold sliceA at h
  split at h
  · rename_i b hu
    obtain ⟨hh, e1, h⟩ := R.bind_ok h
    obtain ⟨l, e2, h⟩ := R.bind_ok h
    cases h
    cases hx
    obtain ⟨q1, q2, q3⟩ := sliceBounds_ok e1 e2 (Nat.le_refl _) rhi rlo false T.P w
    refine ⟨_, rfl, ?_⟩
    simp [Instr.sliceAt, Instr.slice, run_underlying' hT hu w, q1]
  · rename_i e hu
    obtain ⟨hh, e1, h⟩ := R.bind_ok h
    obtain ⟨l, e2, h⟩ := R.bind_ok h
    obtain ⟨sz, e3, h⟩ := R.bind_ok h
    cases h
    cases hx
    obtain ⟨q1, q2, q3⟩ := sliceBounds_ok e1 e2 (Nat.le_refl _) rhi rlo true T.P w
    have h0 : hh = 0 := by omega
    have l0 : l = 0 := by omega
    subst h0 l0
    refine ⟨_, rfl, ?_⟩
    simp [Instr.sliceAt, Instr.slice, run_underlying' hT hu w, q1, sizeA_ok hT e3 w]
  · rename_i e b off len cap hu
    obtain ⟨hh, e1, h⟩ := R.bind_ok h
    obtain ⟨l, e2, h⟩ := R.bind_ok h
    obtain ⟨sz, e3, h⟩ := R.bind_ok h
    cases h
    obtain ⟨i, hi', rfl⟩ := hx
    obtain ⟨q1, q2, q3⟩ := sliceBounds_ok e1 e2 (Nat.le_refl _) rhi rlo true T.P w
    refine ⟨_, ⟨i, hi', rfl⟩, ?_⟩
    simp only [Instr.sliceAt, Instr.slice, Sem.run_bind, run_underlying' hT hu w, Result.andThen_ok, q1, sizeA_ok hT e3 w, Sem.run_pure, addr_if]
  · rename_i e b off len esz hu
    obtain ⟨hh, e1, h⟩ := R.bind_ok h
    obtain ⟨l, e2, h⟩ := R.bind_ok h
    obtain ⟨sz, e3, h⟩ := R.bind_ok h
    cases hs : Nat.beq sz esz with
    | false => rw [hs] at h; cases h
    | true =>
      rw [hs] at h
      simp only [cond_true] at h
      have es := beq_true hs
      subst es
      obtain ⟨i, c, hi', hc, hroom, rfl⟩ := hx
      obtain ⟨q1, q2, q3⟩ := sliceBounds_ok e1 e2 hc rhi rlo true T.P w
      cases hb : (Nat.blt l hh || Nat.beq l 0) with
      | true =>
        rw [hb] at h
        cases h
        refine ⟨.slice (some (i.at (off + l * sz))) (hh - l) (c - l), ⟨i, c - l, hi', by omega, ?_, rfl⟩, ?_⟩
        · rw [Nat.sub_mul]
          have : l * sz ≤ c * sz := Nat.mul_le_mul_right _ (by
            rw [Bool.or_eq_true] at hb
            rcases hb with hb | hb
            · have := blt_true hb; omega
            · have := beq_true hb; omega)
          omega
        · have ha : (if c = l then (some (i.at off)) else (some (i.at off)).map (·.add (l * sz))) = some (i.at (off + l * sz)) := by
            rw [Bool.or_eq_true] at hb
            rcases hb with hb | hb
            · have := blt_true hb
              rw [if_neg (by omega)]
              simp [at_add]
            · have := beq_true hb
              subst this
              split <;> simp [at_add]
          simp only [Instr.sliceAt, Instr.slice, Sem.run_bind, run_underlying' hT hu w, Result.andThen_ok, q1, sizeA_ok hT e3 w, Sem.run_pure, ha]
      | false =>
        rw [hb] at h
        cases h
        rw [Bool.or_eq_false_iff] at hb
        have l1 := blt_false hb.1
        have h0 : hh - l = 0 := by omega
        refine ⟨.slice (if c = l then (some (i.at off)) else (some (i.at off)).map (·.add (l * sz))) 0 (c - l), ?_, ?_⟩
        · rw [addr_if]; exact ⟨_, _, rfl⟩
        · simp only [Instr.sliceAt, Instr.slice, Sem.run_bind, run_underlying' hT hu w, Result.andThen_ok, q1, sizeA_ok hT e3 w, Sem.run_pure, h0]
  · rename_i e hu
    obtain ⟨hh, e1, h⟩ := R.bind_ok h
    obtain ⟨l, e2, h⟩ := R.bind_ok h
    obtain ⟨sz, e3, h⟩ := R.bind_ok h
    cases h
    obtain ⟨a, c, rfl⟩ := hx
    obtain ⟨q1, q2, q3⟩ := sliceBounds_ok (cap := c) e1 e2 (Nat.zero_le _) rhi rlo true T.P w
    have h0 : hh = 0 := by omega
    have l0 : l = 0 := by omega
    subst h0 l0
    refine ⟨.slice (if c = 0 then (some a) else (some a).map (·.add (0 * sz))) 0 (c - 0), ?_, ?_⟩
    · split
      · exact ⟨_, _, rfl⟩
      · exact ⟨_, _, rfl⟩
    · simp only [Instr.sliceAt, Instr.slice, Sem.run_bind, run_underlying' hT hu w, Result.andThen_ok, q1, sizeA_ok hT e3 w, Sem.run_pure, Nat.sub_zero]
  · rename_i n e b off hu
    obtain ⟨hh, e1, h⟩ := R.bind_ok h
    obtain ⟨l, e2, h⟩ := R.bind_ok h
    obtain ⟨sz, e3, h⟩ := R.bind_ok h
    cases h
    obtain ⟨i, hi', rfl⟩ := hx
    obtain ⟨q1, q2, q3⟩ := sliceBounds_ok e1 e2 (Nat.le_refl _) rhi rlo false T.P w
    refine ⟨_, ⟨i, hi', rfl⟩, ?_⟩
    have := addr_if i off l sz n
    simp only [Option.map_some] at this
    simp only [Instr.sliceAt, Instr.sureAddr, Sem.run_bind, run_underlying' hT hu w, Result.andThen_ok, q1, sizeA_ok hT e3 w, Sem.run_pure]
    congr 2
    by_cases hc : n = l
    · rw [if_pos hc] at this ⊢; exact this
    · rw [if_neg hc] at this ⊢; exact this
  · rename_i a b off hu
    split at h
    · rename_i n e hu2
      obtain ⟨hh, e1, h⟩ := R.bind_ok h
      obtain ⟨l, e2, h⟩ := R.bind_ok h
      obtain ⟨sz, e3, h⟩ := R.bind_ok h
      cases h
      obtain ⟨i, hi', rfl⟩ := hx
      obtain ⟨q1, q2, q3⟩ := sliceBounds_ok e1 e2 (Nat.le_refl _) rhi rlo false T.P w
      refine ⟨_, ⟨i, hi', rfl⟩, ?_⟩
      have := addr_if i off l sz n
      simp only [Option.map_some] at this
      simp only [Instr.sliceAt, Instr.slice, asAddr, Sem.run_bind, run_underlying' hT hu w, run_underlying' hT hu2 w, Result.andThen_ok, q1, sizeA_ok hT e3 w, Sem.run_pure]
      congr 2
      by_cases hc : n = l
      · rw [if_pos hc] at this ⊢; exact this
      · rw [if_neg hc] at this ⊢; exact this
    · cases h
  · cases h
end
end Go.Ex
namespace Go.Ex
open Go Go.RowKit

section
variable {ng B : Nat} {W : World} {φ : Phi} {s : St} {w : World} {T : Tab}

theorem storeA_ok (hT : TabOK T) (h : SR ng B W φ s w) {ty : TypeId} {a x : AV} {s' : St} (hs : storeA T s ty a x = .ok s') {av xv : Value} (ha : VR φ a av) (hx : VR φ x xv) :
    ∃ w', (Instr.storeAt ty av xv).run T.P w = .ok () w' ∧ SR ng B W φ s' w' := by
  cases a with
  | ptr b off =>
    obtain ⟨i, hi, rfl⟩ := ha
    simp only [storeA] at hs
    obtain ⟨n, hn, hs⟩ := R.bind_ok hs
    cases hb : Nat.beq x.cells.length n with
    | false => rw [hb] at hs; cases hs
    | true =>
      rw [hb] at hs
      simp only [cond_true] at hs
      have hc := VR.cells hx
      have hl := VRs.length hc
      obtain ⟨w', q1, q2⟩ := stCells_ok h hs hi hc T.P
      refine ⟨w', ?_, q2⟩
      have hsz : xv.cells.size = n := by rw [← beq_true hb, ← hl]; simp
      simp only [Instr.storeAt, Instr.sureAddr, storeVar, Sem.run_bind, Sem.run_pure, Result.andThen_ok, sizeA_ok hT hn w]
      rw [if_neg (by simp [hsz])]
      simpa using q1
  | _ => cases hs

theorem byteAVs_VRs (φ : Phi) : ∀ l : List UInt8, VRs φ (byteAVs l) (l.map fun b => .int .u8 b.toNat)
  | [] => rfl
  | b :: l => ⟨_, _, rfl, byteAVs_VRs φ l, rfl⟩

theorem firstCellsA_ok (h : SR ng B W φ s w) {size n len : Nat} {x : AV} {l : List AV} (hl : firstCellsA s size n x = .ok l) (hn : lenA x = .ok len) (hle : n ≤ len) {xv : Value} (hx : VR φ x xv) :
    ∃ vs, VRs φ l vs ∧ ∀ (P : Program) (d : Nat), (Builtin.firstCells size n xv).run P { w with drawn := d } = .ok ⟨vs⟩ { w with drawn := d } ∧
      (match x with | .string _ => vs.length = n | _ => vs.length = n * size) := by
  cases x with
  | slice b off le cap =>
    obtain ⟨i, hi, rfl⟩ := hx
    obtain ⟨i', vs, hi', hv, hlen, hc⟩ := ldCells_ok h hl
    rw [hi] at hi'; cases hi'
    refine ⟨vs, hv, fun P d => ⟨?_, hlen⟩⟩
    simp only [Builtin.firstCells]
    exact run_loadCells_at (i.at off) P _ vs _ hlen (fun j x hj => by rw [at_add]; exact hc j x hj)
  | sliceU b off le esz =>
    obtain ⟨i, c, hi, h1, h2, rfl⟩ := hx
    obtain ⟨i', vs, hi', hv, hlen, hc⟩ := ldCells_ok h hl
    rw [hi] at hi'; cases hi'
    refine ⟨vs, hv, fun P d => ⟨?_, hlen⟩⟩
    simp only [Builtin.firstCells]
    exact run_loadCells_at (i.at off) P _ vs _ hlen (fun j x hj => by rw [at_add]; exact hc j x hj)
  | nilslice =>
    cases hx; cases hl; cases hn
    refine ⟨[], rfl, fun P d => ⟨rfl, ?_⟩⟩
    have : n = 0 := by omega
    subst this; simp
  | sliceE =>
    obtain ⟨a, c, rfl⟩ := hx
    cases hl; cases hn
    have : n = 0 := by omega
    subst this
    refine ⟨[], rfl, fun P d => ⟨?_, by simp⟩⟩
    simp [Builtin.firstCells, loadCells, loadCellsFrom]
  | string b =>
    cases hx
    cases hl
    cases hn
    refine ⟨_, byteAVs_VRs φ _, fun P d => ⟨?_, ?_⟩⟩
    · simp only [Builtin.firstCells, Sem.run_pure]
      congr 1
      apply Array.ext'
      simp
    · simp only [List.length_map]
      have : (b.extract 0 n).data.toList.length = (b.extract 0 n).size := rfl
      rw [this, ByteArray.size_extract]
      omega
  | _ => cases hl

theorem lenA_ok {x : AV} {n : Nat} (h : lenA x = .ok n) {xv : Value} (hx : VR φ x xv) (P : Program) (w : World) : (Builtin.lenOf xv).run P w = .ok n w := by
  cases x with
  | slice b off le cap => obtain ⟨i, hi, rfl⟩ := hx; cases h; rfl
  | sliceU b off le esz => obtain ⟨i, c, hi, h1, h2, rfl⟩ := hx; cases h; rfl
  | nilslice => cases hx; cases h; rfl
  | sliceE => obtain ⟨a, c, rfl⟩ := hx; cases h; rfl
  | string b => cases hx; cases h; rfl
  | _ => cases h

/-- an append behind which the array has room -/
theorem run_append_in (P : Program) (w w' : World) {t1 t2 ty e : TypeId} {i : TypeInfo} {d2 : TypeDesc} (h1 : P.underlying t1 = some (.slice e)) (hi : P.info? e = some i) (h2 : P.underlying t2 = some d2)
    (hd : ∀ k, d2 ≠ .int k) {ats : Array TypeId} (ha1 : ats[0]? = some t1) (ha2 : ats[1]? = some t2) {base : Option Addr} {sLen sCap n : Nat} {x : Value} {news : List Value}
    (hl : ∀ w, (Builtin.lenOf x).run P w = .ok n w) (hn : (Builtin.firstCells i.size n x).run P w = .ok ⟨news⟩ w) (hroom : sLen + n ≤ sCap)
    (hst : ∀ a, base = some a → (storeCells (a.add (sLen * i.size)) news).run P w = .ok () w') (hb : base = none → w' = w) :
    (Builtin.append_ ats ty #[.slice base sLen sCap, x]).run P w = .ok (.slice base (sLen + n) sCap) w' := by
  have hz : (d2 matches .int _) = false := by cases d2 <;> first | rfl | exact absurd rfl (hd _)
  unfold Builtin.append_
  have e0 : (#[Value.slice base sLen sCap, x] : Array Value)[0]? = some (.slice base sLen sCap) := rfl
  have e1 : (#[Value.slice base sLen sCap, x] : Array Value)[1]? = some x := rfl
  simp only [ha1, ha2, e0, e1, Sem.run_bind, run_underlying h1, Result.andThen_ok, sizeOf, typeInfo, run_program, hi, Sem.run_pure, run_underlying h2]
  simp only [hz, Bool.false_eq_true, if_false, hl, Result.andThen_ok, hroom, if_true, Bool.not_false, Sem.run_bind, hn]
  cases base with
  | none => rw [hb rfl]; rfl
  | some a => simp only [Sem.run_bind, hst a rfl, Result.andThen_ok, Sem.run_pure]

/-- an append that makes a new array -/
theorem run_append_new (P : Program) (w : World) {t1 t2 ty e : TypeId} {i : TypeInfo} {z : Value} {d2 : TypeDesc} (h1 : P.underlying t1 = some (.slice e)) (hi : P.info? e = some i) (hz0 : i.zero = some z) (h2 : P.underlying t2 = some d2)
    (hd : ∀ k, d2 ≠ .int k) {ats : Array TypeId} (ha1 : ats[0]? = some t1) (ha2 : ats[1]? = some t2) {base : Option Addr} {sLen sCap n : Nat} {x : Value} {news olds : List Value}
    (hl : ∀ w, (Builtin.lenOf x).run P w = .ok n w) (hn : ∀ d, (Builtin.firstCells i.size n x).run P { w with drawn := d } = .ok ⟨news⟩ { w with drawn := d })
    (ho : ∀ d, (Builtin.firstCells i.size sLen (.slice base sLen sCap)).run P { w with drawn := d } = .ok ⟨olds⟩ { w with drawn := d })
    (hroom : sCap < sLen + n) (hsmall : sLen + n < 1000000) (hby : i.bytes < 100000) :
    (Builtin.append_ ats ty #[.slice base sLen sCap, x]).run P w =
      .ok (.slice (some ⟨w.heap.size, 0, none⟩) (sLen + n) (grownCap w (sLen + n) sCap e))
        (w.drew.alloc (.cells ((⟨olds⟩ : Array Value) ++ ⟨news⟩ ++ Builtin.zeroCells z.cells (grownCap w (sLen + n) sCap e - (sLen + n))) e)) := by
  have hz : (d2 matches .int _) = false := by cases d2 <;> first | rfl | exact absurd rfl (hd _)
  unfold Builtin.append_
  have e0 : (#[Value.slice base sLen sCap, x] : Array Value)[0]? = some (.slice base sLen sCap) := rfl
  have e1 : (#[Value.slice base sLen sCap, x] : Array Value)[1]? = some x := rfl
  have hbytes : (sLen + n) * i.bytes ≤ 140737488355328 := by
    have : (sLen + n) * i.bytes ≤ 1000000 * 100000 := Nat.mul_le_mul (by omega) (by omega)
    omega
  have hfit := growslice_fits (bytes := i.bytes) hroom hbytes
  have c1 : ¬ (((sLen + n : Nat) : Int) > IntKind.i64.max ∧ (false = true ∨ i.bytes = 0)) := by
    intro hc
    have : IntKind.i64.max = 9223372036854775807 := by decide
    rw [this] at hc
    omega
  have c2 : ¬ (Builtin.nextslicecap (sLen + n) sCap * i.bytes > 2 ^ 48) := by
    have : (2 : Nat) ^ 48 = 281474976710656 := by decide
    omega
  simp only [ha1, ha2, e0, e1, Sem.run_bind, run_underlying h1, Result.andThen_ok, sizeOf, typeInfo, run_program, hi, Sem.run_pure, run_underlying h2]
  simp only [hz, Bool.false_eq_true, if_false, hl, Result.andThen_ok, if_neg (show ¬ (sLen + n ≤ sCap) by omega), Sem.run_bind, typeInfo, run_program, hi, Sem.run_pure]
  rw [if_neg (by simpa using c1)]
  simp only [Sem.run_pure, Sem.run_bind, Result.andThen_ok, typeInfo, run_program, hi]
  rw [if_neg c2]
  have hq : (Question.appendCap (sLen + n) sCap e).forced = false := rfl
  have hn' := hn (w.drawn + 1)
  have ho' := ho (w.drawn + 1)
  simp only [Sem.run_pure, Sem.run_bind, Result.andThen_ok, run_choose, hq, Bool.false_eq_true, if_false, run_askRoom, ho', Bool.not_false, if_true, hn', zeroValue, typeInfo, run_program, hi, hz0, run_newRow]
  rfl

/-- a block that grew takes a new name -/
theorem SR.regrow (h : SR ng B W φ s w) {v : Nat} (hv : 1000 ≤ v) {i : PI} (hi : φ v = some i) (hlive : (s.heap.get v).isSome) (o : AObj) (j : PI) (hj : j.block = i.block) (w' : World)
    (hos : w'.os = w.os) (htape : w'.tape = w.tape) (hout : w'.output = w.output) (hsize : w'.heap.size = w.heap.size)
    (hother : ∀ b, b ≠ i.block → w'.heap[b]? = w.heap[b]?) (ho : OR (φ.put s.next j) s.next j w' o) :
    φ.le (φ.put s.next j) ∧ SR ng B W (φ.put s.next j) { heap := (s.heap.del v).put s.next o, next := s.next + 1 } w' := by
  have hnone := h.fresh s.next (Nat.le_refl _)
  have hle : φ.le (φ.put s.next j) := Phi.le_put hnone
  have hB := h.own v i hv hlive hi
  have hvn : v ≠ s.next := by intro e; rw [e, hnone] at hi; cases hi
  have hold : ∀ u, u ≠ s.next → (((s.heap.del v).put s.next o).get u).isSome → (s.heap.get u).isSome ∧ u ≠ v := fun u hu => by
    rw [Tr.get_put, if_neg hu, Tr.get_del]
    by_cases e : u = v
    · rw [if_pos e]; intro h; cases h
    · rw [if_neg e]; exact fun h => ⟨h, e⟩
  have hblock : ∀ u k, u ≠ v → (s.heap.get u).isSome → φ u = some k → k.block ≠ i.block := by
    intro u k hu hs hk e
    by_cases h1000 : 1000 ≤ u
    · exact hu (h.inj u v k i h1000 hv hs hlive hk hi e)
    · have := h.glob u k (by omega) hk
      omega
  refine ⟨hle, ?_, ?_, ?_, ?_, ?_, by have := h.low; show 1000 ≤ s.next + 1; omega, ?_, ?_, ?_⟩
  · intro u x e
    rw [Tr.get_put] at e
    by_cases hu : u = s.next
    · subst hu
      rw [if_pos rfl] at e
      cases e
      exact ⟨_, Phi.put_same .., ho⟩
    · rw [if_neg hu, Tr.get_del] at e
      by_cases huv : u = v
      · rw [if_pos huv] at e; cases e
      · rw [if_neg huv] at e
        obtain ⟨k, h1, h2⟩ := h.heap u x e
        exact ⟨k, hle u k h1, h2.mono hle (hother _ (hblock u k huv (by rw [e]; rfl) h1))⟩
  · intro a b x y ha hb hsa hsb hx hy hxy
    by_cases e1 : a = s.next
    · by_cases e2 : b = s.next
      · rw [e1, e2]
      · rw [e1, Phi.put_same] at hx
        cases hx
        rw [Phi.put_other _ _ e2] at hy
        obtain ⟨q1, q2⟩ := hold b e2 hsb
        exact absurd (hxy.symm.trans hj) (hblock b y q2 q1 hy)
    · rw [Phi.put_other _ _ e1] at hx
      obtain ⟨p1, p2⟩ := hold a e1 hsa
      by_cases e2 : b = s.next
      · rw [e2, Phi.put_same] at hy
        cases hy
        exact absurd (hxy.trans hj) (hblock a x p2 p1 hx)
      · rw [Phi.put_other _ _ e2] at hy
        exact h.inj a b x y ha hb p1 (hold b e2 hsb).1 hx hy hxy
  · intro a x ha hs hx
    by_cases e : a = s.next
    · rw [e, Phi.put_same] at hx
      cases hx
      rw [hj]; exact hB
    · rw [Phi.put_other _ _ e] at hx
      exact h.own a x ha (hold a e hs).1 hx
  · intro a x ha hx
    have e : a ≠ s.next := by have := h.low; omega
    rw [Phi.put_other _ _ e] at hx
    exact h.glob a x ha hx
  · intro a ha
    have e : a ≠ s.next := by have : s.next + 1 ≤ a := ha; omega
    rw [Phi.put_other _ _ e]
    exact h.fresh a (by have : s.next + 1 ≤ a := ha; omega)
  · exact h.below.trans ⟨hos, htape, hout, by omega, fun k hk => hother k (by omega)⟩
  · rw [hsize]; exact h.bsize
  · intro g hg
    obtain ⟨m, hm⟩ := h.globals g hg
    exact ⟨m, hle _ _ hm⟩
end
end Go.Ex
