/- The executor: a big-step reading of the program as the model runs it, made for evaluation by the kernel, and its soundness (part ExC). -/
import Derived.Test.YtmkdjmoifkffgaaGreatDoorExB
import Derived.ChangeKeysEq
import Derived.Laws.StructEq
import Derived.Lib.UnsafeStr
set_option linter.unusedVariables false
set_option linter.unusedSimpArgs false
set_option linter.unusedSectionVars false
namespace Go.Ex
open Go Go.RowKit

section
variable {ng B : Nat} {W : World} {φ : Phi} {s : St} {w : World} {T : Tab}

theorem growA_ok (hT : TabOK T) {elem : TypeId} {size need : Nat} {b : Bool} (h : growA T elem size need = .ok b) (hs : sizeA T elem = .ok size) :
    ∃ i z, T.P.info? elem = some i ∧ i.size = size ∧ i.zero = some z ∧ z.cells.size = size ∧ i.bytes < 100000 ∧ need < 1000000 := by
  unfold growA at h
  obtain ⟨z, hz, h⟩ := R.bind_ok h
  obtain ⟨zv, q1, q2, i, q3, q4⟩ := zeroA_ok (φ := fun _ => none) hT hz default
  cases hb : (Nat.beq z.cells.length size && (smallA T elem && Nat.blt need 1000000)) with
  | false => rw [hb] at h; cases h
  | true =>
    simp only [Bool.and_eq_true] at hb
    obtain ⟨b1, b2, b3⟩ := hb
    obtain ⟨i', hi', hsz⟩ := sizeA_info hT hs
    rw [q3] at hi'; cases hi'
    have hl := VRs.length (VR.cells q2)
    have : z.cells.length = size := beq_true b1
    refine ⟨i, zv, q3, hsz, q4, by simpa using hl.trans this, ?_, blt_true b3⟩
    unfold smallA at b2
    cases hi2 : T.info elem with
    | none => rw [hi2] at b2; cases b2
    | some k =>
      rw [hi2] at b2
      have := hT.info _ _ hi2
      rw [q3] at this; cases this
      exact blt_true b2

theorem zeroCells_size (z : Array Value) (n : Nat) : (Builtin.zeroCells z n).size = n * z.size := by simp [Builtin.zeroCells]

/-- the row that an append makes -/
theorem grown_ok (h : SR ng B W φ s w) {l : List AV} {vs : List Value} (hv : VRs φ l vs) {elem : TypeId} {size need cap : Nat} {z : Array Value} (hl : vs.length = need * size) (hz : z.size = size) (hc : need ≤ cap) :
    let c : Array Value := (⟨vs⟩ : Array Value) ++ Builtin.zeroCells z (cap - need)
    φ.le (φ.put s.next ⟨w.heap.size, 0, c.size⟩) ∧
    SR ng B W (φ.put s.next ⟨w.heap.size, 0, c.size⟩) { heap := s.heap.put s.next (.cells l elem false), next := s.next + 1 } (w.drew.alloc (.cells c elem)) ∧
    VR (φ.put s.next ⟨w.heap.size, 0, c.size⟩) (.sliceU s.next 0 need size) (.slice (some ⟨w.heap.size, 0, none⟩) need cap) := by
  intro c
  have hlen := VRs.length hv
  have hcs : c.size = cap * size := by
    simp only [c, Array.size_append, zeroCells_size, hz, List.size_toArray, hl, Nat.sub_mul]
    have : need * size ≤ cap * size := Nat.mul_le_mul_right _ hc
    omega
  have hd : SR ng B W φ s w.drew := h.drew
  obtain ⟨q1, q2⟩ := newCells_ok (e := elem) (x := false) hd (l := l) (c := c) (by simp [c, hlen]) (fun e => by cases e) (by
    simp only [c, Array.toList_append]
    rw [← hlen, List.take_left]
    exact hv)
  refine ⟨q1, q2, _, cap, Phi.put_same .., hc, ?_, rfl⟩
  simp [hcs]

theorem append_region (C news olds : List Value) (b k : Nat) (hk : olds.length = k) (h : ∀ j x, olds[j]? = some x → C[b + j]? = some x) (hb : b + k + news.length ≤ C.length) :
    ((C.take (b + k) ++ news ++ C.drop (b + k + news.length)).drop b).take (k + news.length) = olds ++ news := by
  apply List.ext_getElem?
  intro j
  simp only [List.getElem?_take, List.getElem?_drop, List.getElem?_append, List.length_take, List.length_append]
  have hm : min (b + k) C.length = b + k := by omega
  rw [hm]
  by_cases c1 : j < k
  · rw [if_pos (by omega), if_pos (by omega), if_pos (by omega), if_pos (by omega), if_pos (by omega)]
    have hj : j < olds.length := by omega
    rw [h j olds[j] (by simp [hj])]
    simp [hj]
  · by_cases c2 : j < k + news.length
    · rw [if_pos c2, if_pos (by omega), if_neg (by omega), if_neg (by omega)]
      congr 1
      omega
    · rw [if_neg c2, if_neg (by omega), List.getElem?_eq_none (by omega)]

theorem appendA_ok (hT : TabOK T) (h : SR ng B W φ s w) {t1 t2 ty : TypeId} {d2 : TypeDesc} (h2 : T.under t2 = some d2) (hd : ∀ k, d2 ≠ .int k) {ats : Array TypeId} (ha1 : ats[0]? = some t1) (ha2 : ats[1]? = some t2)
    {a x : AV} {av xv : Value} (ha : VR φ a av) (hx : VR φ x xv) : ValOK T ng B W φ w (Builtin.append_ ats ty #[av, xv]) (appendA T s t1 a x) := by
  unfold appendA
  intro o ho
  cases hu : T.under t1 with
  | none => rw [hu] at ho; cases ho
  | some d =>
    rw [hu] at ho
    cases d with
    | slice elem =>
      simp only at ho
      have hp1 := hT.under _ _ hu
      have hp2 := hT.under _ _ h2
      obtain ⟨size, hsz, ho⟩ := R.bind_ok ho
      obtain ⟨n, hn, ho⟩ := R.bind_ok ho
      obtain ⟨inf, hinf, hisz⟩ := sizeA_info hT hsz
      have hlen := fun w => lenA_ok hn hx T.P w
      cases n with
      | zero =>
        simp only at ho
        have hf : ∀ size, (Builtin.firstCells size 0 xv).run T.P w = .ok ⟨[]⟩ w := by
          intro size
          cases x with
          | slice b off le cap => obtain ⟨i, hi, rfl⟩ := hx; simp [Builtin.firstCells, loadCells, loadCellsFrom]
          | sliceU b off le esz => obtain ⟨i, c, hi, h1, h2, rfl⟩ := hx; simp [Builtin.firstCells, loadCells, loadCellsFrom]
          | nilslice => cases hx; simp [Builtin.firstCells]
          | sliceE => obtain ⟨a, c, rfl⟩ := hx; simp [Builtin.firstCells, loadCells, loadCellsFrom]
          | string b => cases hx; simp [Builtin.firstCells]
          | _ => cases hn
        have key : ∀ (base : Option Addr) (sLen sCap : Nat), sLen ≤ sCap → (Builtin.append_ ats ty #[.slice base sLen sCap, xv]).run T.P w = .ok (.slice base sLen sCap) w := by
          intro base sLen sCap hle
          have := run_append_in T.P w w (ty := ty) hp1 hinf hp2 hd ha1 ha2 (base := base) (sLen := sLen) (sCap := sCap) hlen (hf _) hle (fun a _ => by simp [storeCells]) (fun _ => rfl)
          simpa using this
        cases a with
        | nilslice => cases ha; exact ValOK.same h (v := .nilslice) (v' := .slice none 0 0) rfl (key _ _ _ (Nat.le_refl _)) o ho
        | slice b off le cap =>
          simp only at ho
          cases hb : Nat.ble le cap with
          | false => rw [hb] at ho; cases ho
          | true =>
            rw [hb] at ho
            obtain ⟨i, hi, rfl⟩ := ha
            exact ValOK.same h (v := .slice b off le cap) ⟨i, hi, rfl⟩ (key _ _ _ (ble_true hb)) o ho
        | sliceU b off le esz =>
          obtain ⟨i, c, hi, h1, h2', rfl⟩ := ha
          exact ValOK.same h (v := .sliceU b off le esz) ⟨i, c, hi, h1, h2', rfl⟩ (key _ _ _ h1) o ho
        | sliceE => obtain ⟨a, c, rfl⟩ := ha; exact ValOK.same h (v := .sliceE) ⟨a, c, rfl⟩ (key _ _ _ (Nat.zero_le _)) o ho
        | _ => cases ho
      | succ n =>
        simp only at ho
        cases hsf : strFits x size with
        | false => rw [hsf] at ho; cases ho
        | true =>
        rw [hsf] at ho
        simp only [cond_true] at ho
        obtain ⟨new, hnew, ho⟩ := R.bind_ok ho
        obtain ⟨news, hv, hf⟩ := firstCellsA_ok h hnew hn (Nat.le_refl _) hx
        have hfP := fun d => (hf T.P d).1
        have hnl : ∀ (_ : ∀ b, x ≠ .string b), news.length = (n + 1) * size := fun hs => by
          have := (hf T.P 0).2
          cases x with
          | string b => exact absurd rfl (hs b)
          | _ => exact this
        have hcellsize : size = 1 ∨ (∀ b, x ≠ .string b) := by
          cases x with
          | string b => exact .inl (beq_true hsf)
          | _ => exact .inr (fun b e => by cases e)
        have hnews : news.length = (n + 1) * size := by
          rcases hcellsize with e | e
          · subst e
            have := (hf T.P 0).2
            cases x <;> simpa using this
          · exact hnl e
        have hf0 : (Builtin.firstCells inf.size (n + 1) xv).run T.P w = .ok ⟨news⟩ w := by rw [hisz]; exact hfP w.drawn
        cases a with
        | nilslice =>
          cases ha
          simp only at ho
          obtain ⟨g, hg, ho⟩ := R.bind_ok ho
          obtain ⟨i, z, g1, g2, g3, g4, g5, g6⟩ := growA_ok hT hg hsz
          rw [hinf] at g1; cases g1
          simp only [newCellsA_eq] at ho
          cases ho
          have hr := run_append_new T.P w (ty := ty) hp1 hinf g3 hp2 hd ha1 ha2 (base := none) (sLen := 0) (sCap := 0) (olds := []) hlen (by rw [hisz]; exact hfP) (fun d => by simp [Builtin.firstCells]) (by omega) (by omega) g5
          obtain ⟨q1, q2, q3⟩ := grown_ok (elem := elem) (cap := grownCap w (n + 1) 0 elem) h hv hnews g4 (grownCap_ge w (n + 1) 0 elem)
          simp only [Nat.zero_add] at hr
          refine ⟨_, _, _, _, _, rfl, q1, q2, q3, ?_⟩
          rw [hr]
          simp
        | slice b off le cap =>
          obtain ⟨i, hi, rfl⟩ := ha
          simp only at ho
          cases hb : Nat.ble (le + (n + 1)) cap with
          | true =>
            rw [hb] at ho
            simp only [cond_true] at ho
            obtain ⟨s', hs', ho⟩ := R.bind_ok ho
            cases ho
            obtain ⟨w', r1, r2⟩ := stCells_ok h hs' hi hv T.P
            refine ⟨_, _, φ, _, w', rfl, Phi.le_refl φ, r2, ⟨i, hi, rfl⟩, ?_⟩
            exact run_append_in T.P w w' (ty := ty) hp1 hinf hp2 hd ha1 ha2 hlen hf0 (ble_true hb) (fun a e => by cases e; rw [hisz, at_add]; exact r1) (fun e => by cases e)
          | false =>
            rw [hb] at ho
            simp only [cond_false] at ho
            obtain ⟨g, hg, ho⟩ := R.bind_ok ho
            obtain ⟨old, hold, ho⟩ := R.bind_ok ho
            obtain ⟨i', z, g1, g2, g3, g4, g5, g6⟩ := growA_ok hT hg hsz
            rw [hinf] at g1; cases g1
            obtain ⟨j, olds, hj, ov, olen, oc⟩ := ldCells_ok h hold
            rw [hi] at hj; cases hj
            simp only [newCellsA_eq] at ho
            cases ho
            have hfo : ∀ d, (Builtin.firstCells inf.size le (.slice (some (i.at off)) le cap)).run T.P { w with drawn := d } = .ok ⟨olds⟩ { w with drawn := d } := by
              intro d
              simp only [Builtin.firstCells, hisz]
              exact run_loadCells_at (i.at off) T.P _ olds _ olen (fun j x hj => by rw [at_add]; exact oc j x hj)
            have hr := run_append_new T.P w (ty := ty) hp1 hinf g3 hp2 hd ha1 ha2 hlen (by rw [hisz]; exact hfP) hfo (ble_false hb) g6 g5
            obtain ⟨q1, q2, q3⟩ := grown_ok (elem := elem) h (ov.append hv) (by rw [List.length_append, olen, hnews, ← Nat.add_mul]) g4 (grownCap_ge w (le + (n + 1)) cap elem)
            refine ⟨_, _, _, _, _, rfl, q1, q2, q3, ?_⟩
            rw [hr]
            simp
        | sliceU b off le esz =>
          obtain ⟨i, c, hi, h1, h2', rfl⟩ := ha
          simp only at ho
          cases hb : (Nat.beq esz size && (!Nat.blt b 1000 && (allSingle new && elemIs s b elem))) with
          | false => rw [hb] at ho; cases ho
          | true =>
            rw [hb] at ho
            simp only [cond_true] at ho
            simp only [Bool.and_eq_true, Bool.not_eq_true'] at hb
            obtain ⟨b1, b2, b3, b4⟩ := hb
            have es := beq_true b1
            subst es
            have h1000 := blt_false b2
            obtain ⟨g, hg, ho⟩ := R.bind_ok ho
            obtain ⟨old, hold, ho⟩ := R.bind_ok ho
            obtain ⟨i', z, g1, g2, g3, g4, g5, g6⟩ := growA_ok hT hg hsz
            rw [hinf] at g1; cases g1
            have hlive : (s.heap.get b).isSome := by
              unfold ldCells at hold
              cases hgb : s.heap.get b with
              | none => rw [hgb] at hold; cases hold
              | some _ => rfl
            obtain ⟨j, olds, hj, ov, olen, oc⟩ := ldCells_ok h hold
            rw [hi] at hj; cases hj
            simp only [newCellsA_eq] at ho
            by_cases hroom : le + (n + 1) ≤ c
            · obtain ⟨ob, hob⟩ := Option.isSome_iff_exists.1 hlive
              obtain ⟨j, hj, hor⟩ := h.heap b ob hob
              rw [hi] at hj; cases hj
              have hcell : ∃ l0 e0 x0, ob = .cells l0 e0 x0 := by
                unfold ldCells at hold
                rw [hob] at hold
                cases ob <;> first | exact ⟨_, _, _, rfl⟩ | cases hold
              obtain ⟨l0, e0, x0, rfl⟩ := hcell
              obtain ⟨cc, e', fr, p1, p2, p3, p4, p5, p6⟩ := hor
              have hfit : i.base + off + le * esz + news.length ≤ cc.size := by
                rw [hnews, p2]
                have : (le + (n + 1)) * esz ≤ c * esz := Nat.mul_le_mul_right _ hroom
                rw [Nat.add_mul] at this
                omega
              obtain ⟨w', r1, r2, r3, r4, r5, r6, r7⟩ := run_storeCells_block T.P i.block (i.base + off + le * esz) e' fr news 0 cc w p1 (by omega) (allSingle_one hv b3) (p4 h1000).2
              cases ho
              have hor : OR (φ.put s.next ⟨i.block, i.base + off, i.size⟩) s.next ⟨i.block, i.base + off, i.size⟩ w' (.cells (old ++ new) elem false) := by
                have hov := VRs.length ov
                have hnv := VRs.length hv
                have he : e' = elem := by
                  unfold elemIs at b4
                  rw [hob] at b4
                  exact (p4 h1000).1.trans (beq_true b4)
                subst he
                refine ⟨_, e', fr, r2, ?_, fun e => by (cases e), fun _ => ⟨rfl, ?_⟩, ?_, ?_⟩
                · simp only [List.size_toArray, List.length_append, List.length_take, List.length_drop, Array.length_toList]
                  omega
                · intro k hk
                  refine (p4 h1000).2 k ?_
                  simp only [List.size_toArray, List.length_append, List.length_take, List.length_drop, Array.length_toList] at hk
                  omega
                · simp only [List.size_toArray, List.length_append, List.length_take, List.length_drop, Array.length_toList]
                  omega
                · have := append_region cc.toList news olds (i.base + off) (le * esz) olen (fun j x hx => by
                    have := oc j x hx
                    rw [PI.at, cell_block p1] at this
                    simpa [Nat.add_assoc] using this) (by simpa using hfit)
                  rw [List.length_append, ← hov, ← hnv, olen]
                  simp only [Nat.add_zero]
                  rw [this]
                  exact (ov.append hv).mono (Phi.le_put (h.fresh s.next (Nat.le_refl _)))
              obtain ⟨q1, q2⟩ := h.regrow h1000 hi hlive (.cells (old ++ new) elem false) ⟨i.block, i.base + off, i.size⟩ rfl w' r4 r5 r6 r7 r3 hor
              refine ⟨_, _, _, .slice (some (i.at off)) (le + (n + 1)) c, w', rfl, q1, q2, ⟨_, c, Phi.put_same .., hroom, by simpa using h2', by simp [PI.at]⟩, ?_⟩
              exact run_append_in T.P w w' (ty := ty) hp1 hinf hp2 hd ha1 ha2 hlen hf0 hroom (fun a e => by cases e; rw [hisz, at_add]; simpa [PI.at, Nat.add_assoc] using r1) (fun e => by cases e)
            · have hfo : ∀ d, (Builtin.firstCells inf.size le (.slice (some (i.at off)) le c)).run T.P { w with drawn := d } = .ok ⟨olds⟩ { w with drawn := d } := by
                intro d
                simp only [Builtin.firstCells, hisz]
                exact run_loadCells_at (i.at off) T.P _ olds _ olen (fun j x hj => by rw [at_add]; exact oc j x hj)
              have hr := run_append_new T.P w (ty := ty) hp1 hinf g3 hp2 hd ha1 ha2 hlen (by rw [hisz]; exact hfP) hfo (by omega) g6 g5
              have hf' := h.forget b
              obtain ⟨q1, q2, q3⟩ := grown_ok (elem := elem) hf' (ov.append hv) (by rw [List.length_append, olen, hnews, ← Nat.add_mul]) g4 (grownCap_ge w (le + (n + 1)) c elem)
              cases ho
              refine ⟨_, _, _, _, _, rfl, q1, q2, q3, ?_⟩
              rw [hr]
              simp
        | _ => cases ho
    | _ => cases ho
end
end Go.Ex
namespace Go.Ex
open Go Go.RowKit

section
variable {ng B : Nat} {W : World} {φ : Phi} {s : St} {w : World} {T : Tab}

theorem copyA_ok (hT : TabOK T) (h : SR ng B W φ s w) {t1 ty : TypeId} {ats : Array TypeId} (ha1 : ats[0]? = some t1)
    {d x : AV} {dv xv : Value} (hd : VR φ d dv) (hx : VR φ x xv) : ValOK T ng B W φ w (Builtin.copy_ ats ty #[dv, xv]) (copyA T s t1 d x) := by
  unfold copyA
  intro o ho
  cases hu : T.under t1 with
  | none => rw [hu] at ho; cases ho
  | some de =>
    rw [hu] at ho
    cases de with
    | slice elem =>
      simp only at ho
      have hp1 := run_underlying' hT hu w
      obtain ⟨size, hsz, ho⟩ := R.bind_ok ho
      obtain ⟨nx, hnx, ho⟩ := R.bind_ok ho
      obtain ⟨nd, hnd, ho⟩ := R.bind_ok ho
      simp only [forceN_eq] at ho
      obtain ⟨cs, hcs, ho⟩ := R.bind_ok ho
      obtain ⟨vs, hv, hf⟩ := firstCellsA_ok h hcs hnx (Nat.min_le_left _ _) hx
      have hf0 : (Builtin.firstCells size (min nx nd) xv).run T.P w = .ok ⟨vs⟩ w := (hf T.P w.drawn).1
      have hsize := sizeA_ok hT hsz w
      have hlx := lenA_ok hnx hx T.P w
      have e0 : (#[dv, xv] : Array Value)[0]? = some dv := rfl
      have e1 : (#[dv, xv] : Array Value)[1]? = some xv := rfl
      have run : ∀ (base : Option Addr) (cap : Nat) (w' : World), dv = .slice base nd cap → (∀ a, base = some a → (storeCells a vs).run T.P w = .ok () w') → (base = none → w' = w) →
          (Builtin.copy_ ats ty #[dv, xv]).run T.P w = .ok (.int .i64 (min nx nd : Nat)) w' := by
        intro base cap w' e hst hb
        subst e
        unfold Builtin.copy_
        simp only [ha1, e0, e1, Sem.run_bind, hp1, Result.andThen_ok, hlx, hsize]
        rw [show Nat.min nx nd = min nx nd from rfl, hf0]
        simp only [Result.andThen_ok]
        cases base with
        | none => rw [hb rfl]; rfl
        | some a => simp only [Sem.run_bind, hst a rfl, Result.andThen_ok, Sem.run_pure]; rfl
      cases d with
      | slice b off le cap =>
        obtain ⟨i, hi, rfl⟩ := hd
        simp only at ho
        obtain ⟨s', hs', ho⟩ := R.bind_ok ho
        cases ho
        cases hnd
        obtain ⟨w', r1, r2⟩ := stCells_ok h hs' hi hv T.P
        exact ⟨_, _, φ, _, w', rfl, Phi.le_refl φ, r2, rfl, run _ _ _ rfl (fun a e => by cases e; exact r1) (fun e => by cases e)⟩
      | sliceU b off le esz =>
        obtain ⟨i, c, hi, h1, h2, rfl⟩ := hd
        simp only at ho
        obtain ⟨s', hs', ho⟩ := R.bind_ok ho
        cases ho
        cases hnd
        obtain ⟨w', r1, r2⟩ := stCells_ok h hs' hi hv T.P
        exact ⟨_, _, φ, _, w', rfl, Phi.le_refl φ, r2, rfl, run _ _ _ rfl (fun a e => by cases e; exact r1) (fun e => by cases e)⟩
      | nilslice =>
        cases hd
        cases ho
        cases hnd
        exact ⟨_, _, φ, _, w, rfl, Phi.le_refl φ, h, rfl, run _ _ _ rfl (fun a e => by cases e) (fun _ => rfl)⟩
      | sliceE =>
        obtain ⟨a, c, rfl⟩ := hd
        cases ho
        cases hnd
        have hvs : vs = [] := by
          have hl := (hf T.P 0).2
          have h0 : min nx 0 = 0 := by omega
          have : vs.length = 0 := by
            cases x <;> simp only [h0] at hl <;> simpa using hl
          exact List.eq_nil_of_length_eq_zero this
        subst hvs
        exact ⟨_, _, φ, _, w, rfl, Phi.le_refl φ, h, rfl, run _ _ _ rfl (fun a e => by cases e; simp [storeCells]) (fun _ => rfl)⟩
      | _ => cases ho
    | _ => cases ho

theorem run_getObj {P : Program} {w : World} {r : Nat} {o : Obj} (h : w.heap[r]? = some o) (hc : ∀ c e f, o ≠ .cells c e f) : (getObj r).run P w = .ok o w := by
  cases o <;> first | exact absurd rfl (hc _ _ _) | simp only [getObj, Sem.run, h]
theorem run_setObj {P : Program} {w : World} {r : Nat} {o o' : Obj} (h : w.heap[r]? = some o) (hc : ∀ c e f, o ≠ .cells c e f) : (setObj r o').run P w = .ok () { w with heap := w.heap.setIfInBounds r o' } := by
  cases o <;> first | exact absurd rfl (hc _ _ _) | simp only [setObj, Sem.run, h]

theorem heap_set_same {w : World} {r : Nat} {o o' : Obj} (h : w.heap[r]? = some o) : ({ w with heap := w.heap.setIfInBounds r o' } : World).heap[r]? = some o' := by
  have hlt : r < w.heap.size := by
    rcases Nat.lt_or_ge r w.heap.size with hlt | hge
    · exact hlt
    · rw [Array.getElem?_eq_none hge] at h; cases h
  simp [hlt]
theorem heap_set_other {w : World} {r b : Nat} {o' : Obj} (h : b ≠ r) : ({ w with heap := w.heap.setIfInBounds r o' } : World).heap[b]? = w.heap[b]? := by
  simp only [Array.getElem?_setIfInBounds]
  rw [if_neg (fun e => h e.symm)]

/-- an object that is no row of cells is replaced -/
theorem SR.setObj (h : SR ng B W φ s w) {v : Nat} (hv : 1000 ≤ v) {i : PI} (hi : φ v = some i) {o0 : AObj} (h0 : s.heap.get v = some o0) (o : AObj) (obj : Obj)
    (ho : OR φ v i { w with heap := w.heap.setIfInBounds i.block obj } o) : SR ng B W φ { s with heap := s.heap.put v o } { w with heap := w.heap.setIfInBounds i.block obj } :=
  h.write hv hi h0 o _ rfl rfl rfl (by simp) (fun b hb => heap_set_other hb) ho

theorem opRange_ok (hT : TabOK T) (h : SR ng B W φ s w) (ty : TypeId) {x : AV} {xv : Value} (hx : VR φ x xv) : ValOK T ng B W φ w (Instr.range ty xv) (opRange T s ty x) := by
  unfold opRange
  intro o ho
  split at ho
  · rename_i b hu
    cases hx
    cases ho
    obtain ⟨q1, q2⟩ := newObj_ok h (.strIter b 0) (.stringIter b 0) 0 (fun ψ _ => ⟨heap_alloc_new w _, rfl⟩)
    refine ⟨_, _, _, _, _, rfl, q1, q2, ⟨_, Phi.put_same .., rfl⟩, ?_⟩
    simp [Instr.range, run_underlying' hT hu w, PI.at]
  · cases ho

theorem opNext_ok (h : SR ng B W φ s w) (ty : TypeId) {x : AV} {xv : Value} (hx : VR φ x xv) : ValOK T ng B W φ w (Instr.next xv true ty) (opNext s x) := by
  unfold opNext
  intro o ho
  split at ho
  · rename_i v
    obtain ⟨i, hi, rfl⟩ := hx
    cases hb : Nat.blt v 1000 with
    | true => rw [hb] at ho; cases ho
    | false =>
      rw [hb] at ho
      simp only [cond_false] at ho
      have h1000 := blt_false hb
      split at ho
      · rename_i b pos hg
        obtain ⟨j, hj, q1, q2⟩ := h.heap v _ hg
        rw [hi] at hj; cases hj
        have hgo := run_getObj (P := T.P) q1 (fun _ _ _ e => by cases e)
        have hat : i.at 0 = ⟨i.block, 0, none⟩ := by simp [PI.at, q2]
        cases hp : Nat.blt pos b.size with
        | true =>
          rw [hp] at ho
          simp only [cond_true, forceN_eq] at ho
          cases ho
          have hlt := blt_true hp
          have hs := h.setObj h1000 hi hg (.strIter b (pos + (Utf8.decode b pos).2)) (.stringIter b (pos + (Utf8.decode b pos).2)) ⟨heap_set_same q1, q2⟩
          refine ⟨_, _, φ, .tuple ⟨[.bool true, .int .i64 pos, .int .i32 (Utf8.decode b pos).1]⟩, _, rfl, Phi.le_refl φ, hs, ⟨_, ⟨_, _, rfl, ⟨_, _, rfl, ⟨_, _, rfl, rfl, rfl⟩, rfl⟩, rfl⟩, rfl⟩, ?_⟩
          rw [hat]
          simp only [Instr.next, Sem.run_bind, hgo, Result.andThen_ok]
          rw [if_pos hlt]
          simp only [Sem.run_bind, run_setObj q1 (fun _ _ _ e => by cases e), Result.andThen_ok, Sem.run_pure]
          rfl
        | false =>
          rw [hp] at ho
          simp only [cond_false] at ho
          have hge := blt_false hp
          refine ValOK.same h (v := .tuple [.bool false]) (v' := .tuple ⟨[.bool false]⟩) ⟨_, ⟨_, _, rfl, rfl, rfl⟩, rfl⟩ ?_ o ho
          rw [hat]
          simp only [Instr.next, Sem.run_bind, hgo, Result.andThen_ok]
          rw [if_neg (by omega)]
          rfl
      · cases ho
  · cases ho

theorem pairA_VR {ok b : Bool} {x : AV} {v : Value} (h : VR φ x v) : VR φ (pairA ok x b) (if ok then .tuple #[v, .bool b] else v) := by
  cases ok with
  | true => exact ⟨_, ⟨_, _, h, ⟨_, _, rfl, rfl, rfl⟩, rfl⟩, rfl⟩
  | false => exact h

theorem opTypeAssert_ok (hT : TabOK T) (h : SR ng B W φ s w) (xt asserted : TypeId) (ok : Bool) {x : AV} {xv : Value} (hx : VR φ x xv) : ValOK T ng B W φ w (Instr.typeAssert xv xt asserted ok) (opTypeAssert T s x asserted ok) := by
  unfold opTypeAssert
  intro o ho
  have conc : ∀ d, T.under asserted = some d → (∀ ms, d ≠ .interface ms) → ∀ (t : TypeId) (v : Value), t = asserted → (Instr.typeAssert (.iface t v) xt asserted ok).run T.P w = .ok (if ok then .tuple #[v, .bool true] else v) w := by
    intro d hd hni t v e
    subst e
    unfold Instr.typeAssert
    simp only [Sem.run_bind, run_underlying' hT hd w, Result.andThen_ok]
    cases d <;> first | exact absurd rfl (hni _) | simp
  have fails : ∀ d, T.under asserted = some d → (∀ ms, d ≠ .interface ms) → ok = true → ∀ (v : Value) (z : Value), (zeroValue asserted).run T.P w = .ok z w → (v = .nilIface ∨ ∃ t u, v = .iface t u ∧ t ≠ asserted) →
      (Instr.typeAssert v xt asserted ok).run T.P w = .ok (.tuple #[z, .bool false]) w := by
    intro d hd hni hok v z hz hv
    subst hok
    unfold Instr.typeAssert
    simp only [Sem.run_bind, run_underlying' hT hd w, Result.andThen_ok]
    rcases hv with rfl | ⟨t, u, rfl, hne⟩
    · cases d <;> first | exact absurd rfl (hni _) | simp [hz]
    · cases d <;> first | exact absurd rfl (hni _) | simp [hz, hne]
  split at ho
  · cases ho
  · cases ho
  · rename_i d hni hd
    cases hx
    cases ok with
    | false => cases ho
    | true =>
      simp only [cond_true] at ho
      obtain ⟨z, hz, ho⟩ := R.bind_ok ho
      obtain ⟨zv, z1, z2, _⟩ := zeroA_ok (φ := φ) hT hz w
      refine ValOK.same h (v := .tuple [z, .bool false]) ⟨_, ⟨_, _, z2, ⟨_, _, rfl, rfl, rfl⟩, rfl⟩, rfl⟩ (fails d hd (fun ms e => hni ms (by rw [e])) rfl _ zv z1 (.inl rfl)) o ho
  · rename_i d ty v hni hd
    obtain ⟨y, hy, rfl⟩ := hx
    cases hb : Nat.beq ty asserted with
    | true =>
      rw [hb] at ho
      simp only [cond_true] at ho
      exact ValOK.same h (pairA_VR hy) (conc d hd (fun ms e => hni ms (by rw [e])) ty y (beq_true hb)) o ho
    | false =>
      rw [hb] at ho
      cases ok with
      | false => cases ho
      | true =>
        simp only [cond_true, cond_false] at ho
        obtain ⟨z, hz, ho⟩ := R.bind_ok ho
        obtain ⟨zv, z1, z2, _⟩ := zeroA_ok (φ := φ) hT hz w
        refine ValOK.same h (v := .tuple [z, .bool false]) ⟨_, ⟨_, _, z2, ⟨_, _, rfl, rfl, rfl⟩, rfl⟩, rfl⟩ (fails d hd (fun ms e => hni ms (by rw [e])) rfl _ zv z1 (.inr ⟨ty, y, rfl, beq_false hb⟩)) o ho
  · cases ho
end
end Go.Ex
namespace Go.Ex
open Go Go.RowKit

section
variable {φ : Phi} {T : Tab}

theorem sameInts_spec : ∀ (xs ys : List AV) {b : Bool} {xv yv : List Value}, sameInts xs ys = some b → VRs φ xs xv → VRs φ ys yv →
    (∀ i, i < xv.length → ∃ k a a', xv[i]? = some (.int k a) ∧ yv[i]? = some (.int k a')) ∧ xv.length = yv.length ∧ (b = true ↔ xv = yv) := by
  intro xs
  induction xs with
  | nil =>
    intro ys b xv yv h hx hy
    cases ys with
    | nil =>
      cases h; cases hx; cases hy
      exact ⟨fun i h => by simp at h, rfl, by simp⟩
    | cons y m => simp [sameInts] at h
  | cons x l ih =>
    intro ys b xv yv h hx hy
    cases ys with
    | nil => cases x <;> simp [sameInts] at h
    | cons y m =>
      cases x <;> first | (simp [sameInts] at h; done) | skip
      cases y <;> first | (simp [sameInts] at h; done) | skip
      rename_i k a k' a'
      obtain ⟨x, xr, hx, hxr, rfl⟩ := hx
      obtain ⟨y, yr, hy, hyr, rfl⟩ := hy
      cases hx; cases hy
      simp only [sameInts] at h
      cases hk : k == k' with
      | false => rw [hk] at h; cases h
      | true =>
        rw [hk] at h
        have e : k = k' := by simpa using hk
        subst e
        simp only [cond_true] at h
        cases hs : sameInts l m with
        | none => rw [hs] at h; cases h
        | some r =>
          rw [hs] at h
          cases h
          obtain ⟨h1, h2, h3⟩ := ih m hs hxr hyr
          refine ⟨fun i hi => ?_, by simp [h2], ?_⟩
          · cases i with
            | zero => exact ⟨k, a, a', by simp, by simp⟩
            | succ i => simpa using h1 i (by simpa using hi)
          · rw [Bool.and_eq_true, h3, beqI_eq]
            simp

theorem allInts_spec : ∀ (xs : List AV) {xv : List Value}, allInts xs = true → VRs φ xs xv → ∀ i, i < xv.length → ∃ k a, xv[i]? = some (.int k a) := by
  intro xs
  induction xs with
  | nil => intro xv _ hx i hi; cases hx; simp at hi
  | cons x l ih =>
    intro xv h hx i hi
    cases x <;> first | (simp [allInts] at h; done) | skip
    obtain ⟨x, xr, hx, hxr, rfl⟩ := hx
    cases hx
    cases i with
    | zero => exact ⟨_, _, by simp; exact ⟨rfl, rfl⟩⟩
    | succ i => simpa using ih (by simpa [allInts] using h) hxr i (by simpa using hi)

theorem intTy_spec (hT : TabOK T) {t : TypeId} (h : intTy T t = true) : (∃ q, T.P.underlying t = some (.int q)) ∧ ∃ i, T.P.info? t = some i ∧ i.size = 1 := by
  unfold intTy at h
  split at h
  · rename_i q hu
    split at h
    · rename_i i hi
      exact ⟨⟨q, hT.under _ _ hu⟩, i, hT.info _ _ hi, Nat.eq_of_beq_eq_true h⟩
    · cases h
  · cases h

theorem part_int {P : Program} {e : TypeId} {q : IntKind} (hu : P.underlying e = some (.int q)) {xs : Array Value} {off : Nat} {v : Value} (h : xs[off]? = some v) (w : World) : (part e xs off).run P w = .ok v w := by
  simp [part, isAgg, run_underlying hu, h]

theorem eqItems_int {P : Program} {e : TypeId} {q : IntKind} (hu : P.underlying e = some (.int q)) {xs ys : Array Value} (d : Nat) (w : World) : ∀ (is : List Nat), (∀ i ∈ is, ∃ k a a', xs[i]? = some (.int k a) ∧ ys[i]? = some (.int k a')) →
    ∃ r : Bool, (Op.eqItems (d + 1) e 1 xs ys is).run P w = .ok r w ∧ (r = true ↔ ∀ i ∈ is, xs[i]? = ys[i]?) := by
  intro is
  induction is with
  | nil => intro _; exact ⟨true, by simp [Op.eqItems], by simp⟩
  | cons i is ih =>
    intro hall
    obtain ⟨k, a, a', hx, hy⟩ := hall i (by simp)
    obtain ⟨r, hr, hiff⟩ := ih fun j hj => hall j (by simp [hj])
    have p1 := part_int hu (off := i * 1) (by rw [Nat.mul_one]; exact hx) w
    have p2 := part_int hu (off := i * 1) (by rw [Nat.mul_one]; exact hy) w
    have p3 := run_equalIn_int (P := P) w d e k q a a' hu
    simp only [Op.eqItems, Sem.run_bind, p1, p2, p3, Result.andThen_ok]
    cases hab : a == a' with
    | false =>
      refine ⟨false, by simp, ?_⟩
      simp only [Bool.false_eq_true, false_iff]
      intro h
      have := h i (by simp)
      rw [hx, hy] at this
      simp at this
      simp [this] at hab
    | true =>
      have : a = a' := by simpa using hab
      refine ⟨r, by simpa using hr, ?_⟩
      rw [hiff]
      simp [hx, hy, this]

theorem eqFields_int {P : Program} {xs ys : Array Value} (d : Nat) (w : World) : ∀ (fs : List Field) (n : Nat), (∀ j (f : Field), fs[j]? = some f → f.name ≠ "_" ∧ f.offset = n + j ∧ ∃ q, P.underlying f.type = some (.int q)) →
    (∀ j, j < fs.length → ∃ k a a', xs[n + j]? = some (.int k a) ∧ ys[n + j]? = some (.int k a')) →
    ∃ r : Bool, (Op.eqFields (d + 1) xs ys fs).run P w = .ok r w ∧ (r = true ↔ ∀ j, j < fs.length → xs[n + j]? = ys[n + j]?) := by
  intro fs
  induction fs with
  | nil => intro n _ _; exact ⟨true, by simp [Op.eqFields], by simp⟩
  | cons f fs ih =>
    intro n hf hall
    obtain ⟨hn, ho, q, hu⟩ := hf 0 f rfl
    obtain ⟨k, a, a', hx, hy⟩ := hall 0 (by simp)
    obtain ⟨r, hr, hiff⟩ := ih (n + 1) (fun j g hg => by
      obtain ⟨h1, h2, h3⟩ := hf (j + 1) g (by simpa using hg)
      exact ⟨h1, by omega, h3⟩) (fun j hj => by
      obtain ⟨k, a, a', h1, h2⟩ := hall (j + 1) (by simpa using hj)
      exact ⟨k, a, a', by rwa [show n + 1 + j = n + (j + 1) by omega], by rwa [show n + 1 + j = n + (j + 1) by omega]⟩)
    have ho' : f.offset = n := by omega
    have p1 := part_int hu (off := f.offset) (by rw [ho']; exact hx) w
    have p2 := part_int hu (off := f.offset) (by rw [ho']; exact hy) w
    have p3 := run_equalIn_int (P := P) w d f.type k q a a' hu
    simp only [Op.eqFields, hn, ne_eq, not_false_eq_true, if_true, Sem.run_bind, p1, p2, p3, Result.andThen_ok]
    have hsplit : (∀ j, j < (f :: fs).length → xs[n + j]? = ys[n + j]?) ↔ (xs[n]? = ys[n]? ∧ ∀ j, j < fs.length → xs[n + 1 + j]? = ys[n + 1 + j]?) := by
      constructor
      · intro h
        exact ⟨h 0 (by simp), fun j hj => by have := h (j + 1) (by simpa using hj); rwa [show n + 1 + j = n + (j + 1) by omega]⟩
      · rintro ⟨h1, h2⟩ j hj
        cases j with
        | zero => exact h1
        | succ j => have := h2 j (by simpa using hj); rwa [show n + 1 + j = n + (j + 1) by omega] at this
    rw [hsplit]
    simp only [Nat.add_zero] at hx hy
    cases hab : a == a' with
    | false =>
      refine ⟨false, by simp, ?_⟩
      simp only [Bool.false_eq_true, false_iff]
      rintro ⟨h, _⟩
      rw [hx, hy] at h
      simp at h
      simp [h] at hab
    | true =>
      have : a = a' := by simpa using hab
      refine ⟨r, by simpa using hr, ?_⟩
      rw [hiff]
      simp [hx, hy, this]

theorem fieldsAt_spec (hT : TabOK T) : ∀ (fs : List Field) (n : Nat), fieldsAt T n fs = true → ∀ j (f : Field), fs[j]? = some f → f.name ≠ "_" ∧ f.offset = n + j ∧ ∃ q, T.P.underlying f.type = some (.int q) := by
  intro fs
  induction fs with
  | nil => intro n _ j f h; simp at h
  | cons g fs ih =>
    intro n h j f hf
    simp only [fieldsAt, Bool.and_eq_true, Bool.not_eq_true', beq_eq_false_iff_ne] at h
    cases j with
    | zero =>
      simp at hf
      subst hf
      exact ⟨h.1.2.1, by have := Nat.eq_of_beq_eq_true h.1.1; omega, (intTy_spec hT h.1.2.2).1⟩
    | succ j =>
      obtain ⟨h1, h2, h3⟩ := ih (n + 1) h.2 j f (by simpa using hf)
      exact ⟨h1, by omega, h3⟩

/-- two keys that are rows of ints, held against each other -/
theorem equal_agg (hT : TabOK T) {kt : TypeId} {n : Nat} (ht : aggType T kt n = true) {xs ys : List AV} {xv yv : List Value} {b : Bool} (hs : sameInts xs ys = some b) (hx : VRs φ xs xv) (hy : VRs φ ys yv) (hn : xv.length = n) (w : World) :
    (Op.equal kt (.agg ⟨xv⟩) (.agg ⟨yv⟩)).run T.P w = .ok b w := by
  obtain ⟨h1, h2, h3⟩ := sameInts_spec xs ys hs hx hy
  have hext : (∀ i, i < n → xv[i]? = yv[i]?) ↔ xv = yv := by
    constructor
    · intro h
      apply List.ext_getElem?
      intro i
      rcases Nat.lt_or_ge i n with hi | hi
      · exact h i hi
      · rw [List.getElem?_eq_none (by omega), List.getElem?_eq_none (by omega)]
    · rintro rfl i _; rfl
  have fin : ∀ {m : Sem Bool} {r : Bool}, m.run T.P w = .ok r w → (r = true ↔ ∀ i, i < n → xv[i]? = yv[i]?) → m.run T.P w = .ok b w := by
    intro m r hr hiff
    have : r = b := by
      rw [Bool.eq_iff_iff, hiff, hext, h3]
    rw [hr, this]
  unfold aggType at ht
  split at ht
  · rename_i m e hu
    simp only [Bool.and_eq_true] at ht
    have hm := Nat.eq_of_beq_eq_true ht.1
    subst hm
    obtain ⟨⟨q, hq⟩, i, hi, hsz⟩ := intTy_spec hT ht.2
    have hc : T.P.cellsOf e = 1 := by simp [Program.cellsOf, hi, hsz]
    obtain ⟨r, hr, hiff⟩ := eqItems_int hq (xs := ⟨xv⟩) (ys := ⟨yv⟩) 9998 w (List.range m) fun j hj => by
      obtain ⟨k, a, a', p, q⟩ := h1 j (by rw [hn]; simpa using hj)
      exact ⟨k, a, a', by simpa using p, by simpa using q⟩
    refine fin (r := r) ?_ (by rw [hiff]; simp)
    show (Op.equalIn (9999 + 1) kt _ _).run T.P w = _
    rw [run_equalIn_array w 9999 ⟨xv⟩ ⟨yv⟩ (hT.under _ _ hu) hi, hc]
    exact hr
  · rename_i fs hu
    simp only [Bool.and_eq_true, Bool.not_eq_true'] at ht
    have hm := Nat.eq_of_beq_eq_true ht.1
    have hfs : T.P.fieldsOf kt = fs := by simp [Program.fieldsOf, hT.under _ _ hu]
    obtain ⟨r, hr, hiff⟩ := eqFields_int (P := T.P) (xs := ⟨xv⟩) (ys := ⟨yv⟩) 9998 w fs.toList 0 (fieldsAt_spec hT _ _ ht.2.1) fun j hj => by
      obtain ⟨k, a, a', p, q⟩ := h1 j (by omega)
      exact ⟨k, a, a', by simpa using p, by simpa using q⟩
    refine fin (r := r) ?_ (by rw [hiff, hm]; simp)
    show (Op.equalIn (9999 + 1) kt _ _).run T.P w = _
    rw [run_equalIn_struct w 9999 kt ⟨xv⟩ ⟨yv⟩ (by rw [hfs]; exact hT.under _ _ hu) ht.2.2, hfs]
    exact hr
  · cases ht

theorem checkKey_int {P : Program} {e : TypeId} {q : IntKind} (hu : P.underlying e = some (.int q)) (b : Bool) (n : Nat) (k : IntKind) (a : Int) (w : World) : (Instr.checkKey b (n + 1) e (.int k a)).run P w = .ok () w := by
  simp [Instr.checkKey, run_underlying hu]

theorem checkKey_agg (hT : TabOK T) {kt : TypeId} {n : Nat} (ht : aggType T kt n = true) {xs : List AV} {xv : List Value} (ha : allInts xs = true) (hx : VRs φ xs xv) (hn : xv.length = n) (b : Bool) (w : World) :
    (Instr.checkKey b 10000 kt (.agg ⟨xv⟩)).run T.P w = .ok () w := by
  have h1 := allInts_spec xs ha hx
  show (Instr.checkKey b (9999 + 1) kt (.agg ⟨xv⟩)).run T.P w = _
  unfold aggType at ht
  split at ht
  · rename_i m e hu
    simp only [Bool.and_eq_true] at ht
    have hm := Nat.eq_of_beq_eq_true ht.1
    subst hm
    obtain ⟨⟨q, hq⟩, i, hi, hsz⟩ := intTy_spec hT ht.2
    rw [Instr.checkKey]
    simp only [Sem.run_bind, run_underlying (hT.under _ _ hu), Result.andThen_ok]
    simp only [Std.Legacy.Range.forIn_eq_forIn_range', Std.Legacy.Range.size, Nat.sub_zero, Nat.add_one_sub_one, Nat.div_one]
    have each : ∀ j ∈ List.range' 0 m, j < xv.length := fun j hj => by simp at hj; omega
    generalize List.range' 0 m = is at each
    induction is with
    | nil => simp
    | cons j is ih =>
      obtain ⟨k, a, hk⟩ := h1 j (each j (by simp))
      have p1 := part_int hq (xs := ⟨xv⟩) (off := j * T.P.cellsOf e) (v := .int k a) (by rw [show T.P.cellsOf e = 1 by simp [Program.cellsOf, hi, hsz], Nat.mul_one]; simpa using hk) w
      have p2 := checkKey_int (P := T.P) hq b 9998 k a w
      simp only [List.forIn_cons, Sem.run_bind, run_sizeOf w hi, Result.andThen_ok, p1, p2, Sem.run_pure]
      exact ih (fun y hy => each y (by simp [hy]))
  · rename_i fs hu
    simp only [Bool.and_eq_true, Bool.not_eq_true'] at ht
    have hm := Nat.eq_of_beq_eq_true ht.1
    have hfa := fieldsAt_spec hT _ _ ht.2.1
    rw [Instr.checkKey]
    simp only [Sem.run_bind, run_underlying (hT.under _ _ hu), Result.andThen_ok]
    rw [← Array.forIn_toList]
    have each : ∀ f ∈ fs.toList, f.name ≠ "_" ∧ f.offset < xv.length ∧ ∃ q, T.P.underlying f.type = some (.int q) := by
      intro f hf
      obtain ⟨j, hj⟩ := List.mem_iff_getElem?.1 hf
      obtain ⟨a1, a2, a3⟩ := hfa j f hj
      have : j < fs.toList.length := (List.getElem?_eq_some_iff.1 hj).1
      exact ⟨a1, by omega, a3⟩
    clear hfa hm ht hu
    generalize fs.toList = l at each
    induction l with
    | nil => simp
    | cons f l ih =>
      obtain ⟨a1, a2, q, hq⟩ := each f (by simp)
      obtain ⟨k, a, hk⟩ := h1 f.offset a2
      have p1 := part_int hq (xs := ⟨xv⟩) (off := f.offset) (v := .int k a) (by simpa using hk) w
      have p2 := checkKey_int (P := T.P) hq b 9998 k a w
      simp only [List.forIn_cons, Sem.run_bind, Result.andThen_ok, a1, ne_eq, not_false_eq_true, if_true, p1, p2, Sem.run_pure]
      exact ih (fun y hy => each y (by simp [hy]))
  · cases ht
end
end Go.Ex
namespace Go.Ex
open Go Go.RowKit

section
variable {ng B : Nat} {W : World} {φ : Phi} {s : St} {w : World} {T : Tab}

/-! ### maps -/
theorem beqBytes_eq : ∀ a b : List UInt8, beqBytes a b = (a == b)
  | [], [] => rfl
  | [], _ :: _ => rfl
  | _ :: _, [] => rfl
  | a :: l, b :: m => by
    simp only [beqBytes, nbeq_eq, beqBytes_eq l m, List.cons_beq_cons]
    congr 1
    rw [Bool.eq_iff_iff]
    simp [UInt8.toNat_inj]

theorem bytes_beq (a b : List UInt8) : ((⟨⟨a⟩⟩ : ByteArray) == (⟨⟨b⟩⟩ : ByteArray)) = (a == b) := by
  show ((⟨a⟩ : Array UInt8) == ⟨b⟩) = _
  simp

theorem sameKey_ok {d : TypeDesc} {k k' : AV} {b : Bool} (h : sameKey k k' = some b) (hd : plainKey (some d) k = true) {kv kv' : Value} (hk : VR φ k kv) (hk' : VR φ k' kv') : Instr.sameNow d kv kv' = some b := by
  unfold plainKey at hd
  split at hd
  · rename_i e; cases e
    rename_i k1 k2 n
    cases hk
    cases k' with
    | int k3 n' =>
      cases hk'
      simp only [sameKey] at h
      cases hkk : k2 == k3 with
      | false => rw [hkk] at h; cases h
      | true =>
        rw [hkk] at h
        have e : k2 = k3 := by simpa using hkk
        subst e
        cases h
        simp [Instr.sameNow, beqI_eq]
    | _ => simp [sameKey] at h
  · rename_i e; cases e
    cases hk
    cases k' with
    | string b' =>
      cases hk'
      rename_i b0
      obtain ⟨⟨l⟩⟩ := b0
      obtain ⟨⟨l'⟩⟩ := b'
      simp [sameKey] at h
      subst h
      simp [Instr.sameNow, beqBytes_eq, bytes_beq]
    | _ => simp [sameKey] at h
  · rename_i e; cases e
    cases hk
    cases k' <;> simp [sameKey] at h
    cases hk'
    subst h
    simp [Instr.sameNow]
  · cases hd

theorem findKeyA_ok {d : TypeDesc} {k : AV} (hd : plainKey (some d) k = true) {kv : Value} (hk : VR φ k kv) : ∀ (es : List (AV × AV × Nat)) (ms : List MapEntry) (i : Nat) (r : Option (Nat × AV)),
    ER φ es ms → findKeyA k es i = some r →
    match r with
    | none => Instr.findNow d kv ms i = some none
    | some (j, x) => ∃ v, Instr.findNow d kv ms i = some (some (j, v)) ∧ VR φ x v ∧ ∃ n k0 b0, j = i + n ∧ es[n]? = some (k0, x, b0) ∧ sameKey k k0 = some true
  | [], _, i, r, he, h => by
    rw [show _ = _ from he]
    simp [findKeyA] at h
    subst h
    rfl
  | (k0, x0, b0) :: es, _, i, r, ⟨e, ms, h1, h2, h3, h4, h5⟩, h => by
    subst h5
    simp only [findKeyA] at h
    cases hs : sameKey k k0 with
    | none => rw [hs] at h; cases h
    | some b =>
      rw [hs] at h
      have hn := sameKey_ok (φ := φ) hs hd hk h1
      cases b with
      | true =>
        simp only at h
        cases h
        simp only [Instr.findNow, hn]
        exact ⟨_, rfl, h2, 0, k0, b0, by simp, by simp, hs⟩
      | false =>
        simp only at h
        have ih := findKeyA_ok hd hk es ms (i + 1) r h4 h
        cases r with
        | none => simp only [Instr.findNow, hn]; exact ih
        | some p =>
          obtain ⟨j, x⟩ := p
          obtain ⟨v, q1, q2, n, k1, b1, q3, q4, q5⟩ := ih
          simp only [Instr.findNow, hn]
          exact ⟨v, q1, q2, n + 1, k1, b1, by omega, by simpa using q4, q5⟩

theorem checkKey_plain (hT : TabOK T) {kt : TypeId} {k : AV} (hd : plainKey (T.under kt) k = true) {kv : Value} (hk : VR φ k kv) (b : Bool) (w : World) : (Instr.checkKey b 10000 kt kv).run T.P w = .ok () w := by
  have key : ∀ n, (Instr.checkKey b (n + 1) kt kv).run T.P w = .ok () w := by
    intro n
    unfold plainKey at hd
    split at hd
    · rename_i hu
      cases hk
      simp [Instr.checkKey, run_underlying' hT hu w]
    · rename_i hu
      cases hk
      simp [Instr.checkKey, run_underlying' hT hu w]
    · rename_i hu
      cases hk
      simp [Instr.checkKey, run_underlying' hT hu w]
    · cases hd
  exact key 9999

theorem goodKey_cases {kt : TypeId} {k : AV} (h : goodKey T kt k = true) : plainKey (T.under kt) k = true ∨ ∃ xs, k = .agg xs ∧ allInts xs = true ∧ aggType T kt xs.length = true := by
  simp only [goodKey, Bool.or_eq_true] at h
  rcases h with h | h
  · exact .inl h
  · cases k <;> first | (simp [aggKey] at h; done) | skip
    rename_i xs
    simp only [aggKey, Bool.and_eq_true] at h
    exact .inr ⟨xs, rfl, h.1, h.2⟩

theorem checkKey_ok (hT : TabOK T) {kt : TypeId} {k : AV} (hd : goodKey T kt k = true) {kv : Value} (hk : VR φ k kv) (b : Bool) (w : World) : (Instr.checkKey b 10000 kt kv).run T.P w = .ok () w := by
  rcases goodKey_cases hd with h | ⟨xs, rfl, h1, h2⟩
  · exact checkKey_plain hT h hk b w
  · obtain ⟨xv, hx, rfl⟩ := hk
    exact checkKey_agg hT h2 h1 hx hx.length b w

theorem findAsking_agg (hT : TabOK T) {kt : TypeId} {xs : List AV} (ht : aggType T kt xs.length = true) {xv : List Value} (hx : VRs φ xs xv) (w : World) : ∀ (es : List (AV × AV × Nat)) (ms : List MapEntry) (i : Nat) (r : Option (Nat × AV)),
    ER φ es ms → findKeyA (.agg xs) es i = some r →
    match r with
    | none => (Instr.findAsking kt (.agg ⟨xv⟩) ms i).run T.P w = .ok none w
    | some (j, x) => ∃ v, (Instr.findAsking kt (.agg ⟨xv⟩) ms i).run T.P w = .ok (some (j, v)) w ∧ VR φ x v ∧ ∃ n k0 b0, j = i + n ∧ es[n]? = some (k0, x, b0) ∧ sameKey (.agg xs) k0 = some true
  | [], _, i, r, he, h => by
    rw [show _ = _ from he]
    simp [findKeyA] at h
    subst h
    simp [Instr.findAsking]
  | (k0, x0, b0) :: es, _, i, r, ⟨e, ms, h1, h2, h3, h4, h5⟩, h => by
    subst h5
    simp only [findKeyA] at h
    cases hs : sameKey (.agg xs) k0 with
    | none => rw [hs] at h; cases h
    | some b =>
      rw [hs] at h
      cases k0 <;> first | (simp [sameKey] at hs; done) | skip
      rename_i ys
      obtain ⟨yv, hy, ey⟩ := h1
      have hs' : sameInts xs ys = some b := by simpa [sameKey] using hs
      have heq := equal_agg hT ht hs' hx hy hx.length w
      cases b with
      | true =>
        simp only at h
        cases h
        simp only [Instr.findAsking, Sem.run_bind, ey, heq, Result.andThen_ok]
        exact ⟨_, rfl, h2, 0, _, b0, by simp, by simp, hs⟩
      | false =>
        simp only at h
        have ih := findAsking_agg hT ht hx w es ms (i + 1) r h4 h
        cases r with
        | none => simp only [Instr.findAsking, Sem.run_bind, ey, heq, Result.andThen_ok]; exact ih
        | some p =>
          obtain ⟨j, x⟩ := p
          obtain ⟨v, q1, q2, n, k1, b1, q3, q4, q5⟩ := ih
          simp only [Instr.findAsking, Sem.run_bind, ey, heq, Result.andThen_ok]
          exact ⟨v, q1, q2, n + 1, k1, b1, by omega, by simpa using q4, q5⟩

theorem aggType_under (hT : TabOK T) {kt : TypeId} {n : Nat} (h : aggType T kt n = true) : ∃ d, T.P.underlying kt = some d ∧ ((∃ a b, d = .array a b) ∨ ∃ f, d = .struct f) := by
  unfold aggType at h
  split at h
  · rename_i m e hu; exact ⟨_, hT.under _ _ hu, .inl ⟨_, _, rfl⟩⟩
  · rename_i fs hu; exact ⟨_, hT.under _ _ hu, .inr ⟨_, rfl⟩⟩
  · cases h

theorem findNow_agg {d : TypeDesc} (hd : (∃ a b, d = .array a b) ∨ ∃ f, d = .struct f) (k : Value) : ∀ (ms : List MapEntry) (i : Nat), Instr.findNow d k ms i = if ms = [] then some none else none := by
  intro ms i
  cases ms with
  | nil => rfl
  | cons e ms =>
    rcases hd with ⟨a, b, rfl⟩ | ⟨f, rfl⟩ <;> simp [Instr.findNow, Instr.sameNow]

theorem findKey_plain (hT : TabOK T) {kt : TypeId} {k : AV} (hd : plainKey (T.under kt) k = true) {kv : Value} (hk : VR φ k kv) {es : List (AV × AV × Nat)} {ms : List MapEntry} (he : ER φ es ms) {r : Option (Nat × AV)}
    (h : findKeyA k es 0 = some r) (w : World) :
    match r with
    | none => (Instr.findKey kt kv ms).run T.P w = .ok none w
    | some (j, x) => ∃ v, (Instr.findKey kt kv ms).run T.P w = .ok (some (j, v)) w ∧ VR φ x v ∧ ∃ k0 b0, es[j]? = some (k0, x, b0) ∧ sameKey k k0 = some true := by
  cases hu : T.under kt with
  | none => rw [hu] at hd; cases k <;> cases hd
  | some d =>
    rw [hu] at hd
    have hf := findKeyA_ok (φ := φ) hd hk es ms 0 r he h
    cases r with
    | none =>
      simp only at hf ⊢
      simp [Instr.findKey, run_underlying' hT hu w, hf]
    | some p =>
      obtain ⟨j, x⟩ := p
      obtain ⟨v, q1, q2, n, k0, b0, q3, q4, q5⟩ := hf
      refine ⟨v, ?_, q2, k0, b0, by rw [q3, Nat.zero_add]; exact q4, q5⟩
      simp [Instr.findKey, run_underlying' hT hu w, q1]

theorem findKey_ok (hT : TabOK T) {kt : TypeId} {k : AV} (hd : goodKey T kt k = true) {kv : Value} (hk : VR φ k kv) {es : List (AV × AV × Nat)} {ms : List MapEntry} (he : ER φ es ms) {r : Option (Nat × AV)}
    (h : findKeyA k es 0 = some r) (w : World) :
    match r with
    | none => (Instr.findKey kt kv ms).run T.P w = .ok none w
    | some (j, x) => ∃ v, (Instr.findKey kt kv ms).run T.P w = .ok (some (j, v)) w ∧ VR φ x v ∧ ∃ k0 b0, es[j]? = some (k0, x, b0) ∧ sameKey k k0 = some true := by
  rcases goodKey_cases hd with h' | ⟨xs, rfl, h1, h2⟩
  · exact findKey_plain hT h' hk he h w
  · obtain ⟨xv, hx, rfl⟩ := hk
    obtain ⟨d, hu, hdd⟩ := aggType_under hT h2
    have hf := findAsking_agg hT h2 hx w es ms 0 r he h
    have hfn := findNow_agg hdd (.agg ⟨xv⟩) ms 0
    have hrun : (Instr.findKey kt (.agg ⟨xv⟩) ms).run T.P w = (Instr.findAsking kt (.agg ⟨xv⟩) ms 0).run T.P w := by
      simp only [Instr.findKey, Sem.run_bind, run_underlying hu, Result.andThen_ok, hfn]
      cases ms with
      | nil => simp [Instr.findAsking]
      | cons e ms => simp
    cases r with
    | none => simp only at hf ⊢; rw [hrun]; exact hf
    | some p =>
      obtain ⟨j, x⟩ := p
      obtain ⟨v, q1, q2, n, k0, b0, q3, q4, q5⟩ := hf
      exact ⟨v, by rw [hrun]; exact q1, q2, k0, b0, by rw [q3, Nat.zero_add]; exact q4, q5⟩

theorem opLookup_ok (hT : TabOK T) (h : SR ng B W φ s w) (ty : TypeId) (ok : Bool) {m k : AV} {mv kv : Value} (hm : VR φ m mv) (hk : VR φ k kv) : ValOK T ng B W φ w (Instr.lookup ty mv kv ok) (opLookup T s ty m k ok) := by
  unfold opLookup
  intro o ho
  split at ho
  · rename_i kt el hu
    cases hp : goodKey T kt k with
    | false => rw [hp] at ho; cases ho
    | true =>
      rw [hp] at ho
      simp only [cond_true] at ho
      have hck := fun b w => checkKey_ok (φ := φ) hT hp hk b w
      split at ho
      · rename_i v
        obtain ⟨i, hi, rfl⟩ := hm
        split at ho
        · rename_i es clock hg
          obtain ⟨j, hj, ms, q1, q2⟩ := h.heap v _ hg
          rw [hi] at hj; cases hj
          have hgo := run_getObj (P := T.P) q1 (fun _ _ _ e => by cases e)
          split at ho
          · rename_i ix x hf
            obtain ⟨vv, f1, f2, _⟩ := findKey_ok (φ := φ) hT hp hk q2 hf w
            refine ValOK.same h (pairA_VR f2) ?_ o ho
            simp [Instr.lookup, run_underlying' hT hu w, hgo, hck, f1]
          · rename_i hf
            have f1 := findKey_ok (φ := φ) hT hp hk q2 hf w
            obtain ⟨z, hz, ho⟩ := R.bind_ok ho
            obtain ⟨zv, z1, z2, _⟩ := zeroA_ok (φ := φ) hT hz w
            refine ValOK.same h (pairA_VR z2) ?_ o ho
            simp only at f1
            simp [Instr.lookup, run_underlying' hT hu w, hgo, hck, f1, z1]
          · cases ho
        · cases ho
      · cases hm
        obtain ⟨z, hz, ho⟩ := R.bind_ok ho
        obtain ⟨zv, z1, z2, _⟩ := zeroA_ok (φ := φ) hT hz w
        have f1 := findKey_ok (φ := φ) hT hp hk (es := []) (ms := []) rfl (r := none) rfl w
        refine ValOK.same h (pairA_VR z2) ?_ o ho
        simp only at f1
        simp [Instr.lookup, run_underlying' hT hu w, hck, f1, z1]
      · cases ho
  · cases ho

theorem ER.append : ∀ {es fs : List (AV × AV × Nat)} {ms ns : List MapEntry}, ER φ es ms → ER φ fs ns → ER φ (es ++ fs) (ms ++ ns)
  | [], _, _, _, e, h => by rw [show _ = _ from e]; exact h
  | (_, _, _) :: _, _, _, _, ⟨e, r, a, b, c, d, f⟩, h => by rw [f]; exact ⟨e, _, a, b, c, ER.append d h, rfl⟩
theorem ER.length : ∀ {es : List (AV × AV × Nat)} {ms : List MapEntry}, ER φ es ms → ms.length = es.length
  | [], _, e => by rw [show _ = _ from e]; rfl
  | (_, _, _) :: _, _, ⟨e, r, a, b, c, d, f⟩ => by rw [f]; simp [ER.length d]
theorem ER.get : ∀ {es : List (AV × AV × Nat)} {ms : List MapEntry} (_ : ER φ es ms) (n : Nat) {k x : AV} {b : Nat}, es[n]? = some (k, x, b) → ∃ e, ms[n]? = some e ∧ VR φ k e.key ∧ VR φ x e.val ∧ e.born = b
  | [], _, _, n, k, x, b, h => by simp at h
  | (_, _, _) :: _, _, ⟨e, r, a, b, c, d, f⟩, 0, _, _, _, h => by
    simp at h
    obtain ⟨rfl, rfl, rfl⟩ := h
    exact ⟨e, by simp [f], a, b, c⟩
  | (_, _, _) :: _, _, ⟨e, r, a, b, c, d, f⟩, n + 1, _, _, _, h => by
    obtain ⟨e', q1, q2⟩ := ER.get d n (by simpa using h)
    exact ⟨e', by simpa [f] using q1, q2⟩
theorem ER.set {k x : AV} {g : MapEntry → MapEntry} : ∀ {es : List (AV × AV × Nat)} {ms : List MapEntry} (_ : ER φ es ms) (n : Nat) (_ : ∀ e, ms[n]? = some e → VR φ k (g e).key ∧ VR φ x (g e).val ∧ (g e).born = e.born),
    ER φ (setAt k x es n) (ms.modify n g)
  | [], _, e, n, _ => by rw [show _ = _ from e]; cases n <;> rfl
  | (_, _, _) :: _, _, ⟨e, r, a, b, c, d, f⟩, 0, hg => by
    subst f
    obtain ⟨g1, g2, g3⟩ := hg e (by simp)
    exact ⟨g e, r, g1, g2, g3.trans c, d, by simp⟩
  | (_, _, _) :: _, _, ⟨e, r, a, b, c, d, f⟩, n + 1, hg => by
    subst f
    exact ⟨e, _, a, b, c, ER.set d n (fun e' h' => hg e' (by simpa using h')), by simp⟩

theorem sameKey_bits {k k0 : AV} (h : sameKey k k0 = some true) {kv kv0 : Value} (hk : VR φ k kv) (hk0 : VR φ k0 kv0) : Instr.sameBits 10000 kv0 kv = true := by
  cases k with
  | int t a =>
    cases k0 with
    | int t' a' =>
      cases hk; cases hk0
      simp only [sameKey] at h
      cases hkk : t == t' with
      | false => rw [hkk] at h; cases h
      | true =>
        rw [hkk] at h
        have e : t = t' := by simpa using hkk
        subst e
        simp only [cond_true, Option.some.injEq] at h
        rw [beqI_eq] at h
        have := beq_iff_eq.1 h
        subst this
        simp [Instr.sameBits]
    | _ => simp [sameKey] at h
  | string b =>
    cases k0 with
    | string b' =>
      cases hk; cases hk0
      obtain ⟨⟨l⟩⟩ := b
      obtain ⟨⟨l'⟩⟩ := b'
      simp [sameKey, beqBytes_eq] at h
      subst h
      simp only [Instr.sameBits, bytes_beq]
      simp
    | _ => simp [sameKey] at h
  | bool b =>
    cases k0 <;> simp [sameKey] at h
    cases hk; cases hk0
    subst h
    simp [Instr.sameBits]
  | agg xs =>
    cases k0 <;> first | (simp [sameKey] at h; done) | skip
    rename_i ys
    obtain ⟨xv, hx, rfl⟩ := hk
    obtain ⟨yv, hy, rfl⟩ := hk0
    obtain ⟨h1, h2, h3⟩ := sameInts_spec xs ys (by simpa [sameKey] using h) hx hy
    have e : xv = yv := h3.1 rfl
    subst e
    show Instr.sameBits (9999 + 1) (.agg ⟨xv⟩) (.agg ⟨xv⟩) = true
    simp only [Instr.sameBits, beq_self_eq_true, Bool.true_and, List.all_eq_true]
    rintro ⟨a, b⟩ hab
    obtain ⟨i, hi⟩ := List.mem_iff_getElem?.1 hab
    rw [List.getElem?_zip_eq_some] at hi
    have hlt : i < xv.length := (List.getElem?_eq_some_iff.1 hi.1).1
    obtain ⟨k, p, p', e1, e2⟩ := h1 i hlt
    simp only at hi
    rw [e1] at hi
    obtain ⟨g1, g2⟩ := hi
    cases g1
    cases g2
    simp [Instr.sameBits]
  | _ => cases k0 <;> simp [sameKey] at h

/-- an operation that gives no value -/
def SkipOK (T : Tab) (ng B : Nat) (W : World) (φ : Phi) (w : World) (m : Sem Unit) (r : R Out) : Prop :=
  ∀ o, r = .ok o → ∃ s' w', o = .skip s' ∧ SR ng B W φ s' w' ∧ m.run T.P w = .ok () w'

theorem opMapUpdate_ok (hT : TabOK T) (h : SR ng B W φ s w) (ty : TypeId) {m k x : AV} {mv kv xv : Value} (hm : VR φ m mv) (hk : VR φ k kv) (hx : VR φ x xv) : SkipOK T ng B W φ w (Instr.mapUpdate ty mv kv xv) (opMapUpdate T s ty m k x) := by
  unfold opMapUpdate
  intro o ho
  split at ho
  · rename_i kt el hu
    cases hp : goodKey T kt k with
    | false => rw [hp] at ho; cases ho
    | true =>
      rw [hp] at ho
      simp only [cond_true] at ho
      have hck := fun b w => checkKey_ok (φ := φ) hT hp hk b w
      split at ho
      · rename_i v
        obtain ⟨i, hi, rfl⟩ := hm
        cases hb : Nat.blt v 1000 with
        | true => rw [hb] at ho; cases ho
        | false =>
          rw [hb] at ho
          simp only [cond_false] at ho
          have h1000 := blt_false hb
          split at ho
          · rename_i es clock hg
            obtain ⟨j, hj, ms, q1, q2⟩ := h.heap v _ hg
            rw [hi] at hj; cases hj
            have hgo := run_getObj (P := T.P) q1 (fun _ _ _ e => by cases e)
            split at ho
            · rename_i ix x0 hf
              obtain ⟨vv, f1, f2, k0, b0, f3, f4⟩ := findKey_ok (φ := φ) hT hp hk q2 hf w
              obtain ⟨e, e1, e2, e3, e4⟩ := ER.get q2 ix f3
              cases ho
              have hbits := sameKey_bits f4 hk e2
              have hget : ms[ix]? = some e := by simpa using e1
              have hs := h.setObj h1000 hi hg (.map (setAt k x es ix) clock) (.map (ms.modify ix fun e => { e with key := kv, val := xv }) clock)
                ⟨_, heap_set_same q1, by rw [Array.toList_modify]; exact ER.set q2 ix (fun e' _ => ⟨hk, hx, rfl⟩)⟩
              refine ⟨_, _, rfl, hs, ?_⟩
              simp only [Instr.mapUpdate, Sem.run_bind, run_underlying' hT hu w, Result.andThen_ok, hgo, hck, f1, Instr.keyThatStays, hget, Option.map_some, Option.getD_some, hbits, if_true, Sem.run_pure,
                run_setObj q1 (fun _ _ _ e => by cases e)]
            · rename_i hf
              have f1 := findKey_ok (φ := φ) hT hp hk q2 hf w
              simp only [forceN_eq] at ho
              cases ho
              have hs := h.setObj h1000 hi hg (.map (es ++ [(k, x, clock)]) (clock + 1)) (.map (ms.push { key := kv, val := xv, born := clock }) (clock + 1))
                ⟨_, heap_set_same q1, by rw [Array.toList_push]; exact ER.append q2 ⟨_, [], hk, hx, rfl, rfl, rfl⟩⟩
              refine ⟨_, _, rfl, hs, ?_⟩
              simp only at f1
              simp only [Instr.mapUpdate, Sem.run_bind, run_underlying' hT hu w, Result.andThen_ok, hgo, hck, f1, run_setObj q1 (fun _ _ _ e => by cases e)]
            · cases ho
          · cases ho
      · cases ho
  · cases ho

theorem bornAt_get : ∀ (es : List (AV × AV × Nat)) (n : Nat) (k x : AV) (b : Nat), es[n]? = some (k, x, b) → bornAt es n = b
  | [], n, _, _, _, h => by simp at h
  | (_, _, _) :: _, 0, _, _, _, h => by simp at h; obtain ⟨_, _, rfl⟩ := h; rfl
  | (_, _, _) :: l, n + 1, k, x, b, h => bornAt_get l n k x b (by simpa using h)

theorem opMapEntry_ok (hT : TabOK T) (h : SR ng B W φ s w) (ty : TypeId) {m k : AV} {mv kv : Value} (hm : VR φ m mv) (hk : VR φ k kv) : ValOK T ng B W φ w (Instr.mapEntry ty mv kv) (opMapEntry T s ty m k) := by
  unfold opMapEntry
  intro o ho
  split at ho
  · rename_i kt el hu
    cases hp : goodKey T kt k with
    | false => rw [hp] at ho; cases ho
    | true =>
      rw [hp] at ho
      simp only [cond_true] at ho
      have hck := fun b w => checkKey_ok (φ := φ) hT hp hk b w
      split at ho
      · rename_i v
        obtain ⟨i, hi, rfl⟩ := hm
        cases hb : Nat.blt v 1000 with
        | true => rw [hb] at ho; cases ho
        | false =>
          rw [hb] at ho
          simp only [cond_false] at ho
          have h1000 := blt_false hb
          split at ho
          · rename_i es clock hg
            obtain ⟨j, hj, ms, q1, q2⟩ := h.heap v _ hg
            rw [hi] at hj; cases hj
            have hgo := run_getObj (P := T.P) q1 (fun _ _ _ e => by cases e)
            split at ho
            · rename_i ix x0 hf
              obtain ⟨vv, f1, f2, k0, b0, f3, f4⟩ := findKey_ok (φ := φ) hT hp hk q2 hf w
              obtain ⟨e, e1, e2, e3, e4⟩ := ER.get q2 ix f3
              cases ho
              have hbits := sameKey_bits f4 hk e2
              have hget : ms[ix]? = some e := by simpa using e1
              have hs := h.setObj h1000 hi hg (.map (setAt k x0 es ix) clock) (.map (ms.modify ix fun e => { e with key := kv }) clock)
                ⟨_, heap_set_same q1, by rw [Array.toList_modify]; exact ER.set q2 ix (fun e' h' => by rw [e1] at h'; cases h'; exact ⟨hk, e3, rfl⟩)⟩
              refine ⟨_, _, φ, .tuple ⟨[vv, .int .i64 e.born]⟩, _, rfl, Phi.le_refl φ, hs, ⟨_, ⟨_, _, f2, ⟨_, _, rfl, rfl, rfl⟩, rfl⟩, ?_⟩, ?_⟩
              · rw [bornAt_get es ix k0 x0 b0 f3, e4]; rfl
              · simp only [Instr.mapEntry, Sem.run_bind, run_underlying' hT hu w, Result.andThen_ok, hgo, hck, f1, Instr.keyThatStays, hget, Option.map_some, Option.getD_some, hbits, if_true, Sem.run_pure,
                  run_setObj q1 (fun _ _ _ e => by cases e)]
                rfl
            · rename_i hf
              have f1 := findKey_ok (φ := φ) hT hp hk q2 hf w
              obtain ⟨z, hz, ho⟩ := R.bind_ok ho
              obtain ⟨zv, z1, z2, _⟩ := zeroA_ok (φ := φ) hT hz w
              simp only [forceN_eq] at ho
              cases ho
              have hs := h.setObj h1000 hi hg (.map (es ++ [(k, z, clock)]) (clock + 1)) (.map (ms.push { key := kv, val := zv, born := clock }) (clock + 1))
                ⟨_, heap_set_same q1, by rw [Array.toList_push]; exact ER.append q2 ⟨_, [], hk, z2, rfl, rfl, rfl⟩⟩
              refine ⟨_, _, φ, .tuple ⟨[zv, .int .i64 clock]⟩, _, rfl, Phi.le_refl φ, hs, ⟨_, ⟨_, _, z2, ⟨_, _, rfl, rfl, rfl⟩, rfl⟩, rfl⟩, ?_⟩
              simp only at f1
              simp only [Instr.mapEntry, Sem.run_bind, run_underlying' hT hu w, Result.andThen_ok, hgo, hck, f1, z1, run_setObj q1 (fun _ _ _ e => by cases e), Sem.run_pure]
              rfl
            · cases ho
          · cases ho
      · cases ho
  · cases ho

theorem findBorn_ok (b : Nat) : ∀ (es : List (AV × AV × Nat)) (ms : List MapEntry) (i j : Nat) (k : AV), ER φ es ms → findBorn b es i = some (j, k) →
    ∃ n x, j = i + n ∧ es[n]? = some (k, x, b) ∧ ms.findIdx? (fun e => (e.born : Int) == (b : Int)) = some n
  | [], _, _, _, _, _, h => by simp [findBorn] at h
  | (k0, x0, b0) :: es, _, i, j, k, ⟨e, ms, h1, h2, h3, h4, h5⟩, h => by
    subst h5
    simp only [findBorn] at h
    cases hb : Nat.beq b b0 with
    | true =>
      rw [hb] at h
      simp only [cond_true] at h
      cases h
      have := beq_true hb
      subst this
      refine ⟨0, x0, by simp, by simp, ?_⟩
      rw [List.findIdx?_cons, h3]
      simp
    | false =>
      rw [hb] at h
      simp only [cond_false] at h
      have hne := beq_false hb
      obtain ⟨n, x, q1, q2, q3⟩ := findBorn_ok b es ms (i + 1) j k h4 h
      refine ⟨n + 1, x, by omega, by simpa using q2, ?_⟩
      rw [List.findIdx?_cons, h3]
      have : ((b0 : Int) == (b : Int)) = false := by simp; omega
      simp [this, q3]

theorem opEntryStore_ok (hT : TabOK T) (h : SR ng B W φ s w) (ty : TypeId) {m st x : AV} {mv sv xv : Value} (hm : VR φ m mv) (hst : VR φ st sv) (hx : VR φ x xv) : SkipOK T ng B W φ w (Instr.entryStore ty mv sv xv) (opEntryStore s m st x) := by
  unfold opEntryStore
  intro o ho
  split at ho
  · rename_i v k b
    obtain ⟨i, hi, rfl⟩ := hm
    cases hst
    cases hb : Nat.blt v 1000 with
    | true => rw [hb] at ho; cases ho
    | false =>
      rw [hb] at ho
      simp only [cond_false] at ho
      have h1000 := blt_false hb
      split at ho
      · rename_i es clock hg
        obtain ⟨j, hj, ms, q1, q2⟩ := h.heap v _ hg
        rw [hi] at hj; cases hj
        have hgo := run_getObj (P := T.P) q1 (fun _ _ _ e => by cases e)
        split at ho
        · rename_i ix k0 hf
          obtain ⟨n, x0, e1, e2, e3⟩ := findBorn_ok (φ := φ) b es ms.toList 0 ix k0 q2 hf
          have : ix = n := by omega
          subst this
          cases ho
          obtain ⟨e, g1, g2, g3, g4⟩ := ER.get q2 ix e2
          have hs := h.setObj h1000 hi hg (.map (setAt k0 x es ix) clock) (.map (ms.modify ix fun e => { e with val := xv }) clock)
            ⟨_, heap_set_same q1, by rw [Array.toList_modify]; exact ER.set q2 ix (fun e' h' => by rw [g1] at h'; cases h'; exact ⟨g2, hx, rfl⟩)⟩
          refine ⟨_, _, rfl, hs, ?_⟩
          have hfi : ms.findIdx? (fun e => (e.born : Int) == (b : Int)) = some ix := by
            obtain ⟨msl⟩ := ms
            simpa using e3
          simp only [Instr.entryStore, Sem.run_bind, hgo, Result.andThen_ok, asInt, asIntOf, Sem.run_pure, Int.ofNat_eq_natCast, hfi, run_setObj q1 (fun _ _ _ e => by cases e)]
        · cases ho
      · cases ho
  · cases ho
end
end Go.Ex
namespace Go.Ex
open Go Go.RowKit

section
variable {ng B : Nat} {W : World} {φ : Phi} {s : St} {w : World} {T : Tab}

theorem intOut_ok (h : SR ng B W φ s w) {m : Sem Value} {n : Nat} (hm : m.run T.P w = .ok (.int .i64 n) w) : ValOK T ng B W φ w m (intOut s n) := by
  intro o ho
  cases ho
  exact ⟨_, _, φ, _, w, rfl, Phi.le_refl φ, h, rfl, hm⟩

theorem opLen_ok (hT : TabOK T) (h : SR ng B W φ s w) {ats : Array TypeId} (ty : TypeId) {x : AV} {xv : Value} (hx : VR φ x xv) : ValOK T ng B W φ w (Builtin.len_ ats ty #[xv]) (opLen T s ats[0]? x) := by
  unfold opLen
  intro o ho
  have e0 : (#[xv] : Array Value)[0]? = some xv := rfl
  cases ha : ats[0]? with
  | none => rw [ha] at ho; cases ho
  | some t =>
    rw [ha] at ho
    simp only at ho
    split at ho
    · rename_i v hu
      obtain ⟨i, hi, rfl⟩ := hx
      unfold lenMap at ho
      split at ho
      · rename_i es clock hg
        obtain ⟨j, hj, ms, q1, q2⟩ := h.heap v _ hg
        rw [hi] at hj; cases hj
        have hgo := run_getObj (P := T.P) q1 (fun _ _ _ e => by cases e)
        have hl := ER.length q2
        refine intOut_ok h ?_ o ho
        simp only [Builtin.len_, ha, e0, Sem.run_bind, run_underlying' hT hu w, Result.andThen_ok, hgo, Sem.run_pure, goInt]
        rw [← hl]
        rfl
      · cases ho
    · rename_i hu
      cases hx
      refine intOut_ok h ?_ o ho
      simp only [Builtin.len_, ha, e0, Sem.run_bind, run_underlying' hT hu w, Result.andThen_ok, Sem.run_pure, goInt]
      rfl
    · rename_i hu
      obtain ⟨i, hi, rfl⟩ := hx
      refine intOut_ok h ?_ o ho
      simp only [Builtin.len_, ha, e0, Sem.run_bind, run_underlying' hT hu w, Result.andThen_ok, Sem.run_pure, goInt]
    · rename_i hu
      obtain ⟨i, c, hi, h1, h2, rfl⟩ := hx
      refine intOut_ok h ?_ o ho
      simp only [Builtin.len_, ha, e0, Sem.run_bind, run_underlying' hT hu w, Result.andThen_ok, Sem.run_pure, goInt]
    · rename_i hu
      cases hx
      refine intOut_ok h ?_ o ho
      simp only [Builtin.len_, ha, e0, Sem.run_bind, run_underlying' hT hu w, Result.andThen_ok, Sem.run_pure, goInt]
    · rename_i hu
      obtain ⟨a, c, rfl⟩ := hx
      refine intOut_ok h ?_ o ho
      simp only [Builtin.len_, ha, e0, Sem.run_bind, run_underlying' hT hu w, Result.andThen_ok, Sem.run_pure, goInt]
    · rename_i hu
      cases hx
      refine intOut_ok h ?_ o ho
      simp only [Builtin.len_, ha, e0, Sem.run_bind, run_underlying' hT hu w, Result.andThen_ok, Sem.run_pure, goInt]
    · rename_i hu
      refine intOut_ok h ?_ o ho
      simp only [Builtin.len_, ha, e0, Sem.run_bind, run_underlying' hT hu w, Result.andThen_ok, Sem.run_pure, goInt]
    · rename_i hu
      split at ho
      · rename_i hu2
        refine intOut_ok h ?_ o ho
        simp only [Builtin.len_, ha, e0, Sem.run_bind, run_underlying' hT hu w, run_underlying' hT hu2 w, Result.andThen_ok, Sem.run_pure, goInt]
      · cases ho
    · cases ho

theorem opCap_ok (hT : TabOK T) (h : SR ng B W φ s w) {ats : Array TypeId} (ty : TypeId) {x : AV} {xv : Value} (hx : VR φ x xv) : ValOK T ng B W φ w (Builtin.cap_ ats ty #[xv]) (opCap T s ats[0]? x) := by
  unfold opCap
  intro o ho
  have e0 : (#[xv] : Array Value)[0]? = some xv := rfl
  cases ha : ats[0]? with
  | none => rw [ha] at ho; cases ho
  | some t =>
    rw [ha] at ho
    simp only at ho
    split at ho
    · rename_i hu
      obtain ⟨i, hi, rfl⟩ := hx
      refine intOut_ok h ?_ o ho
      simp only [Builtin.cap_, ha, e0, Sem.run_bind, run_underlying' hT hu w, Result.andThen_ok, Sem.run_pure, goInt]
    · rename_i hu
      cases hx
      refine intOut_ok h ?_ o ho
      simp only [Builtin.cap_, ha, e0, Sem.run_bind, run_underlying' hT hu w, Result.andThen_ok, Sem.run_pure, goInt]
    · cases ho

theorem opSliceData_ok (h : SR ng B W φ s w) (ats : Array TypeId) (ty : TypeId) {x : AV} {xv : Value} (hx : VR φ x xv) : ValOK T ng B W φ w (Builtin.unsafeSliceData_ ats ty #[xv]) (opSliceData s x) := by
  unfold opSliceData
  intro o ho
  split at ho
  · rename_i v off _ c
    obtain ⟨i, hi, rfl⟩ := hx
    exact ValOK.same h (v := .ptr v off) (v' := .pointer (some (i.at off))) ⟨i, hi, rfl⟩ (Lib.run_unsafeSliceData_row _ _ _ _ _ _ (by omega)) o ho
  · rename_i v off n _
    obtain ⟨i, c, hi, h1, h2, rfl⟩ := hx
    exact ValOK.same h (v := .ptr v off) (v' := .pointer (some (i.at off))) ⟨i, hi, rfl⟩ (Lib.run_unsafeSliceData_row _ _ _ _ _ _ (by omega)) o ho
  · cases hx
    exact ValOK.same h (v := .nilptr) (v' := .pointer none) rfl rfl o ho
  · cases ho

theorem bytesOf_ok : ∀ {l : List AV} {b : List UInt8} {vs : List Value}, bytesOf l = .ok b → VRs φ l vs → ∃ ns : List Int, vs = ns.map (Value.int .u8) ∧ b = ns.map fun n => UInt8.ofNat n.toNat
  | [], b, vs, h, hv => by cases h; exact ⟨[], by rw [show vs = [] from hv]; rfl, rfl⟩
  | a :: l, b, vs, h, ⟨x, xs, hx, hxs, e⟩ => by
    cases a with
    | int k n =>
      cases k with
      | u8 =>
        simp only [bytesOf] at h
        obtain ⟨r, hr, h⟩ := R.bind_ok h
        cases h
        obtain ⟨ns, q1, q2⟩ := bytesOf_ok hr hxs
        cases hx
        exact ⟨n :: ns, by rw [e, q1]; rfl, by rw [q2]; rfl⟩
      | _ => cases h
    | _ => cases h

theorem foldl_push (f : Int → UInt8) : ∀ (ns : List Int) (r : ByteArray), ns.foldl (fun r n => r.push (f n)) r = ⟨⟨r.data.toList ++ ns.map f⟩⟩
  | [], r => by simp
  | n :: ns, r => by
    rw [List.foldl_cons, foldl_push f ns]
    simp [ByteArray.push]

theorem loadBytes_ok (P : Program) (w : World) (i : PI) : ∀ (ns : List Int) (off : Nat) (acc : ByteArray), (∀ j x, (ns.map (Value.int .u8))[j]? = some x → w.cell? (i.at (off + j)) = some x) →
    (loadBytes (i.at off) acc ns.length).run P w = .ok (⟨⟨acc.data.toList ++ ns.map fun n => UInt8.ofNat n.toNat⟩⟩ : ByteArray) w
  | [], off, acc, _ => by simp [loadBytes]
  | n :: ns, off, acc, h => by
    have h0 := h 0 (.int .u8 n) (by simp)
    simp only [Nat.add_zero] at h0
    have ih := loadBytes_ok P w i ns (off + 1) (acc.push n.toNat.toUInt8) (fun j x hx => by
      have := h (j + 1) x (by simpa using hx)
      rwa [show off + (j + 1) = off + 1 + j by omega] at this)
    simp only [List.length_cons, loadBytes, Sem.run_bind, run_load, h0, Result.andThen_ok, at_add, ih]
    congr 2
    simp [ByteArray.push]

theorem isByte_ok (hT : TabOK T) {t : TypeId} (h : isByte T t = true) : T.P.underlying t = some (.int .u8) ∧ ∃ i, T.P.info? t = some i ∧ i.size = 1 := by
  unfold isByte at h
  split at h
  · rename_i i hu hi
    exact ⟨hT.under _ _ hu, i, hT.info _ _ hi, beq_true h⟩
  · cases h

theorem liesAt_byte (P : Program) {e u : TypeId} (he : P.underlying e = some (.int .u8)) (hu : P.underlying u = some (.int .u8)) {i : TypeInfo} (hi : P.info? e = some i) (hs : i.size = 1) {count off n : Nat} (hfit : off + n ≤ count) :
    liesAt P P.depth e count off u n = true := by
  obtain ⟨d, hd⟩ : ∃ d, P.depth = d + 1 := ⟨2 * (P.types.size + Made.depth) + 1, rfl⟩
  have hc : P.cellsOf e = 1 := by simp [Program.cellsOf, hi, hs]
  rw [hd]
  have hrow : rowAt P (sameLayout P (d + 1) · u) (d + 1) e count off n = true := by
    simp only [rowAt, hc]
    rw [if_neg (by omega)]
    have hl : sameLayout P (d + 1) e u = true := by
      simp only [sameLayout, he, hu]
      simp
    simp [Nat.mod_one, hfit, hl]
  simp only [liesAt]
  rw [hd, hrow]
  rfl

theorem run_unsafeString_at (P : Program) (w w' : World) {ats : Array TypeId} {ty pt : TypeId} (ha : ats[0]? = some pt) (a : Option Addr) (k : IntKind) (n : Nat) (hn : n < 1000000) (str : ByteArray)
    (h0 : n = 0 → str = .empty ∧ w' = w)
    (h1 : n ≠ 0 → ∃ b u, a = some b ∧ P.underlying pt = some (.pointer u) ∧ (variablesAt b u n).run P w = .ok true w ∧ (loadBytes b .empty n).run P w = .ok str w ∧ w' = w.freeze b n) :
    (Builtin.unsafeString_ ats ty #[.pointer a, .int k n]).run P w = .ok (.string str) w' := by
  have hmax : IntKind.i64.max = 9223372036854775807 := rfl
  have c1 : ¬ ((n : Int) < 0) := by omega
  have c2 : ¬ ((n : Int) > 9223372036854775807) := by omega
  cases a with
  | none =>
    have hdef : Builtin.unsafeString_ ats ty #[.pointer none, .int k n] =
        (do
          let n ← asInt (.int k n)
          let some pt := ats[0]? | stuck "unsafe.String: no argument types"
          if n < 0 then runtimePanic (.error "unsafe.String: len out of range")
          if n > IntKind.i64.max then unsupported (.unsafePointer "String: a length above the largest int")
          if n = 0 then pure (.string .empty)
          else runtimePanic (.error "unsafe.String: ptr is nil and len is not zero")) := rfl
    rw [hdef]
    by_cases hz : n = 0
    · obtain ⟨rfl, rfl⟩ := h0 hz
      subst hz
      simp [asInt, asIntOf, hmax, ha]
    · obtain ⟨b, u, e, _⟩ := h1 hz
      cases e
  | some a =>
    have hdef : Builtin.unsafeString_ ats ty #[.pointer (some a), .int k n] =
        (do
          let n ← asInt (.int k n)
          let some pt := ats[0]? | stuck "unsafe.String: no argument types"
          if n < 0 then runtimePanic (.error "unsafe.String: len out of range")
          if n > IntKind.i64.max then unsupported (.unsafePointer "String: a length above the largest int")
          if n = 0 then pure (.string .empty)
          else if ← variablesAt a (← elemOf pt) n.toNat then do
            let s ← loadBytes a .empty n.toNat
            freeze a n.toNat
            pure (.string s)
          else unsupported (.unsafePointer "String: not so many bytes at ptr")) := rfl
    rw [hdef]
    by_cases hz : n = 0
    · obtain ⟨rfl, rfl⟩ := h0 hz
      subst hz
      simp [asInt, asIntOf, hmax, ha]
    · obtain ⟨b, u, e, hp, hv, hl, rfl⟩ := h1 hz
      cases e
      have c2' : ¬ ((9223372036854775807 : Int) < (n : Int)) := by omega
      have c3 : ((n : Int) < 0) = False := by simp
      simp only [asInt, asIntOf, Sem.run_bind, Sem.run_pure, Result.andThen_ok, ha, hmax]
      rw [if_neg c1, if_neg c2]
      simp [hz, elemOf, run_underlying hp, hv, hl]

theorem opString_ok (hT : TabOK T) (h : SR ng B W φ s w) {ats : Array TypeId} (ty : TypeId) {pt : TypeId} (ha : ats[0]? = some pt) {x n : AV} {xv nv : Value} (hx : VR φ x xv) (hn : VR φ n nv) :
    ValOK T ng B W φ w (Builtin.unsafeString_ ats ty #[xv, nv]) (opString T s pt x n) := by
  unfold opString
  intro o ho
  split at ho
  · cases hx
    cases hn
    refine ValOK.same h (v := .string ⟨⟨[]⟩⟩) (v' := .string ⟨⟨[]⟩⟩) rfl ?_ o ho
    exact run_unsafeString_at T.P w w ha none _ 0 (by omega) _ (fun _ => ⟨rfl, rfl⟩) (fun e => absurd rfl e)
  · rename_i v off k m
    obtain ⟨i, hi, rfl⟩ := hx
    cases hn
    cases m with
    | zero =>
      simp only at ho
      refine ValOK.same h (v := .string ⟨⟨[]⟩⟩) (v' := .string ⟨⟨[]⟩⟩) rfl ?_ o ho
      exact run_unsafeString_at T.P w w ha _ _ 0 (by omega) _ (fun _ => ⟨rfl, rfl⟩) (fun e => absurd rfl e)
    | succ m =>
      simp only at ho
      cases hb : (Nat.blt v 1000 || !Nat.blt m 100000) with
      | true => rw [hb] at ho; cases ho
      | false =>
        rw [hb] at ho
        simp only [cond_false] at ho
        simp only [Bool.or_eq_false_iff, Bool.not_eq_false'] at hb
        have h1000 := blt_false hb.1
        have hm := blt_true hb.2
        split at ho
        · rename_i l e x0 hg
          cases hc : (isByte T e && ptrByte T pt) with
          | false => rw [hc] at ho; cases ho
          | true =>
            rw [hc] at ho
            simp only [cond_true] at ho
            rw [Bool.and_eq_true] at hc
            obtain ⟨hc1, hc2⟩ := hc
            split at ho
            · rename_i cs ht
              obtain ⟨b, hb', ho⟩ := R.bind_ok ho
              cases ho
              have hld : ldCells s.heap v off (m + 1) = .ok cs := by
                unfold ldCells
                rw [hg]
                simp only [ht]
                rfl
              obtain ⟨j, vs, hj, hv, hlen, hcell⟩ := ldCells_ok h hld
              rw [hi] at hj; cases hj
              obtain ⟨ns, q1, q2⟩ := bytesOf_ok hb' hv
              subst q1 q2
              have hnl : ns.length = m + 1 := by simpa using hlen
              obtain ⟨j, hj, c, e', fr, p1, p2, p3, p4, p5, p6⟩ := h.heap v _ hg
              rw [hi] at hj; cases hj
              obtain ⟨u1, u2, u3, u4⟩ := isByte_ok hT hc1
              have hee := (p4 h1000).1
              subst hee
              unfold ptrByte at hc2
              split at hc2
              · rename_i u hpu
                obtain ⟨v1, v2, v3, v4⟩ := isByte_ok hT hc2
                have hfit : i.base + off + (m + 1) ≤ c.size := by
                  have := hcell m (.int .u8 (ns[m]'(by omega))) (by simp [List.getElem?_eq_getElem (show m < ns.length by omega)])
                  rw [PI.at, cell_block p1] at this
                  have := (Array.getElem?_eq_some_iff.1 this).1
                  omega
                have hcells : T.P.cellsOf e' = 1 := by simp [Program.cellsOf, u3, u4]
                have hlies := liesAt_byte T.P u1 v1 u3 u4 (count := c.size) hfit
                have hlb := loadBytes_ok T.P w i ns off .empty hcell
                rw [hnl] at hlb
                refine ⟨_, _, φ, .string ⟨⟨ns.map fun n => UInt8.ofNat n.toNat⟩⟩, w.freeze (i.at off) (m + 1), rfl, Phi.le_refl φ, ?_, rfl, ?_⟩
                · have hf := h.forget v
                  have hother : ∀ b, b ≠ i.block → (w.freeze (i.at off) (m + 1)).heap[b]? = w.heap[b]? := by
                    intro b hb
                    simp only [World.freeze, Nat.add_one_ne_zero, if_false, Array.getElem?_modify, PI.at]
                    rw [if_neg (fun e => hb e.symm)]
                  have hsz : (w.freeze (i.at off) (m + 1)).heap.size = w.heap.size := by simp [World.freeze]
                  refine ⟨?_, hf.inj, hf.own, hf.glob, hf.fresh, hf.low, ?_, ?_, hf.globals⟩
                  · intro u x e
                    obtain ⟨j, k1, k2⟩ := hf.heap u x e
                    refine ⟨j, k1, k2.mono (Phi.le_refl φ) (hother j.block ?_)⟩
                    intro eb
                    have hus : (s.heap.get u).isSome ∧ u ≠ v := by
                      have e' := e
                      rw [Tr.get_del] at e'
                      by_cases huv : u = v
                      · rw [if_pos huv] at e'; cases e'
                      · rw [if_neg huv] at e'; exact ⟨by rw [e']; rfl, huv⟩
                    by_cases hu1000 : 1000 ≤ u
                    · exact hus.2 (h.inj u v j i hu1000 h1000 hus.1 (by rw [hg]; rfl) k1 hi eb)
                    · have g1 := h.glob u j (by omega) k1
                      have g2 := h.own v i h1000 (by rw [hg]; rfl) hi
                      omega
                  · have g2 := h.own v i h1000 (by rw [hg]; rfl) hi
                    exact hf.below.trans ⟨by simp [World.freeze], by simp [World.freeze], by simp [World.freeze], by omega, fun k hk => hother k (by omega)⟩
                  · rw [hsz]; exact h.bsize
                · refine run_unsafeString_at T.P w _ ha _ _ (m + 1) (by omega) _ (fun e => by omega) (fun _ => ⟨i.at off, u, rfl, hT.under _ _ hpu, ?_, ?_, rfl⟩)
                  · have hsh : w.shape? (i.at off).block = some (e', c.size) := by simp [World.shape?, PI.at, p1]
                    simp only [variablesAt, Sem.run_bind, run_program, run_shape, Result.andThen_ok, hsh, hcells, Nat.div_one]
                    have : (i.at off).off = i.base + off := rfl
                    rw [this, hlies]
                    rfl
                  · simpa using hlb
              · cases hc2
            · cases ho
        · cases ho
  · cases ho
end
end Go.Ex
namespace Go.Ex
open Go Go.RowKit

section
variable {ng B : Nat} {W : World} {φ : Phi} {s : St} {w : World} {T : Tab}

theorem newCells_ok' (h : SR ng B W φ s w) {l : List AV} {c : Array Value} {e : TypeId} {fr : Nat × Nat} (hfr : ∀ k, k < c.size → ¬ (fr.1 ≤ k ∧ k < fr.2)) (hlen : l.length ≤ c.size) (hv : VRs φ l (c.toList.take l.length)) :
    φ.le (φ.put s.next ⟨w.heap.size, 0, c.size⟩) ∧
    SR ng B W (φ.put s.next ⟨w.heap.size, 0, c.size⟩) { heap := s.heap.put s.next (.cells l e false), next := s.next + 1 } (w.alloc (.cells c e fr)) := by
  have hle : φ.le (φ.put s.next ⟨w.heap.size, 0, c.size⟩) := Phi.le_put (h.fresh s.next (Nat.le_refl _))
  refine ⟨hle, h.alloc _ _ _ ⟨c, e, fr, heap_alloc_new w _, rfl, fun e => (by cases e), fun _ => ⟨rfl, hfr⟩, by simpa using hlen, ?_⟩⟩
  simpa using hv.mono hle

theorem freeze_alloc (w : World) (c : Array Value) (e : TypeId) (n : Nat) : (w.alloc (.cells c e)).freeze ⟨w.heap.size, n, none⟩ 1 = w.alloc (.cells c e (n, n + 1)) := by
  unfold World.freeze World.alloc
  simp only [Nat.one_ne_zero, if_false]
  congr 1
  apply Array.ext_getElem?
  intro i
  simp only [Array.getElem?_modify, Array.getElem?_push]
  by_cases h : i = w.heap.size
  · subst h; simp
  · rw [if_neg (fun e => h e.symm), if_neg h]
    by_cases h2 : i < w.heap.size
    · simp [h, h2]
    · simp [h]

/-- the cells of a string's bytes, with zeros up to a capacity -/
def sbCells (b : ByteArray) (cap : Nat) : Array Value := b.data.map (fun x : UInt8 => Value.int .u8 (x.toNat : Int)) ++ Array.replicate (cap - b.size) (.int .u8 0)

theorem run_stringToBytes (P : Program) (w : World) (e : TypeId) (b : ByteArray) : ∃ cap, b.size ≤ cap ∧
    (Conv.stringToBytes e b).run P w = .ok (.slice (some ⟨w.heap.size, 0, none⟩) b.size cap)
      (w.drew.alloc (.cells (sbCells b cap) e
        ((sbCells b cap).size, (sbCells b cap).size + 1))) := by
  refine ⟨grownCap w b.size 0 e, grownCap_ge w b.size 0 e, ?_⟩
  have hq : (Question.appendCap b.size 0 e).forced = false := rfl
  have hfz := freeze_alloc w.drew (sbCells b (grownCap w b.size 0 e)) e
    (sbCells b (grownCap w b.size 0 e)).size
  have hsh : (w.drew.alloc (.cells (sbCells b (grownCap w b.size 0 e)) e)).shape? w.heap.size =
      some (e, (sbCells b (grownCap w b.size 0 e)).size) := by
    have := heap_alloc_new w.drew (.cells (sbCells b (grownCap w b.size 0 e)) e)
    unfold World.shape?
    rw [show w.drew.heap.size = w.heap.size from rfl] at this
    rw [this]
  unfold Conv.stringToBytes markStringish
  simp only [Sem.run_bind, run_choose, hq, Bool.false_eq_true, if_false, Result.andThen_ok, run_newRow, run_shape]
  rw [show ({ w with drawn := w.drawn + 1 } : World) = w.drew from rfl]
  rw [show (Question.appendCap b.size 0 e).cut (w.tape w.drawn (.appendCap b.size 0 e)) = grownCap w b.size 0 e from rfl]
  rw [show w.drew.heap.size = w.heap.size from rfl] at *
  unfold sbCells at hsh hfz
  rw [hsh]
  simp only [run_freeze, Result.andThen_ok, Sem.run_pure]
  rw [hfz]
  rfl

theorem convTo_bytes (hT : TabOK T) (h : SR ng B W φ s w) (e : TypeId) (b : ByteArray) :
    ValOK T ng B W φ w (Conv.stringToBytes e b) (newCellsA s (byteAVs b.data.toList) e false fun v s => .ok (.val (.sliceU v 0 b.size 1) s)) := by
  rw [newCellsA_eq]
  intro o ho
  cases ho
  obtain ⟨cap, hc, hr⟩ := run_stringToBytes T.P w e b
  have hv := byteAVs_VRs φ b.data.toList
  have hl : (byteAVs b.data.toList).length = b.size := by
    rw [← VRs.length hv]; simp
  have hs : (sbCells b cap).size = cap := by
    simp [sbCells]
    have : b.data.size = b.size := rfl
    omega
  obtain ⟨q1, q2⟩ := newCells_ok' (e := e) h.drew (l := byteAVs b.data.toList) (c := sbCells b cap)
    (fr := ((sbCells b cap).size, (sbCells b cap).size + 1))
    (fun k hk => by simp only; omega) (by rw [hl, hs]; exact hc) (by
      unfold sbCells
      rw [hl, Array.toList_append, List.take_append_of_le_length (by simp), List.take_of_length_le (by simp)]
      simpa using hv)
  refine ⟨_, _, _, _, _, rfl, q1, q2, ⟨_, cap, Phi.put_same .., hc, ?_, rfl⟩, hr⟩
  simp only [hs]
  omega

theorem runesFrom_ok (φ : Phi) (b : ByteArray) : ∀ (n i : Nat) (acc : Array Value), ∃ R : List Value, Conv.runesFrom b n i acc = acc ++ R.toArray ∧ VRs φ (runesA b n i) R
  | 0, i, acc => ⟨[], by simp [Conv.runesFrom], rfl⟩
  | n + 1, i, acc => by
    simp only [Conv.runesFrom, runesA]
    cases hb : Nat.blt i b.size with
    | true =>
      have hlt := blt_true hb
      obtain ⟨R, q1, q2⟩ := runesFrom_ok φ b n (i + (Utf8.decode b i).2) (acc.push (.int .i32 (Int.ofNat (Utf8.decode b i).1)))
      rw [if_pos hlt]
      refine ⟨.int .i32 (Int.ofNat (Utf8.decode b i).1) :: R, ?_, ⟨_, R, rfl, q2, rfl⟩⟩
      rw [show Conv.runesFrom b n (i + (Utf8.decode b i).2) (acc.push (.int .i32 (Int.ofNat (Utf8.decode b i).1))) = _ from q1]
      apply Array.ext'
      simp
    | false =>
      have hge := blt_false hb
      rw [if_neg (by omega)]
      exact ⟨[], by simp, rfl⟩

theorem convTo_runes (hT : TabOK T) (h : SR ng B W φ s w) (e : TypeId) (b : ByteArray) :
    ValOK T ng B W φ w (Conv.stringToRunes e b) (forceAs (runesA b b.size 0) fun l => newCellsA s l e false fun v s => .ok (.val (.sliceU v 0 l.length 1) s)) := by
  rw [forceAs_eq, newCellsA_eq]
  intro o ho
  cases ho
  obtain ⟨R, r1, r2⟩ := runesFrom_ok φ b b.size 0 #[]
  have hl := VRs.length r2
  have r1' : Conv.runesFrom b b.size 0 #[] = R.toArray := by rw [r1]; simp
  have hq : (Question.appendCap R.toArray.size 0 e).forced = false := rfl
  have hc := grownCap_ge w R.toArray.size 0 e
  have hs : (R.toArray ++ Array.replicate (grownCap w R.toArray.size 0 e - R.toArray.size) (Value.int .i32 0)).size = grownCap w R.toArray.size 0 e := by
    simp at hc ⊢; omega
  obtain ⟨q1, q2⟩ := newCells_ok' (e := e) (fr := (0, 0)) h.drew (l := runesA b b.size 0) (c := R.toArray ++ Array.replicate (grownCap w R.toArray.size 0 e - R.toArray.size) (Value.int .i32 0))
    (fun k hk => by simp only; omega) (by rw [← hl, hs]; simpa using hc) (by
      rw [← hl, Array.toList_append, List.take_append_of_le_length (by simp), List.take_of_length_le (by simp)]
      exact r2)
  refine ⟨_, _, _, .slice (some ⟨w.heap.size, 0, none⟩) R.toArray.size (grownCap w R.toArray.size 0 e), _, rfl, q1, q2, ⟨_, grownCap w R.toArray.size 0 e, Phi.put_same .., by rw [← hl]; simpa using hc, ?_, ?_⟩, ?_⟩
  · simp only [hs]; omega
  · rw [← hl]; simp [PI.at]
  · unfold Conv.stringToRunes
    simp only [r1', Sem.run_bind, run_choose, hq, Bool.false_eq_true, if_false, Result.andThen_ok, run_newRow, Sem.run_pure]
    rfl

theorem runeBytes_ok : ∀ {l : List AV} {acc b : ByteArray} {vs : List Value}, runeBytes l acc = .ok b → VRs φ l vs → ∃ ns : List Int, vs = ns.map (Value.int .i32) ∧ b = ns.foldl (fun r n => r ++ Utf8.encode n) acc
  | [], acc, b, vs, h, hv => by cases h; exact ⟨[], by rw [show vs = [] from hv]; rfl, rfl⟩
  | a :: l, acc, b, vs, h, ⟨x, xs, hx, hxs, e⟩ => by
    cases a with
    | int k n =>
      cases k with
      | i32 =>
        simp only [runeBytes] at h
        obtain ⟨ns, q1, q2⟩ := runeBytes_ok h hxs
        cases hx
        exact ⟨n :: ns, by rw [e, q1]; rfl, by rw [q2]; rfl⟩
      | _ => cases h
    | _ => cases h

theorem convFrom_ok (hT : TabOK T) (h : SR ng B W φ s w) (src dst e : TypeId) (hs : T.under src = some (.slice e)) (hd : T.under dst = some .string) {a : AV} {av : Value} (ha : VR φ a av) :
    ValOK T ng B W φ w (convert src dst av) (convFrom T s e a) := by
  unfold convFrom
  intro o ho
  cases hst : isStr a with
  | true => rw [hst] at ho; cases ho
  | false =>
  rw [hst] at ho
  simp only [cond_false] at ho
  have slices : ∀ n, lenA a = .ok n → (av = .slice none 0 0 ∧ n = 0) ∨ ∃ ad c, av = .slice (some ad) n c := by
    intro n hn
    cases a with
    | slice b off le cap => obtain ⟨i, hi, rfl⟩ := ha; cases hn; exact .inr ⟨_, _, rfl⟩
    | sliceU b off le esz => obtain ⟨i, c, hi, h1, h2, rfl⟩ := ha; cases hn; exact .inr ⟨_, _, rfl⟩
    | nilslice => cases ha; cases hn; exact .inl ⟨rfl, rfl⟩
    | sliceE => obtain ⟨x, c, rfl⟩ := ha; cases hn; exact .inr ⟨_, _, rfl⟩
    | string b => cases hst
    | _ => cases hn
  split at ho
  · rename_i he
    obtain ⟨n, hn, ho⟩ := R.bind_ok ho
    obtain ⟨cs, hcs, ho⟩ := R.bind_ok ho
    obtain ⟨l, hl, ho⟩ := R.bind_ok ho
    obtain ⟨vs, hv, hf⟩ := firstCellsA_ok h hcs hn (Nat.le_refl _) ha
    obtain ⟨ns, q1, q2⟩ := bytesOf_ok hl hv
    subst q1 q2
    have hf0 := (hf T.P w.drawn).1
    rcases slices n hn with ⟨rfl, rfl⟩ | ⟨ad, c, rfl⟩
    · have : ns = [] := by
        have := (hf T.P 0).2
        cases a <;> simpa using this
      subst this
      refine ValOK.same h (v := .string ⟨⟨[]⟩⟩) (v' := .string ⟨⟨[]⟩⟩) rfl ?_ o ho
      simp [convert, run_underlying (hT.under _ _ hs), run_underlying (hT.under _ _ hd), run_underlying (hT.under _ _ he), Conv.bytesToString]
      rfl
    · refine ValOK.same h (v := .string ⟨⟨ns.map fun n : Int => UInt8.ofNat n.toNat⟩⟩) (v' := .string ⟨⟨ns.map fun n : Int => UInt8.ofNat n.toNat⟩⟩) rfl ?_ o ho
      have hb := run_bytesToString (P := T.P) w ad n c ns (by simpa [Builtin.firstCells] using hf0)
      rw [foldl_push] at hb
      simp only [convert, Sem.run_bind, run_underlying (hT.under _ _ hs), run_underlying (hT.under _ _ hd), run_underlying (hT.under _ _ he), Result.andThen_ok, hb]
      simp
  · rename_i he
    obtain ⟨n, hn, ho⟩ := R.bind_ok ho
    obtain ⟨cs, hcs, ho⟩ := R.bind_ok ho
    obtain ⟨l, hl, ho⟩ := R.bind_ok ho
    obtain ⟨vs, hv, hf⟩ := firstCellsA_ok h hcs hn (Nat.le_refl _) ha
    obtain ⟨ns, q1, q2⟩ := runeBytes_ok hl hv
    subst q1 q2
    have hf0 := (hf T.P w.drawn).1
    rcases slices n hn with ⟨rfl, rfl⟩ | ⟨ad, c, rfl⟩
    · have : ns = [] := by
        have := (hf T.P 0).2
        cases a <;> simpa using this
      subst this
      refine ValOK.same h (v := .string .empty) (v' := .string .empty) rfl ?_ o ho
      simp [convert, run_underlying (hT.under _ _ hs), run_underlying (hT.under _ _ hd), run_underlying (hT.under _ _ he), Conv.runesToString]
    · refine ValOK.same h (v := .string (ns.foldl (fun r n => r ++ Utf8.encode n) .empty)) (v' := .string (ns.foldl (fun r n => r ++ Utf8.encode n) .empty)) rfl ?_ o ho
      have hb := run_runesToString (P := T.P) w ad n c ns (by simpa [Builtin.firstCells] using hf0)
      simp only [convert, Sem.run_bind, run_underlying (hT.under _ _ hs), run_underlying (hT.under _ _ hd), run_underlying (hT.under _ _ he), Result.andThen_ok, hb]
      rfl
  · cases ho
end
end Go.Ex
namespace Go.Ex
open Go Go.RowKit

section
variable {ng B : Nat} {W : World} {φ : Phi} {s : St} {w : World} {T : Tab}

theorem seenAt_cells (P : Program) (w : World) (a : Addr) {c : Array Value} {e : TypeId} {fr : Nat × Nat} (h : w.heap[a.block]? = some (.cells c e fr)) : (Conv.seenAt a).run P w = .ok a w := by
  have hsh : w.shape? a.block = some (e, c.size) := by simp [World.shape?, h]
  simp [Conv.seenAt, viewAt, hsh]

theorem convUns_ok (hT : TabOK T) (h : SR ng B W φ s w) (src dst el : TypeId) (hs : T.under src = some (.pointer el)) (hd : T.under dst = some .unsafePointer) {v off : Nat} {av : Value} (ha : VR φ (.ptr v off) av) :
    ValOK T ng B W φ w (convert src dst av) (convUns T s el v off) := by
  unfold convUns
  intro o ho
  split at ho
  · rename_i l e hg
    obtain ⟨n, hn, ho⟩ := R.bind_ok ho
    cases hb : (Nat.blt off l.length && !Nat.beq n 0) with
    | false => rw [hb] at ho; cases ho
    | true =>
      rw [hb] at ho
      simp only [cond_true] at ho
      simp only [Bool.and_eq_true, Bool.not_eq_true'] at hb
      have hlt := blt_true hb.1
      have hne := beq_false hb.2
      obtain ⟨i, hi, rfl⟩ := ha
      obtain ⟨j, hj, c, e', fr, p1, p2, p3, p4, p5, p6⟩ := h.heap v _ hg
      rw [hi] at hj; cases hj
      have hb0 := (p3 rfl).1
      refine ValOK.same h (v := .ptr v off) (v' := .pointer (some (i.at off))) ⟨i, hi, rfl⟩ ?_ o ho
      have hsh : w.shape? i.block = some (e', c.size) := by simp [World.shape?, p1]
      have hseen := seenAt_cells T.P w (i.at off) p1
      have hcells : (cellsIn (i.at off).block).run T.P w = .ok (some c.size) w := by
        have : w.shape? (i.at off).block = some (e', c.size) := hsh
        simp [cellsIn, this]
      have hlt' : ¬ ((i.at off).off ≥ c.size ∧ (i.at off).spot.isNone = true) := by
        intro hc
        have : (i.at off).off = i.base + off := rfl
        omega
      simp only [convert, Sem.run_bind, run_underlying (hT.under _ _ hs), run_underlying (hT.under _ _ hd), Result.andThen_ok, Conv.unsafePointer, hseen, hcells, sizeA_ok hT hn w]
      rw [if_neg]
      · rfl
      · simp only [Bool.or_eq_true, decide_eq_true_eq, Bool.and_eq_true]
        intro hc
        rcases hc with hc | hc
        · exact hne hc
        · exact hlt' hc
  · cases ho

theorem convBack_ok (hT : TabOK T) (h : SR ng B W φ s w) (src dst el : TypeId) (hs : T.under src = some .unsafePointer) (hd : T.under dst = some (.pointer el)) {v off : Nat} {av : Value} (ha : VR φ (.ptr v off) av) :
    ValOK T ng B W φ w (convert src dst av) (convBack T s el v off) := by
  unfold convBack
  intro o ho
  split at ho
  · rename_i l e hg
    cases hb : (!Nat.blt v 1000 && liesAt T.P T.P.depth e (l.length / T.P.cellsOf e) off el 1) with
    | false => rw [hb] at ho; cases ho
    | true =>
      rw [hb] at ho
      simp only [cond_true] at ho
      obtain ⟨n, hn, ho⟩ := R.bind_ok ho
      simp only [Bool.and_eq_true, Bool.not_eq_true'] at hb
      have h1000 := blt_false hb.1
      obtain ⟨i, hi, rfl⟩ := ha
      obtain ⟨j, hj, c, e', fr, p1, p2, p3, p4, p5, p6⟩ := h.heap v _ hg
      rw [hi] at hj; cases hj
      obtain ⟨hb0, hcl⟩ := p3 rfl
      have he := (p4 h1000).1
      subst he
      refine ValOK.same h (v := .ptr v off) (v' := .pointer (some (i.at off))) ⟨i, hi, rfl⟩ ?_ o ho
      have hsh : w.shape? (i.at off).block = some (e', c.size) := by
        have : w.shape? i.block = some (e', c.size) := by simp [World.shape?, p1]
        exact this
      have hseen := seenAt_cells T.P w (i.at off) p1
      have hvar : (variablesAt (i.at off) el 1).run T.P w = .ok true w := by
        simp only [variablesAt, Sem.run_bind, run_program, run_shape, Result.andThen_ok, hsh]
        have : (i.at off).off = off := by show i.base + off = off; omega
        rw [this, hcl, hb.2]
        rfl
      simp only [convert, Sem.run_bind, run_underlying (hT.under _ _ hs), run_underlying (hT.under _ _ hd), Result.andThen_ok, Conv.unsafePointer, hseen, sizeA_ok hT hn w, hvar]
      rw [if_pos (by simp)]
      rfl
  · cases ho

theorem convA_ok (hT : TabOK T) (h : SR ng B W φ s w) (src dst : TypeId) {a : AV} {av : Value} (ha : VR φ a av) : ValOK T ng B W φ w (convert src dst av) (convA T s src dst a) := by
  unfold convA
  split
  · rename_i k n
    cases ha
    exact pureV_ok h _
  · rename_i k n
    cases ha
    exact pureV_ok h _
  · split
    · rename_i e b hs hd _ _
      cases ha
      unfold convTo
      split
      · rename_i he
        have := convTo_bytes hT h e b
        intro o ho
        obtain ⟨v, s', φ', v', w', q1, q2, q3, q4, q5⟩ := this o ho
        refine ⟨v, s', φ', v', w', q1, q2, q3, q4, ?_⟩
        simp only [convert, Sem.run_bind, run_underlying (hT.under _ _ hs), run_underlying (hT.under _ _ hd), run_underlying (hT.under _ _ he), Result.andThen_ok]
        exact q5
      · rename_i he
        have := convTo_runes hT h e b
        intro o ho
        obtain ⟨v, s', φ', v', w', q1, q2, q3, q4, q5⟩ := this o ho
        refine ⟨v, s', φ', v', w', q1, q2, q3, q4, ?_⟩
        simp only [convert, Sem.run_bind, run_underlying (hT.under _ _ hs), run_underlying (hT.under _ _ hd), run_underlying (hT.under _ _ he), Result.andThen_ok]
        exact q5
      · exact ValOK.err _ _
    · rename_i e hs hd _ _
      exact convFrom_ok hT h src dst e hs hd ha
    · rename_i el v off hs hd _ _
      exact convUns_ok hT h src dst el hs hd ha
    · rename_i el v off hs hd _ _
      exact convBack_ok hT h src dst el hs hd ha
    · split
      · rename_i v hv
        have := toV_eq _ hv ha
        subst this
        exact pureV_ok h _
      · exact ValOK.err _ _

/-! ### operands -/
/-- the model's operands against the executor's frame -/
def EvR (T : Tab) (φ : Phi) (t : Tm) (ρ : Operand → Value) : Prop := ∀ x a, evA T t x = .ok a → VR φ a (ρ x)

theorem evAs_ok {t : Tm} {ρ : Operand → Value} (h : EvR T φ t ρ) : ∀ {xs : List Operand} {l : List AV}, evAs T t xs = .ok l → VRs φ l (xs.map ρ)
  | [], l, e => by cases e; rfl
  | x :: xs, l, e => by
    simp only [evAs] at e
    obtain ⟨a, ha, e⟩ := R.bind_ok e
    obtain ⟨l', hl, e⟩ := R.bind_ok e
    cases e
    exact ⟨_, _, h x a ha, evAs_ok h hl, rfl⟩
theorem evParts_ok {t : Tm} {ρ : Operand → Value} (h : EvR T φ t ρ) : ∀ {xs : List (Nat × Operand)} {l : List (Nat × AV)}, evParts T t xs = .ok l → PR φ l (xs.map fun p => (p.1, ρ p.2))
  | [], l, e => by cases e; rfl
  | (i, x) :: xs, l, e => by
    simp only [evParts] at e
    obtain ⟨a, ha, e⟩ := R.bind_ok e
    obtain ⟨l', hl, e⟩ := R.bind_ok e
    cases e
    exact ⟨_, _, h x a ha, evParts_ok h hl, rfl⟩
theorem evOpt_ok {t : Tm} {ρ : Operand → Value} (h : EvR T φ t ρ) {x : Option Operand} {r : Option AV} (e : evOpt T t x = .ok r) : OptR φ r (x.map ρ) := by
  cases x with
  | none => cases e; exact .inl ⟨rfl, rfl⟩
  | some x =>
    simp only [evOpt] at e
    obtain ⟨a, ha, e⟩ := R.bind_ok e
    cases e
    exact .inr ⟨a, ρ x, rfl, rfl, h x a ha⟩
theorem evV_ok {t : Tm} {ρ : Operand → Value} (h : EvR T φ t ρ) {x : Operand} {v : Value} (e : evV T t x = .ok v) : ρ x = v := by
  unfold evV at e
  obtain ⟨a, ha, e⟩ := R.bind_ok e
  exact toV_eq a (opt_ok e) (h x a ha)
theorem evVs_ok {t : Tm} {ρ : Operand → Value} (h : EvR T φ t ρ) {xs : List Operand} {vs : List Value} (e : evVs T t xs = .ok vs) : xs.map ρ = vs := by
  unfold evVs at e
  obtain ⟨a, ha, e⟩ := R.bind_ok e
  exact toVs_eq a (opt_ok e) (evAs_ok h ha)

/-! ### calls -/
/-- what an operation comes to, in the model's own words -/
def NextOK (T : Tab) (ng B : Nat) (W : World) (φ : Phi) (s0 : St) (w : World) (m : Sem Next) : Out → Prop
  | .val v s' => ∃ φ' v' w', φ.le φ' ∧ SR ng B W φ' s' w' ∧ VR φ' v v' ∧ m.run T.P w = .ok (.value v') w'
  | .skip s' => ∃ w', SR ng B W φ s' w' ∧ m.run T.P w = .ok .skip w'
  | .enter f args s' => s' = s0 ∧ (∃ fn, T.func f = some fn ∧ fn.body.isSome) ∧ ∃ vs, VRs φ args vs ∧ m.run T.P w = .ok (.enter f ⟨vs⟩) w
  | .round l args => ∃ i, φ l = some i ∧ ∃ vs, VRs φ args vs ∧ m.run T.P w = (Instr.yield i.block ⟨vs⟩).run T.P w
  | .defer f args => ∃ g x y xv yv vs, f = .func g x y ∧ VRs φ x xv ∧ VRs φ y yv ∧ VRs φ args vs ∧ m.run T.P w = .ok (.defer { target := .fn (.func g) ⟨yv⟩, args := (⟨xv⟩ : Array Value) ++ ⟨vs⟩ }) w
  | .panic v => ∃ v', VR φ v v' ∧ m.run T.P w = .halt (.panic v') w
  | .recover => m.run T.P w = .ok .recover w
end
end Go.Ex
namespace Go.Ex
open Go Go.RowKit

section
variable {ng B : Nat} {W : World} {φ : Phi} {s : St} {w : World} {T : Tab}

theorem NextOK.of_val {m : Sem Value} {r : R Out} (h : ValOK T ng B W φ w m r) {o : Out} (ho : r = .ok o) {n : Sem Next} (hn : ∀ v w', m.run T.P w = .ok v w' → n.run T.P w = .ok (.value v) w') : NextOK T ng B W φ s w n o := by
  obtain ⟨v, s', φ', v', w', rfl, q2, q3, q4, q5⟩ := h o ho
  exact ⟨φ', v', w', q2, q3, q4, hn _ _ q5⟩
theorem NextOK.of_skip {m : Sem Unit} {r : R Out} (h : SkipOK T ng B W φ w m r) {o : Out} (ho : r = .ok o) {n : Sem Next} (hn : ∀ w', m.run T.P w = .ok () w' → n.run T.P w = .ok .skip w') : NextOK T ng B W φ s w n o := by
  obtain ⟨s', w', rfl, q2, q3⟩ := h o ho
  exact ⟨w', q2, hn _ q3⟩

theorem run_callFunc_enter (hT : TabOK T) {f : FuncId} {fn : Func} (hf : T.func f = some fn) (hb : fn.body.isSome) (args : Array Value) (w : World) : (callFunc f args).run T.P w = .ok (.enter f args) w := by
  obtain ⟨h1, h2⟩ := hT.func f fn hf
  unfold callFunc
  simp only [Sem.run_bind, run_program, Result.andThen_ok, h1, h2, Bool.false_eq_true, if_false]
  have : fn.body.isNone = false := by cases hbb : fn.body <;> simp_all
  rw [this]
  rfl

theorem makeNoZero_ok (hT : TabOK T) (h : SR ng B W φ s w) (ps rs : Array TypeId) {t e : TypeId} (hr : rs[0]? = some t) (hu : T.under t = some (.slice e)) (n : Nat) (hn : n < 100000) :
    ValOK T ng B W φ w (Extern.BytealgMakeNoZero.makeNoZero ps rs #[.int .i64 n]) (newCellsA s [] e false fun v s => .ok (.val (.sliceU v 0 n 1) s)) := by
  rw [newCellsA_eq]
  intro o ho
  cases ho
  have digits_size : ∀ (k t : Nat) (acc : Array Value), (Extern.BytealgMakeNoZero.digits k t acc).size = acc.size + k := by
    intro k
    induction k with
    | zero => intro t acc; rfl
    | succ k ih => intro t acc; simp only [Extern.BytealgMakeNoZero.digits]; rw [ih]; simp; omega
  have hq : (Question.appendCap n 0 e).forced = false := rfl
  have hq2 : (Question.extern "internal/bytealg.MakeNoZero.bytes" 0).forced = false := rfl
  have hc := grownCap_ge w n 0 e
  have hbytes : ∀ t, (Extern.BytealgMakeNoZero.digits (grownCap w n 0 e) t #[]).size = grownCap w n 0 e := by intro t; rw [digits_size]; simp
  obtain ⟨q1, q2⟩ := newCells_ok' (e := e) (fr := (0, 0)) h.drew.drew (l := []) (c := Extern.BytealgMakeNoZero.digits (grownCap w n 0 e) ((Question.extern "internal/bytealg.MakeNoZero.bytes" 0).cut (w.tape (w.drawn + 1) (Question.extern "internal/bytealg.MakeNoZero.bytes" 0))) #[])
    (fun k hk => by simp only; omega) (Nat.zero_le _) rfl
  refine ⟨_, _, _, .slice (some ⟨w.heap.size, 0, none⟩) n (grownCap w n 0 e), _, rfl, q1, q2, ⟨_, grownCap w n 0 e, Phi.put_same .., hc, ?_, rfl⟩, ?_⟩
  · simp only [hbytes]; omega
  · have hdef : Extern.BytealgMakeNoZero.makeNoZero ps rs #[.int .i64 n] = (do
        let some t := rs[0]? | stuck "bytealg.MakeNoZero: no result type"
        let .slice elem ← underlying t | stuck "bytealg.MakeNoZero: slice type expected"
        if (n : Int) < 0 || (n : Int) > 2 ^ 48 then runtimePanic (.error "makeslice: len out of range")
        let cap ← choose (.appendCap (n : Int).toNat 0 elem)
        askRoom cap
        let bytes ← choose (.extern "internal/bytealg.MakeNoZero.bytes" 0)
        let a ← newRow elem (Extern.BytealgMakeNoZero.digits cap bytes #[])
        pure (.slice (some a) (n : Int).toNat cap)) := rfl
    rw [hdef]
    have hcond : (decide ((n : Int) < 0) || decide ((n : Int) > 2 ^ 48)) = false := by
      simp
      omega
    simp only [hr, Sem.run_bind, run_underlying' hT hu w, Result.andThen_ok]
    rw [if_neg (by rw [hcond]; simp)]
    simp only [Sem.run_bind, Sem.run_pure, Result.andThen_ok, Int.toNat_natCast, run_choose, hq, hq2, Bool.false_eq_true, if_false, run_askRoom, run_newRow]
    rfl

theorem externA_ok (hT : TabOK T) (h : SR ng B W φ s w) {f : FuncId} {fn : Func} (hf : T.func f = some fn) {args : List AV} {vs : List Value} (hv : VRs φ args vs) :
    ∀ o, externA T s f fn args = .ok o → NextOK T ng B W φ s w (callFunc f ⟨vs⟩) o := by
  intro o ho
  unfold externA at ho
  split at ho
  · rename_i g hg
    split at ho
    · rename_i ws hws
      have := toVs_eq args hws hv
      subst this
      unfold pureV at ho
      cases hp : psem T.P (g ⟨vs⟩) with
      | none => rw [hp] at ho; cases ho
      | some x =>
        rw [hp] at ho
        cases hx : ofV x with
        | none => simp only [hx] at ho; cases ho
        | some y =>
          simp only [hx] at ho
          cases ho
          exact ⟨φ, x, w, Phi.le_refl φ, h, ofV_VR φ x hx, hT.ext f g hg ⟨vs⟩ w x (psem_ok T.P _ hp w)⟩
    · cases ho
  · rename_i hg
    split at ho
    · rename_i n e hn
      obtain ⟨x, xs, hx, hxs, rfl⟩ := hv
      cases hx
      have : xs = [] := hxs
      subst this
      cases hb : Nat.blt n 100000 with
      | false => rw [hb] at ho; cases ho
      | true =>
        rw [hb] at ho
        simp only [cond_true] at ho
        cases hr0 : fn.resultTypes[0]? with
        | none => rw [hr0] at hn; cases hn
        | some t =>
          rw [hr0] at hn
          refine NextOK.of_val (makeNoZero_ok (T := T) hT h fn.params fn.resultTypes hr0 hn n (blt_true hb)) ho (fun v w' hr => ?_)
          rw [hT.noZero f fn hg hf]
          simp only [Sem.run_bind]
          have : (⟨[Value.int .i64 (Int.ofNat n)]⟩ : Array Value) = #[.int .i64 (n : Int)] := rfl
          rw [this, hr]
          rfl
    · cases ho
  · rename_i hg
    split at ho
    · rename_i x
      obtain ⟨y, ys, hy, hys, rfl⟩ := hv
      have : ys = [] := hys
      subst this
      cases ho
      exact ⟨φ, y, w, Phi.le_refl φ, h, hy, hT.same f hg y w⟩
    · cases ho
  · cases ho

theorem callA_ok (hT : TabOK T) (h : SR ng B W φ s w) {f : FuncId} {args : List AV} {vs : List Value} (hv : VRs φ args vs) : ∀ o, callA T s f args = .ok o → NextOK T ng B W φ s w (callFunc f ⟨vs⟩) o := by
  intro o ho
  unfold callA at ho
  cases hf : T.func f with
  | none => rw [hf] at ho; cases ho
  | some fn =>
    rw [hf] at ho
    simp only at ho
    split at ho
    · rename_i c hc
      cases ho
      have hb : fn.body.isSome := by rw [hc]; rfl
      exact ⟨rfl, ⟨fn, hf, hb⟩, vs, hv, run_callFunc_enter hT hf hb _ w⟩
    · exact externA_ok hT h hf hv o ho

theorem callV_ok (hT : TabOK T) (h : SR ng B W φ s w) {f : AV} {fv : Value} (hf : VR φ f fv) {args : List AV} {vs : List Value} (hv : VRs φ args vs) :
    ∀ o, callV T s f args = .ok o → NextOK T ng B W φ s w (do let d ← Deferred.ofValue fv ⟨vs⟩; invoke d.target d.args) o := by
  intro o ho
  cases f with
  | func g a b =>
    obtain ⟨xs, ys, h1, h2, rfl⟩ := hf
    simp only [callV] at ho
    have := callA_ok hT h ((h1.append hv).append h2) o ho
    have e : (do let d ← Deferred.ofValue (.func (.func g) ⟨xs⟩ ⟨ys⟩) ⟨vs⟩; invoke d.target d.args : Sem Next) = callFunc g ⟨xs ++ vs ++ ys⟩ := by
      show invoke (.fn (.func g) ⟨ys⟩) ((⟨xs⟩ : Array Value) ++ ⟨vs⟩) = _
      simp only [invoke]
      congr 1
      apply Array.ext'
      simp
    rw [e]
    exact this
  | yieldF l =>
    obtain ⟨i, hi, rfl⟩ := hf
    simp only [callV] at ho
    cases ho
    refine ⟨i, hi, vs, hv, ?_⟩
    have e : (do let d ← Deferred.ofValue (.func (.yield i.block) ⟨[]⟩ ⟨[]⟩) ⟨vs⟩; invoke d.target d.args : Sem Next) = Instr.yield i.block ⟨vs⟩ := by
      show invoke (.fn (.yield i.block) ⟨[]⟩) ((⟨[]⟩ : Array Value) ++ ⟨vs⟩) = _
      simp only [invoke]
      congr 1
      apply Array.ext'
      simp
    rw [e]
  | _ => cases ho

theorem opDefer_ok {t : Tm} {ρ : Operand → Value} (he : EvR T φ t ρ) (c : Call) (ty : TypeId) : ∀ o, opDefer T t c = .ok o → NextOK T ng B W φ s w (do pure (.defer (← resolve ρ c ty))) o := by
  intro o ho
  unfold opDefer at ho
  split at ho
  · rename_i f hf
    obtain ⟨fa, h1, ho⟩ := R.bind_ok ho
    obtain ⟨args, h2, ho⟩ := R.bind_ok ho
    split at ho
    · rename_i g x y _
      cases ho
      obtain ⟨xs, ys, q1, q2, q3⟩ := he f _ h1
      have hv := evAs_ok he h2
      refine ⟨g, x, y, xs, ys, c.args.toList.map ρ, rfl, q1, q2, hv, ?_⟩
      simp only [resolve, hf, q3, Deferred.ofValue, Sem.run_bind, Sem.run_pure, Result.andThen_ok]
      congr 4
      apply Array.ext'
      simp
    · cases ho
  · cases ho

theorem opPanic_ok {x : AV} {v : Value} (hx : VR φ x v) : ∀ o, opPanic x = .ok o → NextOK T ng B W φ s w (do pure (.value (← Instr.panic v))) o := by
  intro o ho
  unfold opPanic at ho
  split at ho
  · obtain ⟨y, hy, rfl⟩ := hx
    cases ho
    exact ⟨_, ⟨y, hy, rfl⟩, by simp [Instr.panic]⟩
  · cases ho
end
end Go.Ex
namespace Go.Ex
open Go Go.RowKit

section
variable {ng B : Nat} {W : World} {φ : Phi} {s : St} {w : World} {T : Tab}

theorem PR.map {ρ : Operand → Value} {ps : Array (Nat × Operand)} {l : List (Nat × AV)} (h : PR φ l (ps.toList.map fun p => (p.1, ρ p.2))) : PR φ l (ps.map fun (i, x) => (i, ρ x)).toList := by
  rw [Array.toList_map]
  exact h

theorem callB_ok (hT : TabOK T) (h : SR ng B W φ s w) {t : Tm} {ρ : Operand → Value} (he : EvR T φ t ρ) (b : Builtin) (c : Call) (hc : c.callee = .builtin b) (ty : TypeId) :
    ∀ o, callB T s t b c.args.toList c.argTypes ty = .ok o → NextOK T ng B W φ s w (do let d ← resolve ρ c ty; invoke d.target d.args) o := by
  intro o ho
  have hargs : ∀ l, c.args.toList = l → c.args.map ρ = (l.map ρ).toArray := by
    intro l hl
    apply Array.ext'
    simp [hl]
  have red : ∀ (n : Sem Next), builtin b c.argTypes ty (c.args.map fun | .const _ => true | _ => false) (c.args.map ρ) = n →
      (do let d ← resolve ρ c ty; invoke d.target d.args : Sem Next) = n := by
    intro n hn
    simp only [resolve, hc]
    exact hn
  unfold callB at ho
  split at ho
  · rename_i x hl
    obtain ⟨xa, h1, ho⟩ := R.bind_ok ho
    refine NextOK.of_val (opLen_ok hT h ty (he x _ h1)) ho (fun v w' hr => ?_)
    rw [red _ rfl, hargs _ hl]
    show (do pure (.value (← Builtin.len_ c.argTypes ty #[ρ x])) : Sem Next).run T.P w = _
    simp only [Sem.run_bind, hr, Result.andThen_ok, Sem.run_pure]
  · rename_i x hl
    obtain ⟨xa, h1, ho⟩ := R.bind_ok ho
    refine NextOK.of_val (opCap_ok hT h ty (he x _ h1)) ho (fun v w' hr => ?_)
    rw [red _ rfl, hargs _ hl]
    show (do pure (.value (← Builtin.cap_ c.argTypes ty #[ρ x])) : Sem Next).run T.P w = _
    simp only [Sem.run_bind, hr, Result.andThen_ok, Sem.run_pure]
  · rename_i x y hl
    obtain ⟨xa, h1, ho⟩ := R.bind_ok ho
    obtain ⟨ya, h2, ho⟩ := R.bind_ok ho
    unfold opAppend at ho
    split at ho
    · rename_i t1 t2 e1 e2
      split at ho
      · cases ho
      · cases ho
      · rename_i d2 hni hd2
        refine NextOK.of_val (appendA_ok (ty := ty) hT h hd2 (fun k e => hni k (by rw [e])) e1 e2 (he x _ h1) (he y _ h2)) ho (fun v w' hr => ?_)
        rw [red _ rfl, hargs _ hl]
        show (do pure (.value (← Builtin.append_ c.argTypes ty #[ρ x, ρ y])) : Sem Next).run T.P w = _
        simp only [Sem.run_bind, hr, Result.andThen_ok, Sem.run_pure]
    · cases ho
  · rename_i x y hl
    obtain ⟨xa, h1, ho⟩ := R.bind_ok ho
    obtain ⟨ya, h2, ho⟩ := R.bind_ok ho
    split at ho
    · rename_i t1 e1
      refine NextOK.of_val (copyA_ok (ty := ty) hT h e1 (he x _ h1) (he y _ h2)) ho (fun v w' hr => ?_)
      rw [red _ rfl, hargs _ hl]
      show (do pure (.value (← Builtin.copy_ c.argTypes ty #[ρ x, ρ y])) : Sem Next).run T.P w = _
      simp only [Sem.run_bind, hr, Result.andThen_ok, Sem.run_pure]
    · cases ho
  · obtain ⟨vs, h1, ho⟩ := R.bind_ok ho
    have hv := evVs_ok he h1
    refine NextOK.of_val (pureV_ok h _) ho (fun v w' hr => ?_)
    rw [red _ rfl, hargs _ rfl, hv]
    show (do pure (.value (← Builtin.max_ c.argTypes ty ⟨vs⟩)) : Sem Next).run T.P w = _
    simp only [Sem.run_bind, hr, Result.andThen_ok, Sem.run_pure]
  · obtain ⟨vs, h1, ho⟩ := R.bind_ok ho
    have hv := evVs_ok he h1
    refine NextOK.of_val (pureV_ok h _) ho (fun v w' hr => ?_)
    rw [red _ rfl, hargs _ rfl, hv]
    show (do pure (.value (← Builtin.min_ c.argTypes ty ⟨vs⟩)) : Sem Next).run T.P w = _
    simp only [Sem.run_bind, hr, Result.andThen_ok, Sem.run_pure]
  · cases ho
    show (do let d ← resolve ρ c ty; invoke d.target d.args : Sem Next).run T.P w = _
    rw [red _ rfl]
    rfl
  · rename_i x hl
    obtain ⟨xa, h1, ho⟩ := R.bind_ok ho
    refine NextOK.of_val (opSliceData_ok h c.argTypes ty (he x _ h1)) ho (fun v w' hr => ?_)
    rw [red _ rfl, hargs _ hl]
    show (do pure (.value (← Builtin.unsafeSliceData_ c.argTypes ty #[ρ x])) : Sem Next).run T.P w = _
    simp only [Sem.run_bind, hr, Result.andThen_ok, Sem.run_pure]
  · rename_i x n hl
    obtain ⟨xa, h1, ho⟩ := R.bind_ok ho
    obtain ⟨na, h2, ho⟩ := R.bind_ok ho
    split at ho
    · rename_i pt e1
      refine NextOK.of_val (opString_ok (ty := ty) hT h e1 (he x _ h1) (he n _ h2)) ho (fun v w' hr => ?_)
      rw [red _ rfl, hargs _ hl]
      show (do pure (.value (← Builtin.unsafeString_ c.argTypes ty #[ρ x, ρ n])) : Sem Next).run T.P w = _
      simp only [Sem.run_bind, hr, Result.andThen_ok, Sem.run_pure]
    · cases ho
  · cases ho

theorem opCall_ok (hT : TabOK T) (h : SR ng B W φ s w) {t : Tm} {ρ : Operand → Value} (he : EvR T φ t ρ) (c : Call) (ty : TypeId) :
    ∀ o, opCall T s t ty c = .ok o → NextOK T ng B W φ s w (do let d ← resolve ρ c ty; invoke d.target d.args) o := by
  intro o ho
  unfold opCall at ho
  split at ho
  · rename_i f hf
    obtain ⟨fa, h1, ho⟩ := R.bind_ok ho
    obtain ⟨args, h2, ho⟩ := R.bind_ok ho
    have := callV_ok hT h (he f _ h1) (evAs_ok he h2) o ho
    have e : (do let d ← resolve ρ c ty; invoke d.target d.args : Sem Next) = (do let d ← Deferred.ofValue (ρ f) ⟨c.args.toList.map ρ⟩; invoke d.target d.args) := by
      simp only [resolve, hf]
      congr 2
      apply Array.ext'
      simp
    rw [e]
    exact this
  · rename_i b hb
    exact callB_ok hT h he b c hb ty o ho
  · cases ho

theorem opA_ok (hT : TabOK T) (h : SR ng B W φ s w) {t : Tm} {ρ : Operand → Value} (he : EvR T φ t ρ) (op : Oper) : ∀ o, opA T s t op = .ok o → NextOK T ng B W φ s w (execOp ρ op) o := by
  intro o ho
  unfold opA at ho
  split at ho
  · rename_i x hop
    obtain ⟨a, h1, ho⟩ := R.bind_ok ho
    cases ho
    exact ⟨φ, ρ x, w, Phi.le_refl φ, h, he x _ h1, by simp [execOp, hop]⟩
  · rename_i x hop
    obtain ⟨a, h1, ho⟩ := R.bind_ok ho
    cases ho
    exact ⟨φ, ρ x, w, Phi.le_refl φ, h, he x _ h1, by simp [execOp, hop]⟩
  · rename_i c a b hop
    unfold opPick at ho
    obtain ⟨ca, h1, ho⟩ := R.bind_ok ho
    split at ho
    · obtain ⟨v, h2, ho⟩ := R.bind_ok ho
      cases ho
      have hc := he c _ h1
      exact ⟨φ, ρ a, w, Phi.le_refl φ, h, he a _ h2, by simp [execOp, hop, show ρ c = .bool true from hc, asBool]⟩
    · obtain ⟨v, h2, ho⟩ := R.bind_ok ho
      cases ho
      have hc := he c _ h1
      exact ⟨φ, ρ b, w, Phi.le_refl φ, h, he b _ h2, by simp [execOp, hop, show ρ c = .bool false from hc, asBool]⟩
    · cases ho
  · rename_i elem hop
    exact NextOK.of_val (opAlloc_ok hT h elem) ho (fun v w' hr => by simp only [execOp, hop, Sem.run_bind, hr, Result.andThen_ok, Sem.run_pure])
  · rename_i elem x hop
    obtain ⟨a, h1, ho⟩ := R.bind_ok ho
    exact NextOK.of_val (opBox_ok h elem (he x _ h1)) ho (fun v w' hr => by simp only [execOp, hop, Sem.run_bind, hr, Result.andThen_ok, Sem.run_pure])
  · rename_i ty ps hop
    obtain ⟨l, h1, ho⟩ := R.bind_ok ho
    exact NextOK.of_val (opBuild_ok hT h ty (PR.map (evParts_ok he h1))) ho (fun v w' hr => by simp only [execOp, hop, Sem.run_bind, hr, Result.andThen_ok, Sem.run_pure])
  · rename_i ty len ps hop
    obtain ⟨l, h1, ho⟩ := R.bind_ok ho
    exact NextOK.of_val (opBuildSlice_ok hT h ty len (PR.map (evParts_ok he h1))) ho (fun v w' hr => by simp only [execOp, hop, Sem.run_bind, hr, Result.andThen_ok, Sem.run_pure])
  · rename_i ty a hop
    obtain ⟨aa, h1, ho⟩ := R.bind_ok ho
    obtain ⟨v, h2, ho⟩ := R.bind_ok ho
    cases ho
    obtain ⟨v', q1, q2⟩ := loadA_ok hT h h2 (he a _ h1)
    exact ⟨φ, v', w, Phi.le_refl φ, h, q1, by simp only [execOp, hop, Sem.run_bind, q2, Result.andThen_ok, Sem.run_pure]⟩
  · rename_i ty a x hop
    obtain ⟨aa, h1, ho⟩ := R.bind_ok ho
    obtain ⟨xa, h2, ho⟩ := R.bind_ok ho
    obtain ⟨s', h3, ho⟩ := R.bind_ok ho
    cases ho
    obtain ⟨w', q1, q2⟩ := storeA_ok hT h h3 (he a _ h1) (he x _ h2)
    exact ⟨w', q2, by simp only [execOp, hop, Sem.run_bind, q1, Result.andThen_ok, Sem.run_pure]⟩
  · rename_i x hop
    obtain ⟨a, h1, ho⟩ := R.bind_ok ho
    obtain ⟨rfl, q⟩ := opNilCheck_ok (T := T) (w := w) (he x _ h1) ρ x rfl op hop o ho
    exact ⟨φ, ρ x, w, Phi.le_refl φ, h, he x _ h1, q⟩
  · rename_i bop ty x y yt hop
    obtain ⟨a, h1, ho⟩ := R.bind_ok ho
    obtain ⟨b, h2, ho⟩ := R.bind_ok ho
    exact NextOK.of_val (binA_ok hT h bop ty x y (he x _ h1) (he y _ h2)) ho (fun v w' hr => by
      simp only [execOp, hop]
      rw [Sem.run_bind]
      rw [show (do eqGuard bop ty x y (ρ x) (ρ y); binOp bop ty (ρ x) (ρ y) : Sem Value) = binM bop ty x y (ρ x) (ρ y) from rfl, hr]
      rfl)
  · rename_i uop ty x hop
    obtain ⟨v0, h1, ho⟩ := R.bind_ok ho
    have := evV_ok he h1
    exact NextOK.of_val (pureV_ok h _) ho (fun v w' hr => by simp only [execOp, hop, this, Sem.run_bind, hr, Result.andThen_ok, Sem.run_pure])
  · rename_i src dst x hop
    obtain ⟨a, h1, ho⟩ := R.bind_ok ho
    exact NextOK.of_val (convA_ok hT h src dst (he x _ h1)) ho (fun v w' hr => by simp only [execOp, hop, Sem.run_bind, hr, Result.andThen_ok, Sem.run_pure])
  · rename_i ty x hop
    obtain ⟨a, h1, ho⟩ := R.bind_ok ho
    exact NextOK.of_val (opMakeInterface_ok hT h ty (he x _ h1)) ho (fun v w' hr => by simp only [execOp, hop, Sem.run_bind, hr, Result.andThen_ok, Sem.run_pure])
  · rename_i fn a b hop
    unfold opMakeFunc at ho
    split at ho
    · rename_i f
      obtain ⟨x, h1, ho⟩ := R.bind_ok ho
      obtain ⟨y, h2, ho⟩ := R.bind_ok ho
      cases ho
      have e1 := evAs_ok he h1
      have e2 := evAs_ok he h2
      refine ⟨φ, _, w, Phi.le_refl φ, h, ⟨_, _, e1, e2, rfl⟩, ?_⟩
      simp only [execOp, hop, Instr.makeFunc, Sem.run_bind, Sem.run_pure, Result.andThen_ok]
      congr 3
      · apply Array.ext'; simp
      · apply Array.ext'; simp
    · cases ho
  · rename_i ty r hop
    exact NextOK.of_val (opMakeMap_ok h ty r ρ) ho (fun v w' hr => by simp only [execOp, hop, Sem.run_bind, hr, Result.andThen_ok, Sem.run_pure])
  · rename_i ty l c hop
    obtain ⟨a, h1, ho⟩ := R.bind_ok ho
    obtain ⟨b, h2, ho⟩ := R.bind_ok ho
    exact NextOK.of_val (opMakeSlice_ok hT h ty (he l _ h1) (he c _ h2)) ho (fun v w' hr => by simp only [execOp, hop, Sem.run_bind, hr, Result.andThen_ok, Sem.run_pure])
  · rename_i ty x lo hi mx hop
    unfold opSlice at ho
    split at ho
    · obtain ⟨a, h1, ho⟩ := R.bind_ok ho
      obtain ⟨l, h2, ho⟩ := R.bind_ok ho
      obtain ⟨hh, h3, ho⟩ := R.bind_ok ho
      obtain ⟨v, h4, ho⟩ := R.bind_ok ho
      cases ho
      obtain ⟨v', q1, q2⟩ := sliceA_ok hT w h4 (he x _ h1) (evOpt_ok he h2) (evOpt_ok he h3)
      exact ⟨φ, v', w, Phi.le_refl φ, h, q1, by simp only [execOp, hop, Option.map_none, Sem.run_bind, q2, Result.andThen_ok, Sem.run_pure]⟩
    · cases ho
  · rename_i st x f hop
    obtain ⟨a, h1, ho⟩ := R.bind_ok ho
    exact NextOK.of_val (opFieldAddr_ok hT h st f (he x _ h1)) ho (fun v w' hr => by simp only [execOp, hop, Sem.run_bind, hr, Result.andThen_ok, Sem.run_pure])
  · rename_i st x f hop
    obtain ⟨a, h1, ho⟩ := R.bind_ok ho
    exact NextOK.of_val (opField_ok hT h st f (he x _ h1)) ho (fun v w' hr => by simp only [execOp, hop, Sem.run_bind, hr, Result.andThen_ok, Sem.run_pure])
  · rename_i ty x i hop
    obtain ⟨a, h1, ho⟩ := R.bind_ok ho
    obtain ⟨b, h2, ho⟩ := R.bind_ok ho
    exact NextOK.of_val (opIndexAddr_ok hT h ty (he x _ h1) (he i _ h2)) ho (fun v w' hr => by simp only [execOp, hop, Sem.run_bind, hr, Result.andThen_ok, Sem.run_pure])
  · rename_i ty x i hop
    obtain ⟨a, h1, ho⟩ := R.bind_ok ho
    obtain ⟨b, h2, ho⟩ := R.bind_ok ho
    exact NextOK.of_val (opIndex_ok hT h ty (he x _ h1) (he i _ h2)) ho (fun v w' hr => by simp only [execOp, hop, Sem.run_bind, hr, Result.andThen_ok, Sem.run_pure])
  · rename_i ty m k ok hop
    obtain ⟨a, h1, ho⟩ := R.bind_ok ho
    obtain ⟨b, h2, ho⟩ := R.bind_ok ho
    exact NextOK.of_val (opLookup_ok hT h ty ok (he m _ h1) (he k _ h2)) ho (fun v w' hr => by simp only [execOp, hop, Sem.run_bind, hr, Result.andThen_ok, Sem.run_pure])
  · rename_i ty m k x hop
    obtain ⟨a, h1, ho⟩ := R.bind_ok ho
    obtain ⟨b, h2, ho⟩ := R.bind_ok ho
    obtain ⟨c, h3, ho⟩ := R.bind_ok ho
    exact NextOK.of_skip (opMapUpdate_ok hT h ty (he m _ h1) (he k _ h2) (he x _ h3)) ho (fun w' hr => by simp only [execOp, hop, Sem.run_bind, hr, Result.andThen_ok, Sem.run_pure])
  · rename_i ty m k x hop
    obtain ⟨a, h1, ho⟩ := R.bind_ok ho
    obtain ⟨b, h2, ho⟩ := R.bind_ok ho
    obtain ⟨c, h3, ho⟩ := R.bind_ok ho
    exact NextOK.of_skip (opMapUpdate_ok hT h ty (he m _ h1) (he k _ h2) (he x _ h3)) ho (fun w' hr => by simp only [execOp, hop, Sem.run_bind, hr, Result.andThen_ok, Sem.run_pure])
  · rename_i ty m k hop
    obtain ⟨a, h1, ho⟩ := R.bind_ok ho
    obtain ⟨b, h2, ho⟩ := R.bind_ok ho
    exact NextOK.of_val (opMapEntry_ok hT h ty (he m _ h1) (he k _ h2)) ho (fun v w' hr => by simp only [execOp, hop, Sem.run_bind, hr, Result.andThen_ok, Sem.run_pure])
  · rename_i ty m st x hop
    obtain ⟨a, h1, ho⟩ := R.bind_ok ho
    obtain ⟨b, h2, ho⟩ := R.bind_ok ho
    obtain ⟨c, h3, ho⟩ := R.bind_ok ho
    exact NextOK.of_skip (opEntryStore_ok hT h ty (he m _ h1) (he st _ h2) (he x _ h3)) ho (fun w' hr => by simp only [execOp, hop, Sem.run_bind, hr, Result.andThen_ok, Sem.run_pure])
  · rename_i ty x hop
    obtain ⟨a, h1, ho⟩ := R.bind_ok ho
    exact NextOK.of_val (opRange_ok hT h ty (he x _ h1)) ho (fun v w' hr => by simp only [execOp, hop, Sem.run_bind, hr, Result.andThen_ok, Sem.run_pure])
  · rename_i it hop
    obtain ⟨a, h1, ho⟩ := R.bind_ok ho
    exact NextOK.of_val (opNext_ok h op.type (he it _ h1)) ho (fun v w' hr => by simp only [execOp, hop, Sem.run_bind, hr, Result.andThen_ok, Sem.run_pure])
  · rename_i x xt asserted ok hop
    obtain ⟨a, h1, ho⟩ := R.bind_ok ho
    exact NextOK.of_val (opTypeAssert_ok hT h xt asserted ok (he x _ h1)) ho (fun v w' hr => by simp only [execOp, hop, Sem.run_bind, hr, Result.andThen_ok, Sem.run_pure])
  · rename_i tu i hop
    obtain ⟨a, h1, ho⟩ := R.bind_ok ho
    exact NextOK.of_val (opExtract_ok h (he tu _ h1) i) ho (fun v w' hr => by simp only [execOp, hop, Sem.run_bind, hr, Result.andThen_ok, Sem.run_pure])
  · rename_i c hop
    have := opCall_ok hT h he c op.type o ho
    have e : execOp ρ op = (do let d ← resolve ρ c op.type; invoke d.target d.args) := by simp only [execOp, hop]
    rw [e]
    exact this
  · rename_i c hop
    have := opDefer_ok (ng := ng) (B := B) (W := W) (φ := φ) (s := s) (w := w) he c op.type o ho
    have e : execOp ρ op = (do pure (.defer (← resolve ρ c op.type))) := by simp only [execOp, hop]
    rw [e]
    exact this
  · rename_i x hop
    obtain ⟨a, h1, ho⟩ := R.bind_ok ho
    have := opPanic_ok (T := T) (ng := ng) (B := B) (W := W) (s := s) (w := w) (he x _ h1) o ho
    have e : execOp ρ op = (do pure (.value (← Instr.panic (ρ x)))) := by simp only [execOp, hop]
    rw [e]
    exact this
  · cases ho
end
end Go.Ex
