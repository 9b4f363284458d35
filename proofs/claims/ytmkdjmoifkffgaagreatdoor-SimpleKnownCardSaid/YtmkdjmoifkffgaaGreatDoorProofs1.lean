/- The law: SimpleKnown answers true in whatever world lays the listed variables; the row; the tied card. -/
import Derived.Test.YtmkdjmoifkffgaaGreatDoorRun1
import Derived.Test.YtmkdjmoifkffgaaGreatDoorRun2
import Derived.Test.YtmkdjmoifkffgaaGreatDoorRun3
import Derived.ProofKit
import Derived.LaidMore
import Derived.OpenShut
import Derived.Lay
import Derived.Stop.Joined
import Derived.SevenTiedAt
namespace Go.Proofs.YtmkdjmoifkffgaaGreatDoor
open Go Go.Ex Go.ChangeShapes Go.WideShapes Go.ChangeAt Go.RowKit
theorem bif_ext {P : Program} {f n : Nat} {a : ExtK} {r : Option ExtK} (h : ExtFits P n a) (hr : ∀ k, r = some k → ExtFits P f k) : ∀ k, (bif Nat.beq f n then some a else r) = some k → ExtFits P f k := by
  intro k hk
  cases hb : Nat.beq f n with
  | true => rw [hb] at hk; cases hk; rw [Nat.eq_of_beq_eq_true hb]; exact h
  | false => rw [hb] at hk; exact hr k hk
theorem extT_fits : ∀ f k, extT f = some k → ExtFits Tryz.prog f k := by
  intro f
  unfold extT
  refine bif_ext ⟨Tryz.f154, Tryz.func154, by kernel_rfl, by kernel_rfl, by kernel_rfl, by kernel_rfl⟩ ?_
  refine bif_ext ⟨Tryz.f155, Tryz.func155, by kernel_rfl, by kernel_rfl, by kernel_rfl, by kernel_rfl⟩ ?_
  refine bif_ext ⟨Tryz.f103, Tryz.func103, by kernel_rfl, by kernel_rfl, by kernel_rfl, by kernel_rfl⟩ ?_
  refine bif_ext ⟨Tryz.f156, Tryz.func156, by kernel_rfl, by kernel_rfl, by kernel_rfl, by kernel_rfl⟩ ?_
  refine bif_ext ⟨Tryz.f199, Tryz.func199, by kernel_rfl, by kernel_rfl, by kernel_rfl, by kernel_rfl⟩ ?_
  refine bif_ext ⟨Tryz.f216, Tryz.func216, by kernel_rfl, by kernel_rfl, by kernel_rfl, by kernel_rfl⟩ ?_
  refine bif_ext ⟨Tryz.f278, Tryz.func278, by kernel_rfl, by kernel_rfl, by kernel_rfl, by kernel_rfl⟩ ?_
  refine bif_ext ⟨Tryz.f214, Tryz.func214, by kernel_rfl, by kernel_rfl, by kernel_rfl, by kernel_rfl⟩ ?_
  refine bif_ext ⟨Tryz.f338, Tryz.func338, by kernel_rfl, by kernel_rfl, by kernel_rfl, by kernel_rfl⟩ ?_
  refine bif_ext ⟨Tryz.f277, Tryz.func277, by kernel_rfl, by kernel_rfl, by kernel_rfl, by kernel_rfl⟩ ?_
  refine bif_ext ⟨Tryz.f332, Tryz.func332, by kernel_rfl, by kernel_rfl, by kernel_rfl, by kernel_rfl⟩ ?_
  exact fun k h => nomatch h
theorem tabT_ok : TabOK TT := triTab_ok (by kernel_rfl) (by decide +kernel) (by decide +kernel) (by decide +kernel) extT_fits
theorem k0_ok (B : Nat) (W : World) : KnownOK TT B W K0 := fun _ _ _ h => nomatch h
theorem ke0 {W : World} (hL : Laid 19 W tabs) (st : St) : TaskOK TT 19 W.heap.size W (.call 46 ka0 st none) (.ret kv0 st false) := by
  obtain ⟨st1, hr⟩ := retIs_ok kr0
  exact known_of (T := TT) tabT_ok hL (fun _ h => h) (fun w _ => k0_ok _ w) hr (by decide +kernel) (by decide +kernel) st
theorem ke1 {W : World} (hL : Laid 19 W tabs) (st : St) : TaskOK TT 19 W.heap.size W (.call 46 ka1 st none) (.ret kv1 st false) := by
  obtain ⟨st1, hr⟩ := retIs_ok kr1
  exact known_of (T := TT) tabT_ok hL (fun _ h => h) (fun w _ => k0_ok _ w) hr (by decide +kernel) (by decide +kernel) st
theorem ke2 {W : World} (hL : Laid 19 W tabs) (st : St) : TaskOK TT 19 W.heap.size W (.call 46 ka2 st none) (.ret kv2 st false) := by
  obtain ⟨st1, hr⟩ := retIs_ok kr2
  exact known_of (T := TT) tabT_ok hL (fun _ h => h) (fun w _ => k0_ok _ w) hr (by decide +kernel) (by decide +kernel) st
theorem ke3 {W : World} (hL : Laid 19 W tabs) (st : St) : TaskOK TT 19 W.heap.size W (.call 46 ka3 st none) (.ret kv3 st false) := by
  obtain ⟨st1, hr⟩ := retIs_ok kr3
  exact known_of (T := TT) tabT_ok hL (fun _ h => h) (fun w _ => k0_ok _ w) hr (by decide +kernel) (by decide +kernel) st
theorem ke4 {W : World} (hL : Laid 19 W tabs) (st : St) : TaskOK TT 19 W.heap.size W (.call 46 ka4 st none) (.ret kv4 st false) := by
  obtain ⟨st1, hr⟩ := retIs_ok kr4
  exact known_of (T := TT) tabT_ok hL (fun _ h => h) (fun w _ => k0_ok _ w) hr (by decide +kernel) (by decide +kernel) st
theorem ke5 {W : World} (hL : Laid 19 W tabs) (st : St) : TaskOK TT 19 W.heap.size W (.call 35 ka5 st none) (.ret kv5 st false) := by
  obtain ⟨st1, hr⟩ := retIs_ok kr5
  exact known_of (T := TT) tabT_ok hL (fun _ h => h) (fun w _ => k0_ok _ w) hr (by decide +kernel) (by decide +kernel) st
theorem ke6 {W : World} (hL : Laid 19 W tabs) (st : St) : TaskOK TT 19 W.heap.size W (.call 35 ka6 st none) (.ret kv6 st false) := by
  obtain ⟨st1, hr⟩ := retIs_ok kr6
  exact known_of (T := TT) tabT_ok hL (fun _ h => h) (fun w _ => k0_ok _ w) hr (by decide +kernel) (by decide +kernel) st
theorem ke7 {W : World} (hL : Laid 19 W tabs) (st : St) : TaskOK TT 19 W.heap.size W (.call 35 ka7 st none) (.ret kv7 st false) := by
  obtain ⟨st1, hr⟩ := retIs_ok kr7
  exact known_of (T := TT) tabT_ok hL (fun _ h => h) (fun w _ => k0_ok _ w) hr (by decide +kernel) (by decide +kernel) st
theorem ke8 {W : World} (hL : Laid 19 W tabs) (st : St) : TaskOK TT 19 W.heap.size W (.call 35 ka8 st none) (.ret kv8 st false) := by
  obtain ⟨st1, hr⟩ := retIs_ok kr8
  exact known_of (T := TT) tabT_ok hL (fun _ h => h) (fun w _ => k0_ok _ w) hr (by decide +kernel) (by decide +kernel) st
theorem ke9 {W : World} (hL : Laid 19 W tabs) (st : St) : TaskOK TT 19 W.heap.size W (.call 35 ka9 st none) (.ret kv9 st false) := by
  obtain ⟨st1, hr⟩ := retIs_ok kr9
  exact known_of (T := TT) tabT_ok hL (fun _ h => h) (fun w _ => k0_ok _ w) hr (by decide +kernel) (by decide +kernel) st
theorem ke10 {W : World} (hL : Laid 19 W tabs) (st : St) : TaskOK TT 19 W.heap.size W (.call 35 ka10 st none) (.ret kv10 st false) := by
  obtain ⟨st1, hr⟩ := retIs_ok kr10
  exact known_of (T := TT) tabT_ok hL (fun _ h => h) (fun w _ => k0_ok _ w) hr (by decide +kernel) (by decide +kernel) st
theorem ke11 {W : World} (hL : Laid 19 W tabs) (st : St) : TaskOK TT 19 W.heap.size W (.call 35 ka11 st none) (.ret kv11 st false) := by
  obtain ⟨st1, hr⟩ := retIs_ok kr11
  exact known_of (T := TT) tabT_ok hL (fun _ h => h) (fun w _ => k0_ok _ w) hr (by decide +kernel) (by decide +kernel) st
theorem ke12 {W : World} (hL : Laid 19 W tabs) (st : St) : TaskOK TT 19 W.heap.size W (.call 35 ka12 st none) (.ret kv12 st false) := by
  obtain ⟨st1, hr⟩ := retIs_ok kr12
  exact known_of (T := TT) tabT_ok hL (fun _ h => h) (fun w _ => k0_ok _ w) hr (by decide +kernel) (by decide +kernel) st
theorem ke13 {W : World} (hL : Laid 19 W tabs) (st : St) : TaskOK TT 19 W.heap.size W (.call 35 ka13 st none) (.ret kv13 st false) := by
  obtain ⟨st1, hr⟩ := retIs_ok kr13
  exact known_of (T := TT) tabT_ok hL (fun _ h => h) (fun w _ => k0_ok _ w) hr (by decide +kernel) (by decide +kernel) st
theorem kw {W : World} (hL : Laid 19 W tabs) (st : St) : TaskOK TT 19 W.heap.size W (.call 7 [] st none) (.ret (.bool true) st false) := by
  obtain ⟨st1, hr⟩ := retIs_ok works13
  exact known_of (T := TT) tabT_ok hL (fun _ h => h) (fun w _ => k0_ok _ w) hr rfl rfl st
theorem k1_ok {W : World} (hL : Laid 19 W tabs) : KnownOK TT W.heap.size W K1 := by
  intro f xs v hm st
  unfold K1 at hm
  cases h7 : Nat.beq f 7 with
  | true =>
    rw [h7] at hm
    rw [Nat.eq_of_beq_eq_true h7]
    simp only [cond_true, List.mem_cons, Prod.mk.injEq, List.mem_nil_iff, or_false] at hm
    obtain ⟨rfl, rfl⟩ := hm
    exact kw hL st
  | false =>
    rw [h7] at hm
    simp only [cond_false] at hm
    cases h46 : Nat.beq f 46 with
    | true =>
      rw [h46] at hm
      rw [Nat.eq_of_beq_eq_true h46]
      simp only [cond_true, List.mem_cons, Prod.mk.injEq, List.mem_nil_iff, or_false] at hm
      rcases hm with ⟨rfl, rfl⟩ | ⟨rfl, rfl⟩ | ⟨rfl, rfl⟩ | ⟨rfl, rfl⟩ | ⟨rfl, rfl⟩
      · exact ke0 hL st
      · exact ke1 hL st
      · exact ke2 hL st
      · exact ke3 hL st
      · exact ke4 hL st
    | false =>
      rw [h46] at hm
      simp only [cond_false] at hm
      cases h35 : Nat.beq f 35 with
      | true =>
        rw [h35] at hm
        rw [Nat.eq_of_beq_eq_true h35]
        simp only [cond_true, List.mem_cons, Prod.mk.injEq, List.mem_nil_iff, or_false] at hm
        rcases hm with ⟨rfl, rfl⟩ | ⟨rfl, rfl⟩ | ⟨rfl, rfl⟩ | ⟨rfl, rfl⟩ | ⟨rfl, rfl⟩ | ⟨rfl, rfl⟩ | ⟨rfl, rfl⟩ | ⟨rfl, rfl⟩ | ⟨rfl, rfl⟩
        · exact ke5 hL st
        · exact ke6 hL st
        · exact ke7 hL st
        · exact ke8 hL st
        · exact ke9 hL st
        · exact ke10 hL st
        · exact ke11 hL st
        · exact ke12 hL st
        · exact ke13 hL st
      | false =>
        rw [h35] at hm
        simp only [cond_false] at hm
        cases hm
theorem laid_ok {W : World} (h : laidMet Tryz.prog Rows.simpleKnownRow.laid W) : Laid 19 W tabs := by
  have at_ : ∀ {n : String} {g : Nat} {d : DataW Unit}, (n, d) ∈ Rows.simpleKnownRow.laid → tabFits Tryz.prog n g d = true → LaidAt W g d := fun hm hf => by
    obtain ⟨ps, hv, _⟩ := h
    obtain ⟨g, t, cs, fuel, p, h1, h2, h3, h4⟩ := laidVars_mem hv hm
    exact laidAt_of hf h1 h2 h3 h4
  have a1 : LaidAt W 1 Rows.laid_unicode_utf8_first := at_ (n := "unicode/utf8.first") (.tail _ (.tail _ (.tail _ (.tail _ (.tail _ (.tail _ (.tail _ (.tail _ (.tail _ (.tail _ (.tail _ (.tail _ (.tail _ (.tail _ (.tail _ (.tail _ (.head _))))))))))))))))) (by decide +kernel)
  have a2 : LaidAt W 2 Rows.laid_unicode_utf8_acceptRanges := at_ (n := "unicode/utf8.acceptRanges") (.tail _ (.tail _ (.tail _ (.tail _ (.tail _ (.tail _ (.tail _ (.tail _ (.tail _ (.head _)))))))))) (by decide +kernel)
  have a4 : LaidAt W 4 Rows.laid_chisel_time_lengths := at_ (n := "chisel/time.lengths") (.tail _ (.tail _ (.tail _ (.tail _ (.tail _ (.tail _ (.tail _ (.tail _ (.tail _ (.tail _ (.tail _ (.tail _ (.head _))))))))))))) (by decide +kernel)
  have a5 : LaidAt W 5 Rows.laid_internal_strconv_optimize := at_ (n := "internal/strconv.optimize") (.tail _ (.tail _ (.tail _ (.tail _ (.head _))))) (by decide +kernel)
  have a8 : LaidAt W 8 Rows.laid_unicode_CaseRanges := at_ (n := "unicode.CaseRanges") (.tail _ (.tail _ (.tail _ (.tail _ (.tail _ (.tail _ (.tail _ (.tail _ (.tail _ (.tail _ (.tail _ (.tail _ (.tail _ (.tail _ (.tail _ (.head _)))))))))))))))) (by decide +kernel)
  have a9 : LaidAt W 9 Rows.laid_internal_strconv_uint64pow10 := at_ (n := "internal/strconv.uint64pow10") (.tail _ (.tail _ (.tail _ (.tail _ (.tail _ (.tail _ (.tail _ (.tail _ (.head _))))))))) (by decide +kernel)
  have a10 : LaidAt W 10 Rows.laid_internal_strconv_float32info := at_ (n := "internal/strconv.float32info") (.tail _ (.tail _ (.head _))) (by decide +kernel)
  have a11 : LaidAt W 11 Rows.laid_internal_strconv_float64info := at_ (n := "internal/strconv.float64info") (.tail _ (.tail _ (.tail _ (.head _)))) (by decide +kernel)
  have a12 : LaidAt W 12 Rows.laid_internal_strconv_pow10Tab := at_ (n := "internal/strconv.pow10Tab") (.tail _ (.tail _ (.tail _ (.tail _ (.tail _ (.tail _ (.tail _ (.tail _ (.tail _ (.tail _ (.tail _ (.tail _ (.tail _ (.tail _ (.head _))))))))))))))) (by decide +kernel)
  have a13 : LaidAt W 13 Rows.laid_internal_strconv_leftcheats := at_ (n := "internal/strconv.leftcheats") (.tail _ (.tail _ (.tail _ (.tail _ (.tail _ (.tail _ (.tail _ (.tail _ (.tail _ (.tail _ (.tail _ (.tail _ (.tail _ (.head _)))))))))))))) (by decide +kernel)
  have a14 : LaidAt W 14 Rows.laid_internal_strconv_float32pow10 := at_ (n := "internal/strconv.float32pow10") (.tail _ (.tail _ (.tail _ (.tail _ (.tail _ (.tail _ (.tail _ (.head _)))))))) (by decide +kernel)
  have a15 : LaidAt W 15 Rows.laid_internal_strconv_powtab := at_ (n := "internal/strconv.powtab") (.tail _ (.tail _ (.tail _ (.tail _ (.tail _ (.head _)))))) (by decide +kernel)
  have a16 : LaidAt W 16 Rows.laid_internal_strconv_float64pow10 := at_ (n := "internal/strconv.float64pow10") (.tail _ (.tail _ (.tail _ (.tail _ (.tail _ (.tail _ (.head _))))))) (by decide +kernel)
  have a17 : LaidAt W 17 Rows.laid_math_bits_deBruijn32tab := at_ (n := "math/bits.deBruijn32tab") (.head _) (by decide +kernel)
  have a18 : LaidAt W 18 Rows.laid_math_bits_deBruijn64tab := at_ (n := "math/bits.deBruijn64tab") (.tail _ (.head _)) (by decide +kernel)
  refine ⟨by decide, ?_, ?_⟩
  · obtain ⟨_, cs, e, fr, hc, _⟩ := (LaidAt.flat (fun _ _ e => by cases e)).1 a18
    exact (Array.getElem?_eq_some_iff.1 hc).1
  · intro p hp
    simp only [tabs, List.mem_cons, List.mem_nil_iff, or_false] at hp
    rcases hp with rfl | rfl | rfl | rfl | rfl | rfl | rfl | rfl | rfl | rfl | rfl | rfl | rfl | rfl | rfl
    · exact ⟨by decide, a1⟩
    · exact ⟨by decide, a2⟩
    · exact ⟨by decide, a4⟩
    · exact ⟨by decide, a5⟩
    · exact ⟨by decide, a8⟩
    · exact ⟨by decide, a9⟩
    · exact ⟨by decide, a10⟩
    · exact ⟨by decide, a11⟩
    · exact ⟨by decide, a12⟩
    · exact ⟨by decide, a13⟩
    · exact ⟨by decide, a14⟩
    · exact ⟨by decide, a15⟩
    · exact ⟨by decide, a16⟩
    · exact ⟨by decide, a17⟩
    · exact ⟨by decide, a18⟩
theorem law {W : World} (hL : laidMet Tryz.prog Rows.simpleKnownRow.laid W) : Calls Tryz.prog 3 #[] W fun e w' => e = .returned (.bool true) ∧ Below W.heap.size W w' :=
  calls_of_runF (T := TT) tabT_ok (laid_ok hL) (fun _ h => h) (k1_ok (laid_ok hL)) known13
end Go.Proofs.YtmkdjmoifkffgaaGreatDoor
