/- The law FnExactFeedCentre holds: whatever its arguments, the call returns true and leaves them as they were. No condition. -/
import Derived.Test.YtieeagobedjogaaMarks
import Derived.Test.YtieeagobedjogaaLaf
import Derived.Test.YtieeagobedjogaaIs
import Derived.Test.YtieeagobedjogaaOrder
import Derived.Test.YtieeagobedjogaaRows
set_option linter.unusedVariables false
set_option linter.unusedSimpArgs false
set_option linter.unusedSectionVars false
namespace Go.Vs
open Go.IntWalk
theorem feedCentre_eq (c : Centre) (h : c.tot ≤ 1048576) (a : Int) (y : Item) : ∃ r : Centre × Bool, I_FeedCentre G.real TE.real c a y = some r ∧ S_FeedCentre G.real TE.real c a y = some r ∧ r.1.tot ≤ 1048576 := by
  have h0 := h
  obtain ⟨k1, k2⟩ := copy_r c (by omega)
  unfold I_FeedCentre S_FeedCentre
  rw [iCentre_r c h, sCentre_r c h, k1, k2]
  unfold Centre.tot at h
  simp only [cl_some, lP_eq, l1In_r, br_dec, llen_Item, llen_Inlet, dlenx_Inlet, R_lt, R_le, R_sub, R_nat]
  rw [w64 (n := (c.Inlets.length : Int) - 1) (by omega) (by omega)]
  by_cases hc : IsC c
  · simp only [hc, if_true]
    by_cases h2 : 0 ≤ a ∧ a ≤ (c.Inlets.length : Int) - 1
    · rw [if_neg (by omega), if_neg (by omega), if_pos h2]
      obtain ⟨x, hx, hm⟩ := getL (l := c.Inlets) h2.1 (by omega)
      have ht := (hc.inlet hm).2.2
      rw [gt_some hx, gd_true (by omega), gd_true (by simp; omega), gd_true (by omega), gt_some hx, gd_true (by omega), gd_true (by simp; omega), gd_true (by omega)]
      have hs := tot_set_in (y := ⟨x.Cell, x.Wait ++ [y]⟩) hx _ rfl
      have hlen : sumT (fun y => Chute.tot y) c.Chutes ≤ 120 := by
        have h6 := hc.chutes.2
        have : ∀ (l : List Chute), (∀ z ∈ l, Chute.tot z ≤ 20) → sumT (fun y => Chute.tot y) l ≤ 20 * l.length := by
          intro l
          induction l with
          | nil => intro _; simp [sumT]
          | cons z l ih =>
            intro hz
            have := ih (fun x hx => hz x (by simp [hx]))
            have := hz z (by simp)
            rw [sumT_cons, List.length_cons]; omega
        have := this c.Chutes (fun z hz => by have := hc.cell hz; unfold Chute.tot; omega)
        omega
      have hlen2 : sumT (fun y => Inlet.tot y) c.Inlets ≤ 80 := by
        have h6 := hc.inlets.2
        have : ∀ (l : List Inlet), (∀ z ∈ l, Inlet.tot z ≤ 20) → sumT (fun y => Inlet.tot y) l ≤ 20 * l.length := by
          intro l
          induction l with
          | nil => intro _; simp [sumT]
          | cons z l ih =>
            intro hz
            have := ih (fun x hx => hz x (by simp [hx]))
            have := hz z (by simp)
            rw [sumT_cons, List.length_cons]; omega
        have := this c.Inlets (fun z hz => by have := hc.inlet hz; unfold Inlet.tot; omega)
        omega
      have hb := hc.belt.2
      have hp := hc.plan.2
      have hi := hc.inlets.2
      have hch := hc.chutes.2
      have htot : (Centre.mk c.Belt c.Chutes (c.Inlets.set a.toNat ⟨x.Cell, x.Wait ++ [y]⟩) c.Plan c.Now).tot ≤ 1048576 := by
        unfold Centre.tot
        simp only [List.length_set]
        simp only [Inlet.tot, List.length_append, List.length_cons, List.length_nil] at *
        omega
      rw [iCentre_r _ htot, sCentre_r _ htot]
      simp only [cl_some, br_dec]
      split
      · exact ⟨_, rfl, rfl, htot⟩
      · exact ⟨_, rfl, rfl, h0⟩
    · rw [if_neg h2]
      refine ⟨(c, false), ?_, rfl, h0⟩
      split
      · rfl
      · rw [if_pos (by omega)]
  · simp only [hc, if_false]
    exact ⟨_, rfl, rfl, h0⟩
theorem law19 (c : Centre) (a : Int) (y : Item) (hw : c.wd) : L_FnExactFeedCentre G.real TE.real c a y = some true := by
  unfold L_FnExactFeedCentre
  rw [szCentre_r c _ (by omega) (by omega) hw]
  simp only [lP_eq, R_lt, br_dec]
  by_cases h : szOut 1048576 c.tot < 0
  · rw [if_pos h]
  · have := szOut_pos h
    rw [if_neg h]
    obtain ⟨⟨r1, r2⟩, e1, e2, e3⟩ := feedCentre_eq c (by omega) a y
    simp only at e3
    obtain ⟨n, c', n1, n2, n3, n4, n5, n6, n7, n8⟩ := markC c (by omega)
    obtain ⟨m, r', m1, m2, m3, m4, m5, m6, m7, m8⟩ := markC r1 e3
    have ty : L_toItem G.real TE.real y = y := toItem_r y
    have tm : ∀ z : Item, Item.mk z.Id z.Dest = z := fun _ => rfl
    cases r2 <;> simp only [toCentre_r c (show c.tot ≤ 1048576 by omega), ty, tm, cl_some, lP_eq, e1, e2, eqC_mk r1 e3, eqCentre_r c (show c.tot ≤ 1048576 by omega), eqItem_r, br_t, n2, n4, n5, n6, n7, gd_True, nneg (show (0 : Int) ≤ 1 by omega), if_false, m2, m3, m4, m5, m6, m7, m8, R_eq, decide_true, decide_false, br_f]
end Go.Vs
namespace Go.Proofs.Ytieeagobedjogaa.fnExactFeedCentre
open Go.Vs Go.RowKit Go.WideShapes Go.ChangeShapes
set_option linter.unusedVariables false
set_option maxRecDepth 100000
theorem given (as0 : List A) (h : ArgsIs Try.prog 8 Try.f19.params.toList as0) : Go.Vs.Fn Try.prog 19 as0 (.c (.r (.v (.bool true)))) := by
  rw [Try.params19] at h
  obtain ⟨x0, xs0, rfl, ⟨ts0, t0, q0⟩, h⟩ := h
  rw [show tyOf Try.prog 8 27 = some [.sl [.int .i64, .int .i64], .sl [.int .i64, .int .i64, .sl [.int .i64, .int .i64]], .sl [.int .i64, .sl [.int .i64, .int .i64]], .sl [.int .i64], .int .i64] from by kernel_rfl] at t0
  cases t0
  rw [show aggT Try.prog 27 = true from by kernel_rfl] at q0
  obtain ⟨r0, rfl, q0⟩ := q0
  obtain ⟨a0, rfl, w0⟩ := is_Centre r0 q0
  obtain ⟨x1, xs1, rfl, ⟨ts1, t1, q1⟩, h⟩ := h
  rw [show tyOf Try.prog 8 3 = some [.int .i64] from by kernel_rfl] at t1
  cases t1
  rw [show aggT Try.prog 3 = false from by kernel_rfl] at q1
  obtain ⟨r1, rfl, q1⟩ := q1
  obtain ⟨_, _, e1, q1, e1_⟩ := is_cons q1
  cases e1
  obtain ⟨a1, rfl⟩ := is_int q1
  obtain ⟨x2, xs2, rfl, ⟨ts2, t2, q2⟩, h⟩ := h
  rw [show tyOf Try.prog 8 72 = some [.int .i64, .int .i64] from by kernel_rfl] at t2
  cases t2
  rw [show aggT Try.prog 72 = true from by kernel_rfl] at q2
  obtain ⟨r2, rfl, q2⟩ := q2
  obtain ⟨a2, rfl, w2⟩ := is_Item r2 q2
  have h := h
  subst h
  exact c_L_FnExactFeedCentre rfl rfl (law19 _ _ _ w0)
theorem lifted (os : Os) (started : os.Started) (H : Type) (enc : TypeId × Value → H) :
    ReturnsInHanded {} Try.checked os 19 .any (Rows.fnExactFeedCentreSpec.pre6 enc Try.prog Try.f19 Rows.fnExactFeedCentreRow.domain false) (Rows.fnExactFeedCentreSpec.post enc Try.prog Try.f19 false true false false) := by
  refine returnsInHanded_of_change (C := Try.checked) (s := Rows.fnExactFeedCentreSpec) (by kernel_rfl) started (by kernel_rfl) Try.func19
    (ChangeSpec.witness6 (enc := enc) (C := Try.checked) false ⟨#[], #[.agg #[.slice none 0 0, .slice none 0 0, .slice none 0 0, .slice none 0 0, .int .i64 0], .int .i64 0, .agg #[.int .i64 0, .int .i64 0]], []⟩ 8 (by kernel_rfl) (by kernel_rfl) (by kernel_rfl) (by kernel_rfl)) ?_
  intro W base args ds gs before hval hW _ _
  refine law_contract (n := 8) (tb := 4) rfl rfl Try.underlying4 (by kernel_rfl) (by kernel_rfl) (fun ds hl => ?_) given W base args ds gs before hval hW
  rw [Try.params19] at hl
  match ds, hl with
  | [d0, d1, d2], _ => exact ⟨rfl, rfl, rfl⟩
theorem facts : joinedFacts Try.prog 19 Try.f19 Rows.fnExactFeedCentreSpec Rows.fnExactFeedCentreRow = true := by
  unfold joinedFacts
  exact (and_i (and_i (and_i (and_i (and_i (and_i (and_i (and_i (and_i (and_i (and_i (and_i (and_i (and_i (and_i (and_i (and_i (and_i (and_i (and_i (and_i (and_i (and_i (and_i (and_i (and_i (and_i (and_i (and_i (and_i (and_i (by kernel_rfl) io_laid) io_maps) (by kernel_rfl)) (by kernel_rfl)) (by kernel_rfl)) (by kernel_rfl)) (by kernel_rfl)) (by kernel_rfl)) (by kernel_rfl)) (by kernel_rfl)) (by kernel_rfl)) (by kernel_rfl)) (by kernel_rfl)) (by kernel_rfl)) (by kernel_rfl)) (by kernel_rfl)) (by kernel_rfl)) (by kernel_rfl)) (by kernel_rfl)) (by kernel_rfl)) (by kernel_rfl)) (by kernel_rfl)) (by kernel_rfl)) io_heard) io_enter) (by rw [io_final]; rfl)) (by rw [io_make]; rfl)) (by kernel_rfl)) (by kernel_rfl)) (by kernel_rfl)) (by kernel_rfl))
theorem holds : Rows.FnExactFeedCentreSaid :=
  OpenClaim.holds_of_wide 19 Try.f19 rfl rfl rfl rfl rfl rfl rfl ⟨rfl, rfl, rfl, rfl, rfl⟩ rfl rfl rfl rfl rfl (by kernel_rfl) Try.func19 facts
    (of_decide_eq_true (by kernel_rfl)) (by unfold Func.isWrapper; first | (rw [if_pos (by decide +kernel)]; kernel_rfl) | (rw [if_neg (by decide +kernel)]; exact ⟨rfl, rfl⟩))
    (fun os started H enc _ => lifted os started H enc)
end Go.Proofs.Ytieeagobedjogaa.fnExactFeedCentre
