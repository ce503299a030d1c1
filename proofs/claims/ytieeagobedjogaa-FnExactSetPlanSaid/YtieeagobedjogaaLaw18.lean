/- The law FnExactSetPlan holds: whatever its arguments, the call returns true and leaves them as they were. No condition. -/
import Derived.Test.YtieeagobedjogaaMarks
import Derived.Test.YtieeagobedjogaaLae
import Derived.Test.YtieeagobedjogaaIs
import Derived.Test.YtieeagobedjogaaOrder
import Derived.Test.YtieeagobedjogaaRows
set_option linter.unusedVariables false
set_option linter.unusedSimpArgs false
set_option linter.unusedSectionVars false
namespace Go.Vs
open Go.IntWalk
theorem setPlan_eq (c : Centre) (h : c.tot ≤ 1048576) (a b : Int) : ∃ r : Centre × Bool, I_SetPlan G.real TE.real c a b = some r ∧ S_SetPlan G.real TE.real c a b = some r ∧ r.1.tot ≤ 1048576 := by
  have h0 := h
  obtain ⟨k1, k2⟩ := copy_r c (by omega)
  unfold I_SetPlan S_SetPlan
  rw [iCentre_r c h, sCentre_r c h, k1, k2]
  unfold Centre.tot at h
  simp only [cl_some, lP_eq, l1In_r, br_dec, llen_Item, llen_Chute, llen_I64, dlenx_I64, R_lt, R_le, R_sub, R_nat]
  rw [w64 (n := (c.Plan.length : Int) - 1) (by omega) (by omega), w64 (n := (c.Chutes.length : Int) - 1) (by omega) (by omega)]
  by_cases hc : IsC c
  · simp only [hc, if_true]
    by_cases h1 : 0 ≤ a ∧ a ≤ (c.Plan.length : Int) - 1
    · rw [if_neg (by omega), if_neg (by omega), if_pos h1]
      by_cases h2 : 0 ≤ b ∧ b ≤ (c.Chutes.length : Int) - 1
      · rw [if_neg (by omega), if_neg (by omega), if_pos h2]
        obtain ⟨x, hx, hm⟩ := getL (l := c.Plan) h1.1 (by omega)
        rw [gd_true (by omega), gt_some hx]
        refine ⟨_, rfl, rfl, ?_⟩
        unfold Centre.tot
        simp only [List.length_set]
        omega
      · rw [if_neg h2]
        refine ⟨(c, false), ?_, rfl, h0⟩
        split
        · rfl
        · rw [if_pos (by omega)]
    · rw [if_neg h1]
      refine ⟨(c, false), ?_, rfl, h0⟩
      split
      · rfl
      · rw [if_pos (by omega)]
  · simp only [hc, if_false]
    exact ⟨_, rfl, rfl, h0⟩
theorem law18 (c : Centre) (a b : Int) (hw : c.wd) : L_FnExactSetPlan G.real TE.real c a b = some true := by
  unfold L_FnExactSetPlan
  rw [szCentre_r c _ (by omega) (by omega) hw]
  simp only [lP_eq, R_lt, br_dec]
  by_cases h : szOut 1048576 c.tot < 0
  · rw [if_pos h]
  · have := szOut_pos h
    rw [if_neg h]
    obtain ⟨⟨r1, r2⟩, e1, e2, e3⟩ := setPlan_eq c (by omega) a b
    simp only at e3
    obtain ⟨n, c', n1, n2, n3, n4, n5, n6, n7, n8⟩ := markC c (by omega)
    obtain ⟨m, r', m1, m2, m3, m4, m5, m6, m7, m8⟩ := markC r1 e3
    cases r2 <;> simp only [toCentre_r c (show c.tot ≤ 1048576 by omega), cl_some, e1, e2, eqC_mk r1 e3, eqCentre_r c (show c.tot ≤ 1048576 by omega), br_t, n2, n4, n5, n6, n7, gd_True, nneg (show (0 : Int) ≤ 1 by omega), if_false, m2, m3, m4, m5, m6, m7, m8, R_eq, decide_true, decide_false, br_f]
end Go.Vs
namespace Go.Proofs.Ytieeagobedjogaa.fnExactSetPlan
open Go.Vs Go.RowKit Go.WideShapes Go.ChangeShapes
set_option linter.unusedVariables false
set_option maxRecDepth 100000
theorem given (as0 : List A) (h : ArgsIs Try.prog 8 Try.f18.params.toList as0) : Go.Vs.Fn Try.prog 18 as0 (.c (.r (.v (.bool true)))) := by
  rw [Try.params18] at h
  obtain ⟨x0, xs0, rfl, ⟨ts0, t0, q0⟩, h⟩ := h
  rw [show tyOf Try.prog 8 27 = some [.sl [.int .i64, .int .i64], .sl [.int .i64, .int .i64, .sl [.int .i64, .int .i64]], .sl [.int .i64, .sl [.int .i64, .int .i64]], .sl [.int .i64], .int .i64] from by kernel_rfl] at t0
  cases t0
  rw [show aggT Try.prog 27 = true from by kernel_rfl] at q0
  obtain ⟨r0, rfl, q0⟩ := q0
  obtain ⟨a0, rfl, w0⟩ := is_Centre r0 q0
  obtain ⟨x1, xs1, rfl, ⟨ts1, t1, q1⟩, h⟩ := h
  rw [show tyOf Try.prog 8 3 = some [.int .i64] from by kernel_rfl] at t1
  cases t1
  rw [show aggT Try.prog 3 = false from by kernel_rfl] at q1
  obtain ⟨r1, rfl, q1⟩ := q1
  obtain ⟨_, _, e1, q1, e1_⟩ := is_cons q1
  cases e1
  obtain ⟨a1, rfl⟩ := is_int q1
  obtain ⟨x2, xs2, rfl, ⟨ts2, t2, q2⟩, h⟩ := h
  rw [show tyOf Try.prog 8 3 = some [.int .i64] from by kernel_rfl] at t2
  cases t2
  rw [show aggT Try.prog 3 = false from by kernel_rfl] at q2
  obtain ⟨r2, rfl, q2⟩ := q2
  obtain ⟨_, _, e2, q2, e2_⟩ := is_cons q2
  cases e2
  obtain ⟨a2, rfl⟩ := is_int q2
  have h := h
  subst h
  exact c_L_FnExactSetPlan rfl rfl (law18 _ _ _ w0)
theorem lifted (os : Os) (started : os.Started) (H : Type) (enc : TypeId × Value → H) :
    ReturnsInHanded {} Try.checked os 18 .any (Rows.fnExactSetPlanSpec.pre6 enc Try.prog Try.f18 Rows.fnExactSetPlanRow.domain false) (Rows.fnExactSetPlanSpec.post enc Try.prog Try.f18 false true false false) := by
  refine returnsInHanded_of_change (C := Try.checked) (s := Rows.fnExactSetPlanSpec) (by kernel_rfl) started (by kernel_rfl) Try.func18
    (ChangeSpec.witness6 (enc := enc) (C := Try.checked) false ⟨#[], #[.agg #[.slice none 0 0, .slice none 0 0, .slice none 0 0, .slice none 0 0, .int .i64 0], .int .i64 0, .int .i64 0], []⟩ 8 (by kernel_rfl) (by kernel_rfl) (by kernel_rfl) (by kernel_rfl)) ?_
  intro W base args ds gs before hval hW _ _
  refine law_contract (n := 8) (tb := 4) rfl rfl Try.underlying4 (by kernel_rfl) (by kernel_rfl) (fun ds hl => ?_) given W base args ds gs before hval hW
  rw [Try.params18] at hl
  match ds, hl with
  | [d0, d1, d2], _ => exact ⟨rfl, rfl, rfl⟩
theorem facts : joinedFacts Try.prog 18 Try.f18 Rows.fnExactSetPlanSpec Rows.fnExactSetPlanRow = true := by
  unfold joinedFacts
  exact (and_i (and_i (and_i (and_i (and_i (and_i (and_i (and_i (and_i (and_i (and_i (and_i (and_i (and_i (and_i (and_i (and_i (and_i (and_i (and_i (and_i (and_i (and_i (and_i (and_i (and_i (and_i (and_i (and_i (and_i (and_i (by kernel_rfl) io_laid) io_maps) (by kernel_rfl)) (by kernel_rfl)) (by kernel_rfl)) (by kernel_rfl)) (by kernel_rfl)) (by kernel_rfl)) (by kernel_rfl)) (by kernel_rfl)) (by kernel_rfl)) (by kernel_rfl)) (by kernel_rfl)) (by kernel_rfl)) (by kernel_rfl)) (by kernel_rfl)) (by kernel_rfl)) (by kernel_rfl)) (by kernel_rfl)) (by kernel_rfl)) (by kernel_rfl)) (by kernel_rfl)) (by kernel_rfl)) io_heard) io_enter) (by rw [io_final]; rfl)) (by rw [io_make]; rfl)) (by kernel_rfl)) (by kernel_rfl)) (by kernel_rfl)) (by kernel_rfl))
theorem holds : Rows.FnExactSetPlanSaid :=
  OpenClaim.holds_of_wide 18 Try.f18 rfl rfl rfl rfl rfl rfl rfl ⟨rfl, rfl, rfl, rfl, rfl⟩ rfl rfl rfl rfl rfl (by kernel_rfl) Try.func18 facts
    (of_decide_eq_true (by kernel_rfl)) (by unfold Func.isWrapper; first | (rw [if_pos (by decide +kernel)]; kernel_rfl) | (rw [if_neg (by decide +kernel)]; exact ⟨rfl, rfl⟩))
    (fun os started H enc _ => lifted os started H enc)
end Go.Proofs.Ytieeagobedjogaa.fnExactSetPlan
