/- The law FnExactIsDrained holds: whatever its arguments, the call returns true and leaves them as they were. No condition. -/
import Derived.Test.YtieeagobedjogaaPlain
import Derived.Test.YtieeagobedjogaaLad
import Derived.Test.YtieeagobedjogaaIs
import Derived.Test.YtieeagobedjogaaOrder
import Derived.Test.YtieeagobedjogaaRows
set_option linter.unusedVariables false
set_option linter.unusedSimpArgs false
set_option linter.unusedSectionVars false
namespace Go.Vs
open Go.IntWalk
theorem isDrained_eq (c : Centre) (h : c.tot ≤ 1048576) : ∃ r, I_IsDrained G.real TE.real c = some r ∧ S_IsDrained G.real TE.real c = some r := by
  unfold I_IsDrained S_IsDrained
  rw [iCentre_r c h, sCentre_r c h, sCountBelt_eq, sCountWait_eq]
  simp only [cl_some, lP_eq]
  generalize I_CountBelt G.real TE.real c = x
  generalize I_CountWait G.real TE.real c = y
  by_cases hc : IsC c
  · simp only [hc, decide_true, br_t, R_eq, br_dec]
    by_cases hx : x = 0
    · simp [hx]
    · simp [hx]
  · simp [hc]
theorem law12 (c : Centre) (hw : c.wd) : L_FnExactIsDrained G.real TE.real c = some true := by
  unfold L_FnExactIsDrained
  rw [szCentre_r c _ (by omega) (by omega) hw]
  simp only [lP_eq, R_lt, br_dec]
  by_cases h : szOut 1048576 c.tot < 0
  · rw [if_pos h]
  · have := szOut_pos h
    rw [if_neg h, toCentre_r c (by omega)]
    obtain ⟨r, e1, e2⟩ := isDrained_eq c (by omega)
    simp only [cl_some, e1, e2, eqCentre_r c (by omega)]
    cases r <;> rfl
end Go.Vs
namespace Go.Proofs.Ytieeagobedjogaa.fnExactIsDrained
open Go.Vs Go.RowKit Go.WideShapes Go.ChangeShapes
set_option linter.unusedVariables false
set_option maxRecDepth 100000
theorem given (as0 : List A) (h : ArgsIs Try.prog 8 Try.f12.params.toList as0) : Go.Vs.Fn Try.prog 12 as0 (.c (.r (.v (.bool true)))) := by
  rw [Try.params12] at h
  obtain ⟨x0, xs0, rfl, ⟨ts0, t0, q0⟩, h⟩ := h
  rw [show tyOf Try.prog 8 27 = some [.sl [.int .i64, .int .i64], .sl [.int .i64, .int .i64, .sl [.int .i64, .int .i64]], .sl [.int .i64, .sl [.int .i64, .int .i64]], .sl [.int .i64], .int .i64] from by kernel_rfl] at t0
  cases t0
  rw [show aggT Try.prog 27 = true from by kernel_rfl] at q0
  obtain ⟨r0, rfl, q0⟩ := q0
  obtain ⟨a0, rfl, w0⟩ := is_Centre r0 q0
  have h := h
  subst h
  exact c_L_FnExactIsDrained rfl rfl (law12 _ w0)
theorem lifted (os : Os) (started : os.Started) (H : Type) (enc : TypeId × Value → H) :
    ReturnsInHanded {} Try.checked os 12 .any (Rows.fnExactIsDrainedSpec.pre6 enc Try.prog Try.f12 Rows.fnExactIsDrainedRow.domain false) (Rows.fnExactIsDrainedSpec.post enc Try.prog Try.f12 false true false false) := by
  refine returnsInHanded_of_change (C := Try.checked) (s := Rows.fnExactIsDrainedSpec) (by kernel_rfl) started (by kernel_rfl) Try.func12
    (ChangeSpec.witness6 (enc := enc) (C := Try.checked) false ⟨#[], #[.agg #[.slice none 0 0, .slice none 0 0, .slice none 0 0, .slice none 0 0, .int .i64 0]], []⟩ 8 (by kernel_rfl) (by kernel_rfl) (by kernel_rfl) (by kernel_rfl)) ?_
  intro W base args ds gs before hval hW _ _
  refine law_contract (n := 8) (tb := 4) rfl rfl Try.underlying4 (by kernel_rfl) (by kernel_rfl) (fun ds hl => ?_) given W base args ds gs before hval hW
  rw [Try.params12] at hl
  match ds, hl with
  | [d0], _ => exact ⟨rfl, rfl, rfl⟩
theorem facts : joinedFacts Try.prog 12 Try.f12 Rows.fnExactIsDrainedSpec Rows.fnExactIsDrainedRow = true := by
  unfold joinedFacts
  exact (and_i (and_i (and_i (and_i (and_i (and_i (and_i (and_i (and_i (and_i (and_i (and_i (and_i (and_i (and_i (and_i (and_i (and_i (and_i (and_i (and_i (and_i (and_i (and_i (and_i (and_i (and_i (and_i (and_i (and_i (and_i (by kernel_rfl) io_laid) io_maps) (by kernel_rfl)) (by kernel_rfl)) (by kernel_rfl)) (by kernel_rfl)) (by kernel_rfl)) (by kernel_rfl)) (by kernel_rfl)) (by kernel_rfl)) (by kernel_rfl)) (by kernel_rfl)) (by kernel_rfl)) (by kernel_rfl)) (by kernel_rfl)) (by kernel_rfl)) (by kernel_rfl)) (by kernel_rfl)) (by kernel_rfl)) (by kernel_rfl)) (by kernel_rfl)) (by kernel_rfl)) (by kernel_rfl)) io_heard) io_enter) (by rw [io_final]; rfl)) (by rw [io_make]; rfl)) (by kernel_rfl)) (by kernel_rfl)) (by kernel_rfl)) (by kernel_rfl))
theorem holds : Rows.FnExactIsDrainedSaid :=
  OpenClaim.holds_of_wide 12 Try.f12 rfl rfl rfl rfl rfl rfl rfl ⟨rfl, rfl, rfl, rfl, rfl⟩ rfl rfl rfl rfl rfl (by kernel_rfl) Try.func12 facts
    (of_decide_eq_true (by kernel_rfl)) (by unfold Func.isWrapper; first | (rw [if_pos (by decide +kernel)]; kernel_rfl) | (rw [if_neg (by decide +kernel)]; exact ⟨rfl, rfl⟩))
    (fun os started H enc _ => lifted os started H enc)
end Go.Proofs.Ytieeagobedjogaa.fnExactIsDrained
