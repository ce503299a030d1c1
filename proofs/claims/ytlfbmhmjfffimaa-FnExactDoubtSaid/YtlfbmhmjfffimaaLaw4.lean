/- The law FnExactDoubt holds: whatever its arguments, the call returns true and leaves them as they were. No condition. -/
import Derived.Test.YtlfbmhmjfffimaaHb
import Derived.Test.YtlfbmhmjfffimaaL4a
import Derived.Test.YtlfbmhmjfffimaaIs
import Derived.Test.YtlfbmhmjfffimaaOrder
import Derived.Test.YtlfbmhmjfffimaaRows
set_option linter.unusedVariables false
set_option linter.unusedSimpArgs false
set_option linter.unusedSectionVars false
namespace Go.Vs
open Go.IntWalk
theorem law4 (c : Belief) (hw : c.wd) : L_FnExactDoubt G.real TE.real c = some true := by
  unfold L_FnExactDoubt
  rw [szBelief_r c _ (by omega) (by omega) hw]
  simp only [lP_eq, R_lt, br_dec]
  by_cases h : szOut 1048576 c.tot < 0
  · rw [if_pos h]
  · have := szOut_pos h
    rw [if_neg h, toBelief_r c (by omega)]
    have e : S_Doubt G.real TE.real c = I_Doubt G.real TE.real c := rfl
    simp [e, eqBelief_r c (by omega)]
end Go.Vs
namespace Go.Proofs.Ytlfbmhmjfffimaa.fnExactDoubt
open Go.Vs Go.RowKit Go.WideShapes Go.ChangeShapes
set_option linter.unusedVariables false
set_option maxRecDepth 100000
theorem given (as0 : List A) (h : ArgsIs Try.prog 8 Try.f4.params.toList as0) : Go.Vs.Fn Try.prog 4 as0 (.c (.r (.v (.bool true)))) := by
  rw [Try.params4] at h
  obtain ⟨x0, xs0, rfl, ⟨ts0, t0, q0⟩, h⟩ := h
  rw [show tyOf Try.prog 8 36 = some [.sl [.str], .sl [.int .i64, .int .i64]] from by kernel_rfl] at t0
  cases t0
  rw [show aggT Try.prog 36 = true from by kernel_rfl] at q0
  obtain ⟨r0, rfl, q0⟩ := q0
  obtain ⟨a0, rfl, w0⟩ := is_Belief r0 q0
  have h := h
  subst h
  exact c_L_FnExactDoubt rfl rfl (law4 _ w0)
theorem lifted (os : Os) (started : os.Started) (H : Type) (enc : TypeId × Value → H) :
    ReturnsInHanded {} Try.checked os 4 .any (Rows.fnExactDoubtSpec.pre6 enc Try.prog Try.f4 Rows.fnExactDoubtRow.domain false) (Rows.fnExactDoubtSpec.post enc Try.prog Try.f4 false true false false) := by
  refine returnsInHanded_of_change (C := Try.checked) (s := Rows.fnExactDoubtSpec) (by kernel_rfl) started (by kernel_rfl) Try.func4
    (ChangeSpec.witness6 (enc := enc) (C := Try.checked) false ⟨#[], #[.agg #[.slice none 0 0, .slice none 0 0]], []⟩ 8 (by kernel_rfl) (by kernel_rfl) (by kernel_rfl) (by kernel_rfl)) ?_
  intro W base args ds gs before hval hW _ _
  refine law_contract (n := 8) (tb := 4) rfl rfl Try.underlying4 (by kernel_rfl) (by kernel_rfl) (fun ds hl => ?_) given W base args ds gs before hval hW
  rw [Try.params4] at hl
  match ds, hl with
  | [d0], _ => exact ⟨rfl, rfl, rfl⟩
theorem facts : joinedFacts Try.prog 4 Try.f4 Rows.fnExactDoubtSpec Rows.fnExactDoubtRow = true := by
  unfold joinedFacts
  exact (and_i (and_i (and_i (and_i (and_i (and_i (and_i (and_i (and_i (and_i (and_i (and_i (and_i (and_i (and_i (and_i (and_i (and_i (and_i (and_i (and_i (and_i (and_i (and_i (and_i (and_i (and_i (and_i (and_i (and_i (and_i (by kernel_rfl) io_laid) io_maps) (by kernel_rfl)) (by kernel_rfl)) (by kernel_rfl)) (by kernel_rfl)) (by kernel_rfl)) (by kernel_rfl)) (by kernel_rfl)) (by kernel_rfl)) (by kernel_rfl)) (by kernel_rfl)) (by kernel_rfl)) (by kernel_rfl)) (by kernel_rfl)) (by kernel_rfl)) (by kernel_rfl)) (by kernel_rfl)) (by kernel_rfl)) (by kernel_rfl)) (by kernel_rfl)) (by kernel_rfl)) (by kernel_rfl)) io_heard) io_enter) (by rw [io_final]; rfl)) (by rw [io_make]; rfl)) (by kernel_rfl)) (by kernel_rfl)) (by kernel_rfl)) (by kernel_rfl))
theorem holds : Rows.FnExactDoubtSaid :=
  OpenClaim.holds_of_wide 4 Try.f4 rfl rfl rfl rfl rfl rfl rfl ⟨rfl, rfl, rfl, rfl, rfl⟩ rfl rfl rfl rfl rfl (by kernel_rfl) Try.func4 facts
    (of_decide_eq_true (by kernel_rfl)) (by unfold Func.isWrapper; first | (rw [if_pos (by decide +kernel)]; kernel_rfl) | (rw [if_neg (by decide +kernel)]; exact ⟨rfl, rfl⟩))
    (fun os started H enc _ => lifted os started H enc)
end Go.Proofs.Ytlfbmhmjfffimaa.fnExactDoubt
