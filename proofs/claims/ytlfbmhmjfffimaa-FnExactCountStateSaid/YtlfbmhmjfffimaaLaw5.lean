/- The law FnExactCountState holds: whatever its arguments, the call returns true and leaves them as they were. No condition. -/
import Derived.Test.YtlfbmhmjfffimaaHb
import Derived.Test.YtlfbmhmjfffimaaL6a
import Derived.Test.YtlfbmhmjfffimaaIs
import Derived.Test.YtlfbmhmjfffimaaOrder
import Derived.Test.YtlfbmhmjfffimaaRows
set_option linter.unusedVariables false
set_option linter.unusedSimpArgs false
set_option linter.unusedSectionVars false
namespace Go.Vs
open Go.IntWalk
theorem countState_l1 (a : Int) (l : List Order) : ∀ (v : Int), S_CountState_l1 G.real TE.real a l v = I_CountState_l1 G.real TE.real a l v := by
  induction l with
  | nil => intro v; rfl
  | cons z l ih => intro v; rw [S_CountState_l1, I_CountState_l1, ih, ih]
theorem countState_eq (a : Int) (c : World) : S_CountState G.real TE.real c a = I_CountState G.real TE.real c a := by
  unfold S_CountState I_CountState
  rw [countState_l1]
theorem law5 (c : World) (a : Int) (hw : c.wd) : L_FnExactCountState G.real TE.real c a = some true := by
  unfold L_FnExactCountState
  rw [szWorld_r c _ (by omega) (by omega) hw]
  simp only [lP_eq, R_lt, br_dec]
  by_cases h : szOut 1048576 c.tot < 0
  · rw [if_pos h]
  · have := szOut_pos h
    rw [if_neg h, toWorld_r c (by omega)]
    simp [countState_eq, eqWorld_r c (by omega)]
end Go.Vs
namespace Go.Proofs.Ytlfbmhmjfffimaa.fnExactCountState
open Go.Vs Go.RowKit Go.WideShapes Go.ChangeShapes
set_option linter.unusedVariables false
set_option maxRecDepth 100000
theorem given (as0 : List A) (h : ArgsIs Try.prog 8 Try.f5.params.toList as0) : Go.Vs.Fn Try.prog 5 as0 (.c (.r (.v (.bool true)))) := by
  rw [Try.params5] at h
  obtain ⟨x0, xs0, rfl, ⟨ts0, t0, q0⟩, h⟩ := h
  rw [show tyOf Try.prog 8 53 = some [.sl [.str, .str, .int .i64, .int .i64, .int .i64, .int .i64], .sl [.int .i64], .int .i64, .sl [.str, .str, .int .i64, .int .i64, .int .i64, .int .i64, .sl [.int .i64, .int .i64], .int .i64, .int .i64, .str, .int .i64], .sl [.int .i64, .int .i64, .int .i64, .int .i64], .sl [.int .i64, .int .i64], .int .i64, .sl [.int .i64, .int .i64, .int .i64, .str, .int .i64, .int .i64], .sl [.int .i64], .int .i64] from by kernel_rfl] at t0
  cases t0
  rw [show aggT Try.prog 53 = true from by kernel_rfl] at q0
  obtain ⟨r0, rfl, q0⟩ := q0
  obtain ⟨a0, rfl, w0⟩ := is_World r0 q0
  obtain ⟨x1, xs1, rfl, ⟨ts1, t1, q1⟩, h⟩ := h
  rw [show tyOf Try.prog 8 3 = some [.int .i64] from by kernel_rfl] at t1
  cases t1
  rw [show aggT Try.prog 3 = false from by kernel_rfl] at q1
  obtain ⟨r1, rfl, q1⟩ := q1
  obtain ⟨_, _, e1, q1, e1_⟩ := is_cons q1
  cases e1
  obtain ⟨a1, rfl⟩ := is_int q1
  have h := h
  subst h
  exact c_L_FnExactCountState rfl rfl (law5 _ _ w0)
theorem lifted (os : Os) (started : os.Started) (H : Type) (enc : TypeId × Value → H) :
    ReturnsInHanded {} Try.checked os 5 .any (Rows.fnExactCountStateSpec.pre6 enc Try.prog Try.f5 Rows.fnExactCountStateRow.domain false) (Rows.fnExactCountStateSpec.post enc Try.prog Try.f5 false true false false) := by
  refine returnsInHanded_of_change (C := Try.checked) (s := Rows.fnExactCountStateSpec) (by kernel_rfl) started (by kernel_rfl) Try.func5
    (ChangeSpec.witness6 (enc := enc) (C := Try.checked) false ⟨#[], #[.agg #[.slice none 0 0, .slice none 0 0, .int .i64 0, .slice none 0 0, .slice none 0 0, .slice none 0 0, .int .i64 0, .slice none 0 0, .slice none 0 0, .int .i64 0], .int .i64 0], []⟩ 8 (by kernel_rfl) (by kernel_rfl) (by kernel_rfl) (by kernel_rfl)) ?_
  intro W base args ds gs before hval hW _ _
  refine law_contract (n := 8) (tb := 4) rfl rfl Try.underlying4 (by kernel_rfl) (by kernel_rfl) (fun ds hl => ?_) given W base args ds gs before hval hW
  rw [Try.params5] at hl
  match ds, hl with
  | [d0, d1], _ => exact ⟨rfl, rfl, rfl⟩
theorem facts : joinedFacts Try.prog 5 Try.f5 Rows.fnExactCountStateSpec Rows.fnExactCountStateRow = true := by
  unfold joinedFacts
  exact (and_i (and_i (and_i (and_i (and_i (and_i (and_i (and_i (and_i (and_i (and_i (and_i (and_i (and_i (and_i (and_i (and_i (and_i (and_i (and_i (and_i (and_i (and_i (and_i (and_i (and_i (and_i (and_i (and_i (and_i (and_i (by kernel_rfl) io_laid) io_maps) (by kernel_rfl)) (by kernel_rfl)) (by kernel_rfl)) (by kernel_rfl)) (by kernel_rfl)) (by kernel_rfl)) (by kernel_rfl)) (by kernel_rfl)) (by kernel_rfl)) (by kernel_rfl)) (by kernel_rfl)) (by kernel_rfl)) (by kernel_rfl)) (by kernel_rfl)) (by kernel_rfl)) (by kernel_rfl)) (by kernel_rfl)) (by kernel_rfl)) (by kernel_rfl)) (by kernel_rfl)) (by kernel_rfl)) io_heard) io_enter) (by rw [io_final]; rfl)) (by rw [io_make]; rfl)) (by kernel_rfl)) (by kernel_rfl)) (by kernel_rfl)) (by kernel_rfl))
theorem holds : Rows.FnExactCountStateSaid :=
  OpenClaim.holds_of_wide 5 Try.f5 rfl rfl rfl rfl rfl rfl rfl ⟨rfl, rfl, rfl, rfl, rfl⟩ rfl rfl rfl rfl rfl (by kernel_rfl) Try.func5 facts
    (of_decide_eq_true (by kernel_rfl)) (by unfold Func.isWrapper; first | (rw [if_pos (by decide +kernel)]; kernel_rfl) | (rw [if_neg (by decide +kernel)]; exact ⟨rfl, rfl⟩))
    (fun os started H enc _ => lifted os started H enc)
end Go.Proofs.Ytlfbmhmjfffimaa.fnExactCountState
