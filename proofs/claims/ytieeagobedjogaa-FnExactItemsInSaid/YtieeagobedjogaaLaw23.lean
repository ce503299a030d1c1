/- The law FnExactItemsIn holds: whatever its arguments, the call returns true and leaves them as they were. No condition. -/
import Derived.Test.YtieeagobedjogaaItems
import Derived.Test.YtieeagobedjogaaMarks
import Derived.Test.YtieeagobedjogaaLac
import Derived.Test.YtieeagobedjogaaIs
import Derived.Test.YtieeagobedjogaaOrder
import Derived.Test.YtieeagobedjogaaRows
set_option linter.unusedVariables false
set_option linter.unusedSimpArgs false
set_option linter.unusedSectionVars false
namespace Go.Vs
open Go.IntWalk
theorem items_eq (c : Centre) (h : c.tot ≤ 1048576) : ∃ r : List Int, I_ItemsIn G.real TE.real c = some r ∧ S_ItemsIn G.real TE.real c = some r ∧ r.length ≤ 1048576 := by
  refine ⟨_, iItems_r c h, sItems_r c h, ?_⟩
  have := items_len c
  split
  · rw [srt_len]; simp; omega
  · simp
theorem law23 (c : Centre) (hw : c.wd) : L_FnExactItemsIn G.real TE.real c = some true := by
  unfold L_FnExactItemsIn
  rw [szCentre_r c _ (by omega) (by omega) hw]
  simp only [lP_eq, R_lt, br_dec]
  by_cases h : szOut 1048576 c.tot < 0
  · rw [if_pos h]
  · have := szOut_pos h
    rw [if_neg h]
    obtain ⟨r, e1, e2, e3⟩ := items_eq c (by omega)
    obtain ⟨n, c', n1, n2, n3, n4, n5, n6, n7, n8⟩ := markC c (by omega)
    obtain ⟨l', q1, q2, q3⟩ := markI64 r 1 (by omega) (by have := cntI64_le r; omega) (by omega)
    have z1 : ((1 : Int) + (cntI64 r : Nat) < 0) = False := by simp; omega
    simp only [toCentre_r c (show c.tot ≤ 1048576 by omega), cl_some, e1, e2, eqIntS_r r e3, eqCentre_r c (show c.tot ≤ 1048576 by omega), br_t, n2, n4, n5, n6, n7, gd_True, nneg (show (0 : Int) ≤ 1 by omega), if_false, q1, q2, q3, z1, R_eq, decide_true]
end Go.Vs
namespace Go.Proofs.Ytieeagobedjogaa.fnExactItemsIn
open Go.Vs Go.RowKit Go.WideShapes Go.ChangeShapes
set_option linter.unusedVariables false
set_option maxRecDepth 100000
theorem given (as0 : List A) (h : ArgsIs Try.prog 8 Try.f23.params.toList as0) : Go.Vs.Fn Try.prog 23 as0 (.c (.r (.v (.bool true)))) := by
  rw [Try.params23] at h
  obtain ⟨x0, xs0, rfl, ⟨ts0, t0, q0⟩, h⟩ := h
  rw [show tyOf Try.prog 8 27 = some [.sl [.int .i64, .int .i64], .sl [.int .i64, .int .i64, .sl [.int .i64, .int .i64]], .sl [.int .i64, .sl [.int .i64, .int .i64]], .sl [.int .i64], .int .i64] from by kernel_rfl] at t0
  cases t0
  rw [show aggT Try.prog 27 = true from by kernel_rfl] at q0
  obtain ⟨r0, rfl, q0⟩ := q0
  obtain ⟨a0, rfl, w0⟩ := is_Centre r0 q0
  have h := h
  subst h
  exact c_L_FnExactItemsIn rfl rfl (law23 _ w0)
theorem lifted (os : Os) (started : os.Started) (H : Type) (enc : TypeId × Value → H) :
    ReturnsInHanded {} Try.checked os 23 .any (Rows.fnExactItemsInSpec.pre6 enc Try.prog Try.f23 Rows.fnExactItemsInRow.domain false) (Rows.fnExactItemsInSpec.post enc Try.prog Try.f23 false true false false) := by
  refine returnsInHanded_of_change (C := Try.checked) (s := Rows.fnExactItemsInSpec) (by kernel_rfl) started (by kernel_rfl) Try.func23
    (ChangeSpec.witness6 (enc := enc) (C := Try.checked) false ⟨#[], #[.agg #[.slice none 0 0, .slice none 0 0, .slice none 0 0, .slice none 0 0, .int .i64 0]], []⟩ 8 (by kernel_rfl) (by kernel_rfl) (by kernel_rfl) (by kernel_rfl)) ?_
  intro W base args ds gs before hval hW _ _
  refine law_contract (n := 8) (tb := 4) rfl rfl Try.underlying4 (by kernel_rfl) (by kernel_rfl) (fun ds hl => ?_) given W base args ds gs before hval hW
  rw [Try.params23] at hl
  match ds, hl with
  | [d0], _ => exact ⟨rfl, rfl, rfl⟩
theorem facts : joinedFacts Try.prog 23 Try.f23 Rows.fnExactItemsInSpec Rows.fnExactItemsInRow = true := by
  unfold joinedFacts
  exact (and_i (and_i (and_i (and_i (and_i (and_i (and_i (and_i (and_i (and_i (and_i (and_i (and_i (and_i (and_i (and_i (and_i (and_i (and_i (and_i (and_i (and_i (and_i (and_i (and_i (and_i (and_i (and_i (and_i (and_i (and_i (by kernel_rfl) io_laid) io_maps) (by kernel_rfl)) (by kernel_rfl)) (by kernel_rfl)) (by kernel_rfl)) (by kernel_rfl)) (by kernel_rfl)) (by kernel_rfl)) (by kernel_rfl)) (by kernel_rfl)) (by kernel_rfl)) (by kernel_rfl)) (by kernel_rfl)) (by kernel_rfl)) (by kernel_rfl)) (by kernel_rfl)) (by kernel_rfl)) (by kernel_rfl)) (by kernel_rfl)) (by kernel_rfl)) (by kernel_rfl)) (by kernel_rfl)) io_heard) io_enter) (by rw [io_final]; rfl)) (by rw [io_make]; rfl)) (by kernel_rfl)) (by kernel_rfl)) (by kernel_rfl)) (by kernel_rfl))
theorem holds : Rows.FnExactItemsInSaid :=
  OpenClaim.holds_of_wide 23 Try.f23 rfl rfl rfl rfl rfl rfl rfl ⟨rfl, rfl, rfl, rfl, rfl⟩ rfl rfl rfl rfl rfl (by kernel_rfl) Try.func23 facts
    (of_decide_eq_true (by kernel_rfl)) (by unfold Func.isWrapper; first | (rw [if_pos (by decide +kernel)]; kernel_rfl) | (rw [if_neg (by decide +kernel)]; exact ⟨rfl, rfl⟩))
    (fun os started H enc _ => lifted os started H enc)
end Go.Proofs.Ytieeagobedjogaa.fnExactItemsIn
