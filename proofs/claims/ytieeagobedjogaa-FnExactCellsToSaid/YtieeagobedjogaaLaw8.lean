/- The law FnExactCellsTo holds: whatever its arguments, the call returns true and leaves them as they were. No condition. -/
import Derived.Test.YtieeagobedjogaaPlain
import Derived.Test.YtieeagobedjogaaLah
import Derived.Test.YtieeagobedjogaaIs
import Derived.Test.YtieeagobedjogaaOrder
import Derived.Test.YtieeagobedjogaaRows
set_option linter.unusedVariables false
set_option linter.unusedSimpArgs false
set_option linter.unusedSectionVars false
namespace Go.Vs
open Go.IntWalk
theorem cellsTo_eq (c : Centre) (h : c.tot ≤ 1048576) (a b : Int) : ∃ r, I_CellsTo G.real TE.real c a b = some r ∧ S_CellsTo G.real TE.real c a b = some r := by
  unfold I_CellsTo S_CellsTo
  rw [iCentre_r c h, sCentre_r c h]
  unfold Centre.tot at h
  simp only [cl_some, lP_eq, l1In_r, br_dec, llen_Item, llen_Chute, R_lt, R_le, R_sub, R_nat, R_eq, R_rem, R_add]
  rw [w64 (n := (c.Belt.length : Int) - 1) (by omega) (by omega), w64 (n := (c.Chutes.length : Int) - 1) (by omega) (by omega)]
  by_cases hc : IsC c
  · simp only [hc, if_true]
    have hb := hc.belt
    by_cases h1 : 0 ≤ a ∧ a ≤ (c.Belt.length : Int) - 1
    · rw [if_neg (by omega), if_neg (by omega), if_pos h1]
      by_cases h2 : 0 ≤ b ∧ b ≤ (c.Chutes.length : Int) - 1
      · rw [if_neg (by omega), if_neg (by omega), if_pos h2, gd_true (by omega), gd_true (by omega)]
        obtain ⟨x, hx, hm⟩ := getL (l := c.Chutes) h2.1 (by omega)
        obtain ⟨q1, q2, _⟩ := hc.cell hm
        rw [gt_some hx, gt_some hx, gd_true (by omega), w64 (n := x.Cell - a) (by omega) (by omega), w64 (n := x.Cell - a + c.Belt.length) (by omega) (by omega)]
        have e : (x.Cell - a + c.Belt.length).tmod c.Belt.length = if x.Cell - a < 0 then x.Cell - a + c.Belt.length else x.Cell - a := by
          rw [Int.tmod_eq_emod_of_nonneg (by omega)]
          split
          · rw [Int.emod_eq_of_lt (by omega) (by omega)]
          · rw [Int.add_emod_right, Int.emod_eq_of_lt (by omega) (by omega)]
        rw [e]
        by_cases h3 : x.Cell - a < 0
        · rw [if_pos h3, if_neg (by omega), if_pos (by omega)]; exact ⟨_, rfl, rfl⟩
        · rw [if_neg h3]
          by_cases h4 : x.Cell - a = 0
          · rw [if_pos h4, if_pos (by omega), h4, Int.zero_add]; exact ⟨_, rfl, rfl⟩
          · rw [if_neg h4, if_neg (by omega)]; exact ⟨_, rfl, rfl⟩
      · rw [if_neg h2]
        refine ⟨-1, ?_, rfl⟩
        split
        · rfl
        · rw [if_pos (by omega)]
    · rw [if_neg h1]
      refine ⟨-1, ?_, rfl⟩
      split
      · rfl
      · rw [if_pos (by omega)]
  · simp only [hc, if_false]
    exact ⟨_, rfl, rfl⟩
theorem law8 (c : Centre) (a b : Int) (hw : c.wd) : L_FnExactCellsTo G.real TE.real c a b = some true := by
  unfold L_FnExactCellsTo
  rw [szCentre_r c _ (by omega) (by omega) hw]
  simp only [lP_eq, R_lt, br_dec]
  by_cases h : szOut 1048576 c.tot < 0
  · rw [if_pos h]
  · have := szOut_pos h
    rw [if_neg h, toCentre_r c (by omega)]
    obtain ⟨r, e1, e2⟩ := cellsTo_eq c (by omega) a b
    simp [e1, e2, eqCentre_r c (by omega)]
end Go.Vs
namespace Go.Proofs.Ytieeagobedjogaa.fnExactCellsTo
open Go.Vs Go.RowKit Go.WideShapes Go.ChangeShapes
set_option linter.unusedVariables false
set_option maxRecDepth 100000
theorem given (as0 : List A) (h : ArgsIs Try.prog 8 Try.f8.params.toList as0) : Go.Vs.Fn Try.prog 8 as0 (.c (.r (.v (.bool true)))) := by
  rw [Try.params8] at h
  obtain ⟨x0, xs0, rfl, ⟨ts0, t0, q0⟩, h⟩ := h
  rw [show tyOf Try.prog 8 27 = some [.sl [.int .i64, .int .i64], .sl [.int .i64, .int .i64, .sl [.int .i64, .int .i64]], .sl [.int .i64, .sl [.int .i64, .int .i64]], .sl [.int .i64], .int .i64] from by kernel_rfl] at t0
  cases t0
  rw [show aggT Try.prog 27 = true from by kernel_rfl] at q0
  obtain ⟨r0, rfl, q0⟩ := q0
  obtain ⟨a0, rfl, w0⟩ := is_Centre r0 q0
  obtain ⟨x1, xs1, rfl, ⟨ts1, t1, q1⟩, h⟩ := h
  rw [show tyOf Try.prog 8 3 = some [.int .i64] from by kernel_rfl] at t1
  cases t1
  rw [show aggT Try.prog 3 = false from by kernel_rfl] at q1
  obtain ⟨r1, rfl, q1⟩ := q1
  obtain ⟨_, _, e1, q1, e1_⟩ := is_cons q1
  cases e1
  obtain ⟨a1, rfl⟩ := is_int q1
  obtain ⟨x2, xs2, rfl, ⟨ts2, t2, q2⟩, h⟩ := h
  rw [show tyOf Try.prog 8 3 = some [.int .i64] from by kernel_rfl] at t2
  cases t2
  rw [show aggT Try.prog 3 = false from by kernel_rfl] at q2
  obtain ⟨r2, rfl, q2⟩ := q2
  obtain ⟨_, _, e2, q2, e2_⟩ := is_cons q2
  cases e2
  obtain ⟨a2, rfl⟩ := is_int q2
  have h := h
  subst h
  exact c_L_FnExactCellsTo rfl rfl (law8 _ _ _ w0)
theorem lifted (os : Os) (started : os.Started) (H : Type) (enc : TypeId × Value → H) :
    ReturnsInHanded {} Try.checked os 8 .any (Rows.fnExactCellsToSpec.pre6 enc Try.prog Try.f8 Rows.fnExactCellsToRow.domain false) (Rows.fnExactCellsToSpec.post enc Try.prog Try.f8 false true false false) := by
  refine returnsInHanded_of_change (C := Try.checked) (s := Rows.fnExactCellsToSpec) (by kernel_rfl) started (by kernel_rfl) Try.func8
    (ChangeSpec.witness6 (enc := enc) (C := Try.checked) false ⟨#[], #[.agg #[.slice none 0 0, .slice none 0 0, .slice none 0 0, .slice none 0 0, .int .i64 0], .int .i64 0, .int .i64 0], []⟩ 8 (by kernel_rfl) (by kernel_rfl) (by kernel_rfl) (by kernel_rfl)) ?_
  intro W base args ds gs before hval hW _ _
  refine law_contract (n := 8) (tb := 4) rfl rfl Try.underlying4 (by kernel_rfl) (by kernel_rfl) (fun ds hl => ?_) given W base args ds gs before hval hW
  rw [Try.params8] at hl
  match ds, hl with
  | [d0, d1, d2], _ => exact ⟨rfl, rfl, rfl⟩
theorem facts : joinedFacts Try.prog 8 Try.f8 Rows.fnExactCellsToSpec Rows.fnExactCellsToRow = true := by
  unfold joinedFacts
  exact (and_i (and_i (and_i (and_i (and_i (and_i (and_i (and_i (and_i (and_i (and_i (and_i (and_i (and_i (and_i (and_i (and_i (and_i (and_i (and_i (and_i (and_i (and_i (and_i (and_i (and_i (and_i (and_i (and_i (and_i (and_i (by kernel_rfl) io_laid) io_maps) (by kernel_rfl)) (by kernel_rfl)) (by kernel_rfl)) (by kernel_rfl)) (by kernel_rfl)) (by kernel_rfl)) (by kernel_rfl)) (by kernel_rfl)) (by kernel_rfl)) (by kernel_rfl)) (by kernel_rfl)) (by kernel_rfl)) (by kernel_rfl)) (by kernel_rfl)) (by kernel_rfl)) (by kernel_rfl)) (by kernel_rfl)) (by kernel_rfl)) (by kernel_rfl)) (by kernel_rfl)) (by kernel_rfl)) io_heard) io_enter) (by rw [io_final]; rfl)) (by rw [io_make]; rfl)) (by kernel_rfl)) (by kernel_rfl)) (by kernel_rfl)) (by kernel_rfl))
theorem holds : Rows.FnExactCellsToSaid :=
  OpenClaim.holds_of_wide 8 Try.f8 rfl rfl rfl rfl rfl rfl rfl ⟨rfl, rfl, rfl, rfl, rfl⟩ rfl rfl rfl rfl rfl (by kernel_rfl) Try.func8 facts
    (of_decide_eq_true (by kernel_rfl)) (by unfold Func.isWrapper; first | (rw [if_pos (by decide +kernel)]; kernel_rfl) | (rw [if_neg (by decide +kernel)]; exact ⟨rfl, rfl⟩))
    (fun os started H enc _ => lifted os started H enc)
end Go.Proofs.Ytieeagobedjogaa.fnExactCellsTo
