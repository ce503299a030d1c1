/- The law FnExactClearChute holds: whatever its arguments, the call returns true and leaves them as they were. No condition. -/
import Derived.Test.YtieeagobedjogaaMarks
import Derived.Test.YtieeagobedjogaaLad
import Derived.Test.YtieeagobedjogaaIs
import Derived.Test.YtieeagobedjogaaOrder
import Derived.Test.YtieeagobedjogaaRows
set_option linter.unusedVariables false
set_option linter.unusedSimpArgs false
set_option linter.unusedSectionVars false
namespace Go.Vs
open Go.IntWalk
theorem clearChute_eq (c : Centre) (h : c.tot ≤ 1048576) (a : Int) : ∃ r : Centre × List Item, I_ClearChute G.real TE.real c a = some r ∧ S_ClearChute G.real TE.real c a = some r ∧ r.1.tot ≤ 1048576 ∧ r.2.length ≤ 1048576 := by
  have h0 := h
  obtain ⟨k1, k2⟩ := copy_r c (by omega)
  unfold I_ClearChute S_ClearChute
  rw [iCentre_r c h, sCentre_r c h, k1, k2]
  unfold Centre.tot at h
  simp only [cl_some, lP_eq, l1In_r, br_dec, llen_Item, llen_Chute, dlenx_Chute, R_lt, R_le, R_sub, R_nat]
  rw [w64 (n := (c.Chutes.length : Int) - 1) (by omega) (by omega)]
  by_cases hc : IsC c
  · simp only [hc, if_true]
    by_cases h2 : 0 ≤ a ∧ a ≤ (c.Chutes.length : Int) - 1
    · rw [if_neg (by omega), if_neg (by omega), if_pos h2]
      obtain ⟨x, hx, hm⟩ := getL (l := c.Chutes) h2.1 (by omega)
      have ht := tot_ch hm
      rw [gd_true (by omega), gt_some hx, gd_true (by omega), gt_some hx, gd_true (by omega), gt_some hx, gd_true (by omega), gt_some hx, copyItems_r _ (by omega), l7Items_r _ (by omega)]
      refine ⟨_, rfl, rfl, ?_, by simp only; omega⟩
      have := tot_set_ch (y := ⟨x.Cell, x.Room, []⟩) hx _ rfl
      unfold Centre.tot
      simp only [List.length_set]
      simp only [Chute.tot, List.length_nil] at *
      omega
    · rw [if_neg h2]
      refine ⟨(c, []), ?_, rfl, h0, by simp⟩
      split
      · rfl
      · rw [if_pos (by omega)]
  · simp only [hc, if_false]
    exact ⟨_, rfl, rfl, h0, by simp⟩
theorem law17 (c : Centre) (a : Int) (hw : c.wd) : L_FnExactClearChute G.real TE.real c a = some true := by
  unfold L_FnExactClearChute
  rw [szCentre_r c _ (by omega) (by omega) hw]
  simp only [lP_eq, R_lt, br_dec]
  by_cases h : szOut 1048576 c.tot < 0
  · rw [if_pos h]
  · have := szOut_pos h
    rw [if_neg h]
    obtain ⟨⟨r1, r2⟩, e1, e2, e3, e4⟩ := clearChute_eq c (by omega) a
    simp only at e3 e4
    obtain ⟨n, c', n1, n2, n3, n4, n5, n6, n7, n8⟩ := markC c (by omega)
    obtain ⟨m, r', m1, m2, m3, m4, m5, m6, m7, m8⟩ := markC r1 e3
    obtain ⟨l', q1, q2, q3⟩ := markItem r2 (1 + (m : Int)) (by omega) (by have := cntItem_le r2; omega) (by omega)
    have z1 : ((1 : Int) + (m : Int) + (cntItem r2 : Nat) < 0) = False := by simp; omega
    simp only [toCentre_r c (show c.tot ≤ 1048576 by omega), cl_some, e1, e2, eqC_mk r1 e3, eqItemS_r r2 e4, eqCentre_r c (show c.tot ≤ 1048576 by omega), br_t, n2, n4, n5, n6, n7, gd_True, nneg (show (0 : Int) ≤ 1 by omega), if_false, m2, m3, m4, m5, m6, m7, m8, q1, q2, q3, z1, R_eq, decide_true, decide_false, br_f]
end Go.Vs
namespace Go.Proofs.Ytieeagobedjogaa.fnExactClearChute
open Go.Vs Go.RowKit Go.WideShapes Go.ChangeShapes
set_option linter.unusedVariables false
set_option maxRecDepth 100000
theorem given (as0 : List A) (h : ArgsIs Try.prog 8 Try.f17.params.toList as0) : Go.Vs.Fn Try.prog 17 as0 (.c (.r (.v (.bool true)))) := by
  rw [Try.params17] at h
  obtain ⟨x0, xs0, rfl, ⟨ts0, t0, q0⟩, h⟩ := h
  rw [show tyOf Try.prog 8 27 = some [.sl [.int .i64, .int .i64], .sl [.int .i64, .int .i64, .sl [.int .i64, .int .i64]], .sl [.int .i64, .sl [.int .i64, .int .i64]], .sl [.int .i64], .int .i64] from by kernel_rfl] at t0
  cases t0
  rw [show aggT Try.prog 27 = true from by kernel_rfl] at q0
  obtain ⟨r0, rfl, q0⟩ := q0
  obtain ⟨a0, rfl, w0⟩ := is_Centre r0 q0
  obtain ⟨x1, xs1, rfl, ⟨ts1, t1, q1⟩, h⟩ := h
  rw [show tyOf Try.prog 8 3 = some [.int .i64] from by kernel_rfl] at t1
  cases t1
  rw [show aggT Try.prog 3 = false from by kernel_rfl] at q1
  obtain ⟨r1, rfl, q1⟩ := q1
  obtain ⟨_, _, e1, q1, e1_⟩ := is_cons q1
  cases e1
  obtain ⟨a1, rfl⟩ := is_int q1
  have h := h
  subst h
  exact c_L_FnExactClearChute rfl rfl (law17 _ _ w0)
theorem lifted (os : Os) (started : os.Started) (H : Type) (enc : TypeId × Value → H) :
    ReturnsInHanded {} Try.checked os 17 .any (Rows.fnExactClearChuteSpec.pre6 enc Try.prog Try.f17 Rows.fnExactClearChuteRow.domain false) (Rows.fnExactClearChuteSpec.post enc Try.prog Try.f17 false true false false) := by
  refine returnsInHanded_of_change (C := Try.checked) (s := Rows.fnExactClearChuteSpec) (by kernel_rfl) started (by kernel_rfl) Try.func17
    (ChangeSpec.witness6 (enc := enc) (C := Try.checked) false ⟨#[], #[.agg #[.slice none 0 0, .slice none 0 0, .slice none 0 0, .slice none 0 0, .int .i64 0], .int .i64 0], []⟩ 8 (by kernel_rfl) (by kernel_rfl) (by kernel_rfl) (by kernel_rfl)) ?_
  intro W base args ds gs before hval hW _ _
  refine law_contract (n := 8) (tb := 4) rfl rfl Try.underlying4 (by kernel_rfl) (by kernel_rfl) (fun ds hl => ?_) given W base args ds gs before hval hW
  rw [Try.params17] at hl
  match ds, hl with
  | [d0, d1], _ => exact ⟨rfl, rfl, rfl⟩
theorem facts : joinedFacts Try.prog 17 Try.f17 Rows.fnExactClearChuteSpec Rows.fnExactClearChuteRow = true := by
  unfold joinedFacts
  exact (and_i (and_i (and_i (and_i (and_i (and_i (and_i (and_i (and_i (and_i (and_i (and_i (and_i (and_i (and_i (and_i (and_i (and_i (and_i (and_i (and_i (and_i (and_i (and_i (and_i (and_i (and_i (and_i (and_i (and_i (and_i (by kernel_rfl) io_laid) io_maps) (by kernel_rfl)) (by kernel_rfl)) (by kernel_rfl)) (by kernel_rfl)) (by kernel_rfl)) (by kernel_rfl)) (by kernel_rfl)) (by kernel_rfl)) (by kernel_rfl)) (by kernel_rfl)) (by kernel_rfl)) (by kernel_rfl)) (by kernel_rfl)) (by kernel_rfl)) (by kernel_rfl)) (by kernel_rfl)) (by kernel_rfl)) (by kernel_rfl)) (by kernel_rfl)) (by kernel_rfl)) (by kernel_rfl)) io_heard) io_enter) (by rw [io_final]; rfl)) (by rw [io_make]; rfl)) (by kernel_rfl)) (by kernel_rfl)) (by kernel_rfl)) (by kernel_rfl))
theorem holds : Rows.FnExactClearChuteSaid :=
  OpenClaim.holds_of_wide 17 Try.f17 rfl rfl rfl rfl rfl rfl rfl ⟨rfl, rfl, rfl, rfl, rfl⟩ rfl rfl rfl rfl rfl (by kernel_rfl) Try.func17 facts
    (of_decide_eq_true (by kernel_rfl)) (by unfold Func.isWrapper; first | (rw [if_pos (by decide +kernel)]; kernel_rfl) | (rw [if_neg (by decide +kernel)]; exact ⟨rfl, rfl⟩))
    (fun os started H enc _ => lifted os started H enc)
end Go.Proofs.Ytieeagobedjogaa.fnExactClearChute
