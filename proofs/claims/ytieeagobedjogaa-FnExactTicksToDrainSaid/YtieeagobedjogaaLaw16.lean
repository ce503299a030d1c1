/- The law FnExactTicksToDrain holds: whatever its arguments, the call returns true and leaves them as they were. No condition. -/
import Derived.Test.YtieeagobedjogaaTicks
import Derived.Test.YtieeagobedjogaaLae
import Derived.Test.YtieeagobedjogaaIs
import Derived.Test.YtieeagobedjogaaOrder
import Derived.Test.YtieeagobedjogaaRows
set_option linter.unusedVariables false
set_option linter.unusedSimpArgs false
set_option linter.unusedSectionVars false
namespace Go.Vs
open Go.IntWalk
theorem drain_l1 : ∀ (n : Nat) (v : Int) (c : Centre), IsD c → 0 ≤ c.Now → c.Now + n ≤ 1000000 → ∃ r, I_TicksToDrain_l1 G.real TE.real n v c.Belt c.Chutes c.Inlets c.Plan c.Now = some r ∧ S_TicksToDrain_l1 G.real TE.real n v c.Belt c.Chutes c.Inlets c.Plan c.Now = some r
  | 0, v, c, _, _, _ => by rw [I_TicksToDrain_l1, S_TicksToDrain_l1]; exact ⟨_, rfl, rfl⟩
  | n + 1, v, c, h, h0, h1 => by
    obtain ⟨t1, t2⟩ := tick_r h (by omega)
    have hn : (tickP c).Now = c.Now + 1 := rfl
    obtain ⟨r, i1, i2⟩ := drain_l1 n (G.real.wrap .i64 (G.real.add v 1)) (tickP c) (tickD h) (by omega) (by omega)
    rw [I_TicksToDrain_l1, S_TicksToDrain_l1]
    have e : Centre.mk c.Belt c.Chutes c.Inlets c.Plan c.Now = c := rfl
    rw [e, t1, t2, sCountBelt_eq, sCountWait_eq]
    simp only [lP_eq, cl_some, i1, i2, R_eq, br_dec]
    split
    · split
      · exact ⟨_, rfl, rfl⟩
      · exact ⟨_, rfl, rfl⟩
    · exact ⟨_, rfl, rfl⟩
theorem ticksToDrain_eq (c : Centre) (h : c.tot ≤ 1048576) (k : Int) : ∃ r, I_TicksToDrain G.real TE.real c k = some r ∧ S_TicksToDrain G.real TE.real c k = some r := by
  obtain ⟨k1, k2⟩ := copy_r c (by omega)
  unfold I_TicksToDrain S_TicksToDrain
  rw [iCentre_r c h, sCentre_r c h, k1, k2]
  simp only [cl_some, lP_eq, l1In_r, within_r, br_dec]
  by_cases hc : IsC c
  · simp only [hc, if_true]
    by_cases h2 : 0 ≤ k ∧ k ≤ 1000
    · rw [if_pos h2, if_pos h2, gd_true (by omega), gd_true (by omega)]
      have hnow := hc.now
      have ek : cntLe 0 k = (k + 1).toNat := by unfold cntLe; omega
      obtain ⟨r, i1, i2⟩ := drain_l1 (k + 1).toNat 0 c hc.d (by omega) (by omega)
      rw [ek, i1, i2, cl_some]
      cases r with
      | ret x => exact ⟨_, rfl, rfl⟩
      | out y => exact ⟨_, rfl, rfl⟩
    · rw [if_neg h2, if_neg h2]
      exact ⟨_, rfl, rfl⟩
  · simp only [hc, if_false]
    exact ⟨_, rfl, rfl⟩
theorem law16 (c : Centre) (k : Int) (hw : c.wd) : L_FnExactTicksToDrain G.real TE.real c k = some true := by
  unfold L_FnExactTicksToDrain
  rw [szCentre_r c _ (by omega) (by omega) hw]
  simp only [lP_eq, R_lt, br_dec]
  by_cases h : szOut 1048576 c.tot < 0
  · rw [if_pos h]
  · have := szOut_pos h
    rw [if_neg h, toCentre_r c (by omega)]
    obtain ⟨r, e1, e2⟩ := ticksToDrain_eq c (by omega) k
    simp [e1, e2, eqCentre_r c (by omega)]
end Go.Vs
namespace Go.Proofs.Ytieeagobedjogaa.fnExactTicksToDrain
open Go.Vs Go.RowKit Go.WideShapes Go.ChangeShapes
set_option linter.unusedVariables false
set_option maxRecDepth 100000
theorem given (as0 : List A) (h : ArgsIs Try.prog 8 Try.f16.params.toList as0) : Go.Vs.Fn Try.prog 16 as0 (.c (.r (.v (.bool true)))) := by
  rw [Try.params16] at h
  obtain ⟨x0, xs0, rfl, ⟨ts0, t0, q0⟩, h⟩ := h
  rw [show tyOf Try.prog 8 27 = some [.sl [.int .i64, .int .i64], .sl [.int .i64, .int .i64, .sl [.int .i64, .int .i64]], .sl [.int .i64, .sl [.int .i64, .int .i64]], .sl [.int .i64], .int .i64] from by kernel_rfl] at t0
  cases t0
  rw [show aggT Try.prog 27 = true from by kernel_rfl] at q0
  obtain ⟨r0, rfl, q0⟩ := q0
  obtain ⟨a0, rfl, w0⟩ := is_Centre r0 q0
  obtain ⟨x1, xs1, rfl, ⟨ts1, t1, q1⟩, h⟩ := h
  rw [show tyOf Try.prog 8 3 = some [.int .i64] from by kernel_rfl] at t1
  cases t1
  rw [show aggT Try.prog 3 = false from by kernel_rfl] at q1
  obtain ⟨r1, rfl, q1⟩ := q1
  obtain ⟨_, _, e1, q1, e1_⟩ := is_cons q1
  cases e1
  obtain ⟨a1, rfl⟩ := is_int q1
  have h := h
  subst h
  exact c_L_FnExactTicksToDrain rfl rfl (law16 _ _ w0)
theorem lifted (os : Os) (started : os.Started) (H : Type) (enc : TypeId × Value → H) :
    ReturnsInHanded {} Try.checked os 16 .any (Rows.fnExactTicksToDrainSpec.pre6 enc Try.prog Try.f16 Rows.fnExactTicksToDrainRow.domain false) (Rows.fnExactTicksToDrainSpec.post enc Try.prog Try.f16 false true false false) := by
  refine returnsInHanded_of_change (C := Try.checked) (s := Rows.fnExactTicksToDrainSpec) (by kernel_rfl) started (by kernel_rfl) Try.func16
    (ChangeSpec.witness6 (enc := enc) (C := Try.checked) false ⟨#[], #[.agg #[.slice none 0 0, .slice none 0 0, .slice none 0 0, .slice none 0 0, .int .i64 0], .int .i64 0], []⟩ 8 (by kernel_rfl) (by kernel_rfl) (by kernel_rfl) (by kernel_rfl)) ?_
  intro W base args ds gs before hval hW _ _
  refine law_contract (n := 8) (tb := 4) rfl rfl Try.underlying4 (by kernel_rfl) (by kernel_rfl) (fun ds hl => ?_) given W base args ds gs before hval hW
  rw [Try.params16] at hl
  match ds, hl with
  | [d0, d1], _ => exact ⟨rfl, rfl, rfl⟩
theorem facts : joinedFacts Try.prog 16 Try.f16 Rows.fnExactTicksToDrainSpec Rows.fnExactTicksToDrainRow = true := by
  unfold joinedFacts
  exact (and_i (and_i (and_i (and_i (and_i (and_i (and_i (and_i (and_i (and_i (and_i (and_i (and_i (and_i (and_i (and_i (and_i (and_i (and_i (and_i (and_i (and_i (and_i (and_i (and_i (and_i (and_i (and_i (and_i (and_i (and_i (by kernel_rfl) io_laid) io_maps) (by kernel_rfl)) (by kernel_rfl)) (by kernel_rfl)) (by kernel_rfl)) (by kernel_rfl)) (by kernel_rfl)) (by kernel_rfl)) (by kernel_rfl)) (by kernel_rfl)) (by kernel_rfl)) (by kernel_rfl)) (by kernel_rfl)) (by kernel_rfl)) (by kernel_rfl)) (by kernel_rfl)) (by kernel_rfl)) (by kernel_rfl)) (by kernel_rfl)) (by kernel_rfl)) (by kernel_rfl)) (by kernel_rfl)) io_heard) io_enter) (by rw [io_final]; rfl)) (by rw [io_make]; rfl)) (by kernel_rfl)) (by kernel_rfl)) (by kernel_rfl)) (by kernel_rfl))
theorem holds : Rows.FnExactTicksToDrainSaid :=
  OpenClaim.holds_of_wide 16 Try.f16 rfl rfl rfl rfl rfl rfl rfl ⟨rfl, rfl, rfl, rfl, rfl⟩ rfl rfl rfl rfl rfl (by kernel_rfl) Try.func16 facts
    (of_decide_eq_true (by kernel_rfl)) (by unfold Func.isWrapper; first | (rw [if_pos (by decide +kernel)]; kernel_rfl) | (rw [if_neg (by decide +kernel)]; exact ⟨rfl, rfl⟩))
    (fun os started H enc _ => lifted os started H enc)
end Go.Proofs.Ytieeagobedjogaa.fnExactTicksToDrain
