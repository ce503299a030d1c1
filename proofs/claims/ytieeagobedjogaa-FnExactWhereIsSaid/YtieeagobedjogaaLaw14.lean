/- The law FnExactWhereIs holds: whatever its arguments, the call returns true and leaves them as they were. No condition. -/
import Derived.Test.YtieeagobedjogaaPlain
import Derived.Test.YtieeagobedjogaaLae
import Derived.Test.YtieeagobedjogaaIs
import Derived.Test.YtieeagobedjogaaOrder
import Derived.Test.YtieeagobedjogaaRows
set_option linter.unusedVariables false
set_option linter.unusedSimpArgs false
set_option linter.unusedSectionVars false
namespace Go.Vs
open Go.IntWalk
theorem find_l1 (l : List Item) (a : Int) : S_l7Find_l1 G.real TE.real a l = I_hasItem_l1 G.real TE.real a l := by
  induction l with
  | nil => rfl
  | cons z l ih => rw [S_l7Find_l1, I_hasItem_l1, ih]
theorem find_eq (l : List Item) (a : Int) : S_l7Find G.real TE.real l a = I_hasItem G.real TE.real l a := by
  unfold S_l7Find I_hasItem; rw [find_l1]
theorem where_l1 (l : List Item) (a : Int) : ∀ v, S_WhereIs_l1 G.real TE.real a l v = I_WhereIs_l1 G.real TE.real a l v := by
  induction l with
  | nil => intro v; rfl
  | cons z l ih => intro v; rw [S_WhereIs_l1, I_WhereIs_l1, ih]
theorem where_l2 (l : List Chute) (a : Int) : ∀ v, S_WhereIs_l2 G.real TE.real a l v = I_WhereIs_l2 G.real TE.real a l v := by
  induction l with
  | nil => intro v; rfl
  | cons z l ih => intro v; rw [S_WhereIs_l2, I_WhereIs_l2, ih, find_eq]
theorem where_l3 (l : List Inlet) (a : Int) : ∀ v, S_WhereIs_l3 G.real TE.real a l v = I_WhereIs_l3 G.real TE.real a l v := by
  induction l with
  | nil => intro v; rfl
  | cons z l ih => intro v; rw [S_WhereIs_l3, I_WhereIs_l3, ih, find_eq]
theorem lr_some {ρ β : Type} (o : LR ρ β) (k : β → Option ρ) (hk : ∀ y, ∃ r, k y = some r) : ∃ r, lr o k = some r := by
  cases o with
  | ret r => exact ⟨r, rfl⟩
  | out y => exact hk y
theorem whereIs_eq (c : Centre) (h : c.tot ≤ 1048576) (a : Int) : ∃ r, I_WhereIs G.real TE.real c a = some r ∧ S_WhereIs G.real TE.real c a = some r := by
  have e : S_WhereIs G.real TE.real c a = I_WhereIs G.real TE.real c a := by
    unfold I_WhereIs S_WhereIs
    rw [iCentre_r c h, sCentre_r c h, where_l1, where_l2, where_l3]
  rw [e]
  have : ∃ r, I_WhereIs G.real TE.real c a = some r := by
    unfold I_WhereIs
    rw [iCentre_r c h]
    simp only [cl_some, lP_eq, br_dec, R_eq]
    split
    · split
      · exact ⟨_, rfl⟩
      · exact lr_some _ _ fun _ => lr_some _ _ fun _ => lr_some _ _ fun _ => ⟨_, rfl⟩
    · exact ⟨_, rfl⟩
  obtain ⟨r, hr⟩ := this
  exact ⟨r, hr, hr⟩
theorem law14 (c : Centre) (a : Int) (hw : c.wd) : L_FnExactWhereIs G.real TE.real c a = some true := by
  unfold L_FnExactWhereIs
  rw [szCentre_r c _ (by omega) (by omega) hw]
  simp only [lP_eq, R_lt, br_dec]
  by_cases h : szOut 1048576 c.tot < 0
  · rw [if_pos h]
  · have := szOut_pos h
    rw [if_neg h, toCentre_r c (by omega)]
    obtain ⟨r, e1, e2⟩ := whereIs_eq c (by omega) a
    simp [e1, e2, eqCentre_r c (by omega)]
end Go.Vs
namespace Go.Proofs.Ytieeagobedjogaa.fnExactWhereIs
open Go.Vs Go.RowKit Go.WideShapes Go.ChangeShapes
set_option linter.unusedVariables false
set_option maxRecDepth 100000
theorem given (as0 : List A) (h : ArgsIs Try.prog 8 Try.f14.params.toList as0) : Go.Vs.Fn Try.prog 14 as0 (.c (.r (.v (.bool true)))) := by
  rw [Try.params14] at h
  obtain ⟨x0, xs0, rfl, ⟨ts0, t0, q0⟩, h⟩ := h
  rw [show tyOf Try.prog 8 27 = some [.sl [.int .i64, .int .i64], .sl [.int .i64, .int .i64, .sl [.int .i64, .int .i64]], .sl [.int .i64, .sl [.int .i64, .int .i64]], .sl [.int .i64], .int .i64] from by kernel_rfl] at t0
  cases t0
  rw [show aggT Try.prog 27 = true from by kernel_rfl] at q0
  obtain ⟨r0, rfl, q0⟩ := q0
  obtain ⟨a0, rfl, w0⟩ := is_Centre r0 q0
  obtain ⟨x1, xs1, rfl, ⟨ts1, t1, q1⟩, h⟩ := h
  rw [show tyOf Try.prog 8 3 = some [.int .i64] from by kernel_rfl] at t1
  cases t1
  rw [show aggT Try.prog 3 = false from by kernel_rfl] at q1
  obtain ⟨r1, rfl, q1⟩ := q1
  obtain ⟨_, _, e1, q1, e1_⟩ := is_cons q1
  cases e1
  obtain ⟨a1, rfl⟩ := is_int q1
  have h := h
  subst h
  exact c_L_FnExactWhereIs rfl rfl (law14 _ _ w0)
theorem lifted (os : Os) (started : os.Started) (H : Type) (enc : TypeId × Value → H) :
    ReturnsInHanded {} Try.checked os 14 .any (Rows.fnExactWhereIsSpec.pre6 enc Try.prog Try.f14 Rows.fnExactWhereIsRow.domain false) (Rows.fnExactWhereIsSpec.post enc Try.prog Try.f14 false true false false) := by
  refine returnsInHanded_of_change (C := Try.checked) (s := Rows.fnExactWhereIsSpec) (by kernel_rfl) started (by kernel_rfl) Try.func14
    (ChangeSpec.witness6 (enc := enc) (C := Try.checked) false ⟨#[], #[.agg #[.slice none 0 0, .slice none 0 0, .slice none 0 0, .slice none 0 0, .int .i64 0], .int .i64 0], []⟩ 8 (by kernel_rfl) (by kernel_rfl) (by kernel_rfl) (by kernel_rfl)) ?_
  intro W base args ds gs before hval hW _ _
  refine law_contract (n := 8) (tb := 4) rfl rfl Try.underlying4 (by kernel_rfl) (by kernel_rfl) (fun ds hl => ?_) given W base args ds gs before hval hW
  rw [Try.params14] at hl
  match ds, hl with
  | [d0, d1], _ => exact ⟨rfl, rfl, rfl⟩
theorem facts : joinedFacts Try.prog 14 Try.f14 Rows.fnExactWhereIsSpec Rows.fnExactWhereIsRow = true := by
  unfold joinedFacts
  exact (and_i (and_i (and_i (and_i (and_i (and_i (and_i (and_i (and_i (and_i (and_i (and_i (and_i (and_i (and_i (and_i (and_i (and_i (and_i (and_i (and_i (and_i (and_i (and_i (and_i (and_i (and_i (and_i (and_i (and_i (and_i (by kernel_rfl) io_laid) io_maps) (by kernel_rfl)) (by kernel_rfl)) (by kernel_rfl)) (by kernel_rfl)) (by kernel_rfl)) (by kernel_rfl)) (by kernel_rfl)) (by kernel_rfl)) (by kernel_rfl)) (by kernel_rfl)) (by kernel_rfl)) (by kernel_rfl)) (by kernel_rfl)) (by kernel_rfl)) (by kernel_rfl)) (by kernel_rfl)) (by kernel_rfl)) (by kernel_rfl)) (by kernel_rfl)) (by kernel_rfl)) (by kernel_rfl)) io_heard) io_enter) (by rw [io_final]; rfl)) (by rw [io_make]; rfl)) (by kernel_rfl)) (by kernel_rfl)) (by kernel_rfl)) (by kernel_rfl))
theorem holds : Rows.FnExactWhereIsSaid :=
  OpenClaim.holds_of_wide 14 Try.f14 rfl rfl rfl rfl rfl rfl rfl ⟨rfl, rfl, rfl, rfl, rfl⟩ rfl rfl rfl rfl rfl (by kernel_rfl) Try.func14 facts
    (of_decide_eq_true (by kernel_rfl)) (by unfold Func.isWrapper; first | (rw [if_pos (by decide +kernel)]; kernel_rfl) | (rw [if_neg (by decide +kernel)]; exact ⟨rfl, rfl⟩))
    (fun os started H enc _ => lifted os started H enc)
end Go.Proofs.Ytieeagobedjogaa.fnExactWhereIs
