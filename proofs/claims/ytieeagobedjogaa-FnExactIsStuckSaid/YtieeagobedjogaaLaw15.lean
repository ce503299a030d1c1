/- The law FnExactIsStuck holds: whatever its arguments, the call returns true and leaves them as they were. No condition. -/
import Derived.Test.YtieeagobedjogaaLaw12
import Derived.Test.YtieeagobedjogaaLaf
import Derived.Test.YtieeagobedjogaaIs
import Derived.Test.YtieeagobedjogaaOrder
import Derived.Test.YtieeagobedjogaaRows
set_option linter.unusedVariables false
set_option linter.unusedSimpArgs false
set_option linter.unusedSectionVars false
namespace Go.Vs
open Go.IntWalk
/-- whether something on the belt can fall -/
def canFall (c : Centre) (x : Item) : Bool := match c.Plan[x.Dest.toNat]? with
  | some k => match c.Chutes[k.toNat]? with
    | some y => decide ((y.Held.length : Int) < y.Room)
    | none => false
  | none => false
theorem fall_get {c : Centre} (hc : IsC c) {x : Item} (hx : x ∈ itemsOf c) : ∃ k y, 0 ≤ x.Dest ∧ c.Plan[x.Dest.toNat]? = some k ∧ 0 ≤ k ∧ c.Chutes[k.toNat]? = some y ∧ canFall c x = decide ((y.Held.length : Int) < y.Room) := by
  obtain ⟨_, _, q1, q2⟩ := hc.item hx
  obtain ⟨k, hk, hkm⟩ := getL (l := c.Plan) q1 q2
  obtain ⟨r1, r2⟩ := hc.goal hkm
  obtain ⟨y, hy, _⟩ := getL (l := c.Chutes) r1 r2
  exact ⟨k, y, q1, hk, r1, hy, by simp [canFall, hk, hy]⟩
theorem iStuck_l1 {c : Centre} (hc : IsC c) (l : List Item) : (∀ x ∈ l, x ∈ c.Belt) → I_IsStuck_l1 G.real TE.real c l = some (if ∃ x ∈ l, onB x = true ∧ canFall c x = true then .ret false else .out ()) := by
  induction l with
  | nil => intro _; rw [I_IsStuck_l1]; simp
  | cons z l ih =>
    intro h
    have ih := ih (fun x hx => h x (by simp [hx]))
    rw [I_IsStuck_l1, ih]
    simp only [R_all, R_eq, List.all_cons, List.all_nil, id, Bool.and_true, llen_Item, R_nat, R_lt]
    by_cases h1 : z.Id = 0 ∧ z.Dest = 0
    · have h3 : (decide (z.Id = 0) && decide (z.Dest = 0)) = true := by simp [h1]
      rw [h3, br_t]
      congr 1
      refine if_iff ?_
      simp [onB, h1.1]
    · have h3 : (decide (z.Id = 0) && decide (z.Dest = 0)) = false := by
        rw [Bool.and_eq_false_iff]; simp only [decide_eq_false_iff_not]; omega
      have hm := belt_items (h z (by simp)) h1
      obtain ⟨k, y, q1, q2, q3, q4, q5⟩ := fall_get hc hm
      have hid := (hc.item hm).1
      rw [h3, br_f, gd_true q1, gt_some q2, gd_true q3, gt_some q4, br_dec]
      have hb : onB z = true := by simp only [onB, decide_eq_true_eq]; omega
      by_cases h4 : (y.Held.length : Int) < y.Room
      · rw [if_pos h4, if_pos ⟨z, by simp, hb, by simp [q5, h4]⟩]
      · rw [if_neg h4]
        congr 1
        refine if_iff ?_
        simp [q5, h4]
theorem sStuck_l1 {c : Centre} (hc : IsC c) (l : List Item) : (∀ x ∈ l, x ∈ c.Belt) → S_IsStuck_l1 G.real TE.real c l = some (if ∃ x ∈ l, onB x = true ∧ canFall c x = true then .ret false else .out ()) := by
  induction l with
  | nil => intro _; rw [S_IsStuck_l1]; simp
  | cons z l ih =>
    intro h
    have ih := ih (fun x hx => h x (by simp [hx]))
    rw [S_IsStuck_l1, ih]
    simp only [R_eq, br_dec, llen_Item, R_nat, R_lt]
    by_cases h1 : z.Id = 0
    · rw [if_pos h1]
      congr 1
      refine if_iff ?_
      simp [onB, h1]
    · have hm := belt_items (h z (by simp)) (fun e => h1 e.1)
      obtain ⟨k, y, q1, q2, q3, q4, q5⟩ := fall_get hc hm
      rw [if_neg h1, gd_true q1, gt_some q2, gd_true q3, gt_some q4, gd_true q1, gd_true q3]
      have hb : onB z = true := by simp [onB, h1]
      by_cases h4 : (y.Held.length : Int) < y.Room
      · rw [if_pos h4, if_pos ⟨z, by simp, hb, by simp [q5, h4]⟩]
      · rw [if_neg h4]
        congr 1
        refine if_iff ?_
        simp [q5, h4]
theorem sStuck_l2 (c : Centre) (l : List Item) : S_IsStuck_l2 G.real TE.real c l = S_IsStuck_l1 G.real TE.real c l := by
  induction l with
  | nil => rfl
  | cons z l ih => rw [S_IsStuck_l1, S_IsStuck_l2, ih]
theorem ret_if2 {p : Prop} [Decidable p] (k : Unit → Option Bool) : lr (if p then LR.ret false else LR.out ()) k = if p then some false else k () := by split <;> rfl
theorem isStuck_eq (c : Centre) (h : c.tot ≤ 1048576) : ∃ r, I_IsStuck G.real TE.real c = some r ∧ S_IsStuck G.real TE.real c = some r := by
  obtain ⟨d, d1, d2⟩ := isDrained_eq c h
  unfold I_IsStuck S_IsStuck
  rw [iCentre_r c h, sCentre_r c h, d1, d2, sStuck_l2, sCountWait_eq, sCountBelt_eq, iCountWait_r c h, iCountBelt_r c h]
  simp only [cl_some, br_dec, lP_eq]
  by_cases hc : IsC c
  · simp only [hc, if_true]
    cases d with
    | true => exact ⟨_, rfl, rfl⟩
    | false =>
      have hle : c.Belt.countP onB ≤ c.Belt.length := List.countP_le_length
      simp only [br_f, iStuck_l1 hc c.Belt (fun x hx => hx), sStuck_l1 hc c.Belt (fun x hx => hx), cl_some, ret_if2, R_eq, R_lt, llen_Item, br_dec]
      by_cases p : ∃ x ∈ c.Belt, onB x = true ∧ canFall c x = true
      · simp only [p, if_true]
        split
        · split <;> exact ⟨_, rfl, rfl⟩
        · exact ⟨_, rfl, rfl⟩
      · simp only [p, if_false]
        split
        · rw [if_neg (by omega)]; exact ⟨_, rfl, rfl⟩
        · rw [if_pos (by omega)]
          split
          · refine ⟨false, ?_, rfl⟩
            congr 1
            simp only [decide_eq_false_iff_not]
            omega
          · refine ⟨true, ?_, rfl⟩
            congr 1
            simp only [decide_eq_true_eq]
            omega
  · simp [hc]
theorem law15 (c : Centre) (hw : c.wd) : L_FnExactIsStuck G.real TE.real c = some true := by
  unfold L_FnExactIsStuck
  rw [szCentre_r c _ (by omega) (by omega) hw]
  simp only [lP_eq, R_lt, br_dec]
  by_cases h : szOut 1048576 c.tot < 0
  · rw [if_pos h]
  · have := szOut_pos h
    rw [if_neg h, toCentre_r c (by omega)]
    obtain ⟨r, e1, e2⟩ := isStuck_eq c (by omega)
    simp only [cl_some, e1, e2, eqCentre_r c (by omega)]
    cases r <;> rfl
end Go.Vs
namespace Go.Proofs.Ytieeagobedjogaa.fnExactIsStuck
open Go.Vs Go.RowKit Go.WideShapes Go.ChangeShapes
set_option linter.unusedVariables false
set_option maxRecDepth 100000
theorem given (as0 : List A) (h : ArgsIs Try.prog 8 Try.f15.params.toList as0) : Go.Vs.Fn Try.prog 15 as0 (.c (.r (.v (.bool true)))) := by
  rw [Try.params15] at h
  obtain ⟨x0, xs0, rfl, ⟨ts0, t0, q0⟩, h⟩ := h
  rw [show tyOf Try.prog 8 27 = some [.sl [.int .i64, .int .i64], .sl [.int .i64, .int .i64, .sl [.int .i64, .int .i64]], .sl [.int .i64, .sl [.int .i64, .int .i64]], .sl [.int .i64], .int .i64] from by kernel_rfl] at t0
  cases t0
  rw [show aggT Try.prog 27 = true from by kernel_rfl] at q0
  obtain ⟨r0, rfl, q0⟩ := q0
  obtain ⟨a0, rfl, w0⟩ := is_Centre r0 q0
  have h := h
  subst h
  exact c_L_FnExactIsStuck rfl rfl (law15 _ w0)
theorem lifted (os : Os) (started : os.Started) (H : Type) (enc : TypeId × Value → H) :
    ReturnsInHanded {} Try.checked os 15 .any (Rows.fnExactIsStuckSpec.pre6 enc Try.prog Try.f15 Rows.fnExactIsStuckRow.domain false) (Rows.fnExactIsStuckSpec.post enc Try.prog Try.f15 false true false false) := by
  refine returnsInHanded_of_change (C := Try.checked) (s := Rows.fnExactIsStuckSpec) (by kernel_rfl) started (by kernel_rfl) Try.func15
    (ChangeSpec.witness6 (enc := enc) (C := Try.checked) false ⟨#[], #[.agg #[.slice none 0 0, .slice none 0 0, .slice none 0 0, .slice none 0 0, .int .i64 0]], []⟩ 8 (by kernel_rfl) (by kernel_rfl) (by kernel_rfl) (by kernel_rfl)) ?_
  intro W base args ds gs before hval hW _ _
  refine law_contract (n := 8) (tb := 4) rfl rfl Try.underlying4 (by kernel_rfl) (by kernel_rfl) (fun ds hl => ?_) given W base args ds gs before hval hW
  rw [Try.params15] at hl
  match ds, hl with
  | [d0], _ => exact ⟨rfl, rfl, rfl⟩
theorem facts : joinedFacts Try.prog 15 Try.f15 Rows.fnExactIsStuckSpec Rows.fnExactIsStuckRow = true := by
  unfold joinedFacts
  exact (and_i (and_i (and_i (and_i (and_i (and_i (and_i (and_i (and_i (and_i (and_i (and_i (and_i (and_i (and_i (and_i (and_i (and_i (and_i (and_i (and_i (and_i (and_i (and_i (and_i (and_i (and_i (and_i (and_i (and_i (and_i (by kernel_rfl) io_laid) io_maps) (by kernel_rfl)) (by kernel_rfl)) (by kernel_rfl)) (by kernel_rfl)) (by kernel_rfl)) (by kernel_rfl)) (by kernel_rfl)) (by kernel_rfl)) (by kernel_rfl)) (by kernel_rfl)) (by kernel_rfl)) (by kernel_rfl)) (by kernel_rfl)) (by kernel_rfl)) (by kernel_rfl)) (by kernel_rfl)) (by kernel_rfl)) (by kernel_rfl)) (by kernel_rfl)) (by kernel_rfl)) (by kernel_rfl)) io_heard) io_enter) (by rw [io_final]; rfl)) (by rw [io_make]; rfl)) (by kernel_rfl)) (by kernel_rfl)) (by kernel_rfl)) (by kernel_rfl))
theorem holds : Rows.FnExactIsStuckSaid :=
  OpenClaim.holds_of_wide 15 Try.f15 rfl rfl rfl rfl rfl rfl rfl ⟨rfl, rfl, rfl, rfl, rfl⟩ rfl rfl rfl rfl rfl (by kernel_rfl) Try.func15 facts
    (of_decide_eq_true (by kernel_rfl)) (by unfold Func.isWrapper; first | (rw [if_pos (by decide +kernel)]; kernel_rfl) | (rw [if_neg (by decide +kernel)]; exact ⟨rfl, rfl⟩))
    (fun os started H enc _ => lifted os started H enc)
end Go.Proofs.Ytieeagobedjogaa.fnExactIsStuck
