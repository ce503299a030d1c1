/- Part of the proofs of this seat's laws: Marks. No condition. -/
import Derived.Test.YtieeagobedjogaaVf
import Derived.Test.YtieeagobedjogaaHb
import Derived.Test.YtieeagobedjogaaLac
import Derived.Test.YtieeagobedjogaaLad
import Derived.Test.YtieeagobedjogaaPlain
import Derived.Test.YtieeagobedjogaaLab
set_option linter.unusedVariables false
set_option linter.unusedSimpArgs false
set_option linter.unusedSectionVars false
namespace Go.Vs
open Go.IntWalk
/-! A round at one place of a list. -/
theorem gt_mid {α β : Type} (pre l : List β) (x : β) (k : β → Option α) : gt (pre ++ x :: l) pre.length k = k x := gt_some (by simp)
theorem set_mid {β : Type} (pre l : List β) (x y : β) : (pre ++ x :: l).set pre.length y = pre ++ y :: l := by simp
theorem gd_mid {α β : Type} (pre l : List β) (x : β) (k : Option α) : gd ((0 : Int) ≤ (pre.length : Int) ∧ (pre.length : Int) < ((pre ++ x :: l).length : Nat)) k = k := gd_true (by simp; omega)
theorem lt_mid {β : Type} (pre l : List β) (x : β) : decide ((pre.length : Int) < ((pre ++ x :: l).length : Nat)) = true := by simp; omega
theorem lt_end {β : Type} (pre : List β) : decide ((pre.length : Int) < ((pre ++ []).length : Nat)) = false := by simp
theorem mid_app {β : Type} (pre l : List β) (x : β) : pre ++ x :: l = (pre ++ [x]) ++ l := by simp
theorem mid_len {β : Type} (pre : List β) (x : β) : ((pre.length : Nat) : Int) + 1 = (((pre ++ [x]).length : Nat) : Int) := by simp
end Go.Vs
namespace Go.Vs
open Go.IntWalk
set_option linter.unusedVariables false
set_option linter.unusedSimpArgs false
/-! What marks do. -/
def cntItem (l : List Item) : Nat := (l.map fun x => 2).sum
theorem cntItem_cons (x : Item) (l : List Item) : cntItem (x :: l) = (2) + cntItem l := by simp [cntItem]
theorem markItem_l1 (l : List Item) : ∀ (pre : List Item) (k : Int) (n : Nat), l.length < n → 0 ≤ k → k + (cntItem l : Nat) ≤ 800000000 → pre.length + l.length ≤ 800000000 →
    ∃ l', L_markItemS_l1 G.real TE.real n (pre ++ l) k pre.length = some (pre ++ l', k + (cntItem l : Nat)) ∧ l'.length = l.length ∧ L_heldItemS_l1 G.real TE.real l' k = .out (k + (cntItem l : Nat)) := by
  induction l with
  | nil =>
    intro pre k n hn h0 hb hp
    cases n with
    | zero => simp at hn
    | succ n =>
      refine ⟨[], ?_, rfl, ?_⟩
      · rw [L_markItemS_l1]; simp only [dlenx_Item, R_lt, R_int, lt_end, br_f]; simp [cntItem]
      · rw [L_heldItemS_l1]; simp [cntItem]
  | cons z l ih =>
    intro pre k n hn h0 hb hp
    cases n with
    | zero => simp at hn
    | succ n =>
      simp only [List.length_cons] at hn hp
      rw [cntItem_cons] at hb
      have wp : G.real.wrap .i64 ((pre.length : Int) + 1) = (pre.length : Int) + 1 := w64 (by omega) (by omega)
      have w0 : G.real.wrap .i64 (k + 1) = k + 1 := w64 (by omega) (by omega)
      have w1 : G.real.wrap .i64 ((k + 1) + 1) = (k + 1) + 1 := w64 (by omega) (by omega)
      obtain ⟨l', q1, q2, q3⟩ := ih (pre ++ [(Item.mk (k) ((k + 1)))]) ((k + 1) + 1) n (by omega) (by omega) (by omega) (by simp; omega)
      refine ⟨(Item.mk (k) ((k + 1))) :: l', ?_, by simp [q2], ?_⟩
      · rw [L_markItemS_l1]
        simp only [dlenx_Item, R_lt, R_int, R_nat, R_add, Int.toNat_natCast, lt_mid, br_t, gd_mid, gt_mid, lP_eq, set_mid, cl_some, w0, w1]
        try rw [wp]
        rw [mid_app, mid_len pre (Item.mk (k) ((k + 1))), q1, cntItem_cons]
        simp only [List.append_assoc, List.singleton_append, Option.some.injEq, Prod.mk.injEq, true_and]
        omega
      · rw [L_heldItemS_l1]
        try simp only [R_eq, R_seq, R_lt, R_add, decide_true, br_t, br_dec, lP_eq, cl_some, beq_self_eq_true, if_true, w0, w1]
        rw [q3, cntItem_cons]
        congr 1
        omega
theorem len_cntItem (l : List Item) : l.length ≤ cntItem l := by
  induction l with
  | nil => simp
  | cons x l ih => rw [cntItem_cons, List.length_cons]; omega
theorem cntItem_le (l : List Item) : cntItem l ≤ 16 * l.length := by
  induction l with
  | nil => simp [cntItem]
  | cons x l ih => rw [cntItem_cons, List.length_cons]; omega
theorem markItem (l : List Item) (k : Int) (h0 : 0 ≤ k) (hb : k + (cntItem l : Nat) ≤ 800000000) (hl : l.length ≤ 800000000) : ∃ l', L_markItemS G.real TE.real l k = some (k + (cntItem l : Nat), l') ∧ l'.length = l.length ∧ L_heldItemS G.real TE.real l' k = k + (cntItem l : Nat) := by
  obtain ⟨l', q1, q2, q3⟩ := markItem_l1 l [] k 1000000000 (by omega) h0 hb (by simp; omega)
  simp only [List.nil_append, List.length_nil] at q1
  refine ⟨l', ?_, q2, ?_⟩
  · unfold L_markItemS; rw [show (0 : Int) = ((0 : Nat) : Int) from rfl, q1, cl_some]; dsimp only; rw [gd_true q2]
  · unfold L_heldItemS; simp only [lP_eq, q3, lrp_out]
def cntChute (l : List Chute) : Nat := (l.map fun x => 2 + cntItem x.Held).sum
theorem cntChute_cons (x : Chute) (l : List Chute) : cntChute (x :: l) = (2 + cntItem x.Held) + cntChute l := by simp [cntChute]
theorem markChute_l1 (l : List Chute) : ∀ (pre : List Chute) (k : Int) (n : Nat), l.length < n → 0 ≤ k → k + (cntChute l : Nat) ≤ 800000000 → pre.length + l.length ≤ 800000000 →
    ∃ l', L_markChuteS_l1 G.real TE.real n (pre ++ l) k pre.length = some (pre ++ l', k + (cntChute l : Nat)) ∧ l'.length = l.length ∧ L_heldChuteS_l1 G.real TE.real l' k = .out (k + (cntChute l : Nat)) := by
  induction l with
  | nil =>
    intro pre k n hn h0 hb hp
    cases n with
    | zero => simp at hn
    | succ n =>
      refine ⟨[], ?_, rfl, ?_⟩
      · rw [L_markChuteS_l1]; simp only [dlenx_Chute, R_lt, R_int, lt_end, br_f]; simp [cntChute]
      · rw [L_heldChuteS_l1]; simp [cntChute]
  | cons z l ih =>
    intro pre k n hn h0 hb hp
    cases n with
    | zero => simp at hn
    | succ n =>
      simp only [List.length_cons] at hn hp
      rw [cntChute_cons] at hb
      have wp : G.real.wrap .i64 ((pre.length : Int) + 1) = (pre.length : Int) + 1 := w64 (by omega) (by omega)
      have lb1 := len_cntItem z.Held
      have w0 : G.real.wrap .i64 (k + 1) = k + 1 := w64 (by omega) (by omega)
      have w1 : G.real.wrap .i64 ((k + 1) + 1) = (k + 1) + 1 := w64 (by omega) (by omega)
      obtain ⟨h1, e1, f1, g1⟩ := markItem z.Held ((k + 1) + 1) (by omega) (by omega) (by omega)
      obtain ⟨l', q1, q2, q3⟩ := ih (pre ++ [(Chute.mk (k) ((k + 1)) (h1))]) (((k + 1) + 1) + (cntItem z.Held : Nat)) n (by omega) (by omega) (by omega) (by simp; omega)
      refine ⟨(Chute.mk (k) ((k + 1)) (h1)) :: l', ?_, by simp [q2], ?_⟩
      · rw [L_markChuteS_l1]
        simp only [dlenx_Chute, R_lt, R_int, R_nat, R_add, Int.toNat_natCast, lt_mid, br_t, gd_mid, gt_mid, lP_eq, set_mid, cl_some, w0, w1]
        rw [e1, cl_some]
        dsimp only
        rw [gd_true f1]
        try simp only [dlenx_Chute, R_lt, R_int, R_nat, R_add, Int.toNat_natCast, lt_mid, br_t, gd_mid, gt_mid, lP_eq, set_mid, cl_some, w0, w1]
        try rw [wp]
        rw [mid_app, mid_len pre (Chute.mk (k) ((k + 1)) (h1)), q1, cntChute_cons]
        simp only [List.append_assoc, List.singleton_append, Option.some.injEq, Prod.mk.injEq, true_and]
        omega
      · rw [L_heldChuteS_l1]
        try simp only [R_eq, R_seq, R_lt, R_add, decide_true, br_t, br_dec, lP_eq, cl_some, beq_self_eq_true, if_true, w0, w1]
        rw [g1]
        try simp only [R_eq, R_seq, R_lt, R_add, decide_true, br_t, br_dec, lP_eq, cl_some, beq_self_eq_true, if_true, w0, w1]
        rw [if_neg (by omega)]
        try simp only [R_eq, R_seq, R_lt, R_add, decide_true, br_t, br_dec, lP_eq, cl_some, beq_self_eq_true, if_true, w0, w1]
        rw [q3, cntChute_cons]
        congr 1
        omega
theorem len_cntChute (l : List Chute) : l.length ≤ cntChute l := by
  induction l with
  | nil => simp
  | cons x l ih => rw [cntChute_cons, List.length_cons]; omega
theorem cntChute_le (l : List Chute) : cntChute l ≤ 16 * (l.length + sumT (fun y => Chute.tot y) l) := by
  induction l with
  | nil => simp [cntChute]
  | cons x l ih =>
    have n0 := cntItem_le x.Held
    have hT : sumT (fun y => Chute.tot y) (x :: l) = Chute.tot x + sumT (fun y => Chute.tot y) l := by simp [sumT]
    rw [cntChute_cons, List.length_cons, hT]
    unfold Chute.tot
    unfold Chute.tot at ih
    omega
theorem markChute (l : List Chute) (k : Int) (h0 : 0 ≤ k) (hb : k + (cntChute l : Nat) ≤ 800000000) (hl : l.length ≤ 800000000) : ∃ l', L_markChuteS G.real TE.real l k = some (k + (cntChute l : Nat), l') ∧ l'.length = l.length ∧ L_heldChuteS G.real TE.real l' k = k + (cntChute l : Nat) := by
  obtain ⟨l', q1, q2, q3⟩ := markChute_l1 l [] k 1000000000 (by omega) h0 hb (by simp; omega)
  simp only [List.nil_append, List.length_nil] at q1
  refine ⟨l', ?_, q2, ?_⟩
  · unfold L_markChuteS; rw [show (0 : Int) = ((0 : Nat) : Int) from rfl, q1, cl_some]; dsimp only; rw [gd_true q2]
  · unfold L_heldChuteS; simp only [lP_eq, q3, lrp_out]
def cntInlet (l : List Inlet) : Nat := (l.map fun x => 1 + cntItem x.Wait).sum
theorem cntInlet_cons (x : Inlet) (l : List Inlet) : cntInlet (x :: l) = (1 + cntItem x.Wait) + cntInlet l := by simp [cntInlet]
theorem markInlet_l1 (l : List Inlet) : ∀ (pre : List Inlet) (k : Int) (n : Nat), l.length < n → 0 ≤ k → k + (cntInlet l : Nat) ≤ 800000000 → pre.length + l.length ≤ 800000000 →
    ∃ l', L_markInletS_l1 G.real TE.real n (pre ++ l) k pre.length = some (pre ++ l', k + (cntInlet l : Nat)) ∧ l'.length = l.length ∧ L_heldInletS_l1 G.real TE.real l' k = .out (k + (cntInlet l : Nat)) := by
  induction l with
  | nil =>
    intro pre k n hn h0 hb hp
    cases n with
    | zero => simp at hn
    | succ n =>
      refine ⟨[], ?_, rfl, ?_⟩
      · rw [L_markInletS_l1]; simp only [dlenx_Inlet, R_lt, R_int, lt_end, br_f]; simp [cntInlet]
      · rw [L_heldInletS_l1]; simp [cntInlet]
  | cons z l ih =>
    intro pre k n hn h0 hb hp
    cases n with
    | zero => simp at hn
    | succ n =>
      simp only [List.length_cons] at hn hp
      rw [cntInlet_cons] at hb
      have wp : G.real.wrap .i64 ((pre.length : Int) + 1) = (pre.length : Int) + 1 := w64 (by omega) (by omega)
      have lb1 := len_cntItem z.Wait
      have w0 : G.real.wrap .i64 (k + 1) = k + 1 := w64 (by omega) (by omega)
      obtain ⟨h1, e1, f1, g1⟩ := markItem z.Wait (k + 1) (by omega) (by omega) (by omega)
      obtain ⟨l', q1, q2, q3⟩ := ih (pre ++ [(Inlet.mk (k) (h1))]) ((k + 1) + (cntItem z.Wait : Nat)) n (by omega) (by omega) (by omega) (by simp; omega)
      refine ⟨(Inlet.mk (k) (h1)) :: l', ?_, by simp [q2], ?_⟩
      · rw [L_markInletS_l1]
        simp only [dlenx_Inlet, R_lt, R_int, R_nat, R_add, Int.toNat_natCast, lt_mid, br_t, gd_mid, gt_mid, lP_eq, set_mid, cl_some, w0]
        rw [e1, cl_some]
        dsimp only
        rw [gd_true f1]
        try simp only [dlenx_Inlet, R_lt, R_int, R_nat, R_add, Int.toNat_natCast, lt_mid, br_t, gd_mid, gt_mid, lP_eq, set_mid, cl_some, w0]
        try rw [wp]
        rw [mid_app, mid_len pre (Inlet.mk (k) (h1)), q1, cntInlet_cons]
        simp only [List.append_assoc, List.singleton_append, Option.some.injEq, Prod.mk.injEq, true_and]
        omega
      · rw [L_heldInletS_l1]
        try simp only [R_eq, R_seq, R_lt, R_add, decide_true, br_t, br_dec, lP_eq, cl_some, beq_self_eq_true, if_true, w0]
        rw [g1]
        try simp only [R_eq, R_seq, R_lt, R_add, decide_true, br_t, br_dec, lP_eq, cl_some, beq_self_eq_true, if_true, w0]
        rw [if_neg (by omega)]
        try simp only [R_eq, R_seq, R_lt, R_add, decide_true, br_t, br_dec, lP_eq, cl_some, beq_self_eq_true, if_true, w0]
        rw [q3, cntInlet_cons]
        congr 1
        omega
theorem len_cntInlet (l : List Inlet) : l.length ≤ cntInlet l := by
  induction l with
  | nil => simp
  | cons x l ih => rw [cntInlet_cons, List.length_cons]; omega
theorem cntInlet_le (l : List Inlet) : cntInlet l ≤ 16 * (l.length + sumT (fun y => Inlet.tot y) l) := by
  induction l with
  | nil => simp [cntInlet]
  | cons x l ih =>
    have n0 := cntItem_le x.Wait
    have hT : sumT (fun y => Inlet.tot y) (x :: l) = Inlet.tot x + sumT (fun y => Inlet.tot y) l := by simp [sumT]
    rw [cntInlet_cons, List.length_cons, hT]
    unfold Inlet.tot
    unfold Inlet.tot at ih
    omega
theorem markInlet (l : List Inlet) (k : Int) (h0 : 0 ≤ k) (hb : k + (cntInlet l : Nat) ≤ 800000000) (hl : l.length ≤ 800000000) : ∃ l', L_markInletS G.real TE.real l k = some (k + (cntInlet l : Nat), l') ∧ l'.length = l.length ∧ L_heldInletS G.real TE.real l' k = k + (cntInlet l : Nat) := by
  obtain ⟨l', q1, q2, q3⟩ := markInlet_l1 l [] k 1000000000 (by omega) h0 hb (by simp; omega)
  simp only [List.nil_append, List.length_nil] at q1
  refine ⟨l', ?_, q2, ?_⟩
  · unfold L_markInletS; rw [show (0 : Int) = ((0 : Nat) : Int) from rfl, q1, cl_some]; dsimp only; rw [gd_true q2]
  · unfold L_heldInletS; simp only [lP_eq, q3, lrp_out]
def cntI64 (l : List Int) : Nat := (l.map fun x => 1).sum
theorem cntI64_cons (x : Int) (l : List Int) : cntI64 (x :: l) = (1) + cntI64 l := by simp [cntI64]
theorem markI64_l1 (l : List Int) : ∀ (pre : List Int) (k : Int) (n : Nat), l.length < n → 0 ≤ k → k + (cntI64 l : Nat) ≤ 800000000 → pre.length + l.length ≤ 800000000 →
    ∃ l', L_markIntS_l1 G.real TE.real n (pre ++ l) k pre.length = some (pre ++ l', k + (cntI64 l : Nat)) ∧ l'.length = l.length ∧ L_heldIntS_l1 G.real TE.real l' k = .out (k + (cntI64 l : Nat)) := by
  induction l with
  | nil =>
    intro pre k n hn h0 hb hp
    cases n with
    | zero => simp at hn
    | succ n =>
      refine ⟨[], ?_, rfl, ?_⟩
      · rw [L_markIntS_l1]; simp only [dlenx_I64, R_lt, R_int, lt_end, br_f]; simp [cntI64]
      · rw [L_heldIntS_l1]; simp [cntI64]
  | cons z l ih =>
    intro pre k n hn h0 hb hp
    cases n with
    | zero => simp at hn
    | succ n =>
      simp only [List.length_cons] at hn hp
      rw [cntI64_cons] at hb
      have wp : G.real.wrap .i64 ((pre.length : Int) + 1) = (pre.length : Int) + 1 := w64 (by omega) (by omega)
      have w0 : G.real.wrap .i64 (k + 1) = k + 1 := w64 (by omega) (by omega)
      obtain ⟨l', q1, q2, q3⟩ := ih (pre ++ [(k)]) (k + 1) n (by omega) (by omega) (by omega) (by simp; omega)
      refine ⟨(k) :: l', ?_, by simp [q2], ?_⟩
      · rw [L_markIntS_l1]
        simp only [dlenx_I64, R_lt, R_int, R_nat, R_add, Int.toNat_natCast, lt_mid, br_t, gd_mid, gt_mid, lP_eq, set_mid, cl_some, w0]
        try rw [wp]
        rw [mid_app, mid_len pre (k), q1, cntI64_cons]
        simp only [List.append_assoc, List.singleton_append, Option.some.injEq, Prod.mk.injEq, true_and]
        omega
      · rw [L_heldIntS_l1]
        try simp only [R_eq, R_seq, R_lt, R_add, decide_true, br_t, br_dec, lP_eq, cl_some, beq_self_eq_true, if_true, w0]
        rw [q3, cntI64_cons]
        congr 1
        omega
theorem len_cntI64 (l : List Int) : l.length ≤ cntI64 l := by
  induction l with
  | nil => simp
  | cons x l ih => rw [cntI64_cons, List.length_cons]; omega
theorem cntI64_le (l : List Int) : cntI64 l ≤ 16 * l.length := by
  induction l with
  | nil => simp [cntI64]
  | cons x l ih => rw [cntI64_cons, List.length_cons]; omega
theorem markI64 (l : List Int) (k : Int) (h0 : 0 ≤ k) (hb : k + (cntI64 l : Nat) ≤ 800000000) (hl : l.length ≤ 800000000) : ∃ l', L_markIntS G.real TE.real l k = some (k + (cntI64 l : Nat), l') ∧ l'.length = l.length ∧ L_heldIntS G.real TE.real l' k = k + (cntI64 l : Nat) := by
  obtain ⟨l', q1, q2, q3⟩ := markI64_l1 l [] k 1000000000 (by omega) h0 hb (by simp; omega)
  simp only [List.nil_append, List.length_nil] at q1
  refine ⟨l', ?_, q2, ?_⟩
  · unfold L_markIntS; rw [show (0 : Int) = ((0 : Nat) : Int) from rfl, q1, cl_some]; dsimp only; rw [gd_true q2]
  · unfold L_heldIntS; simp only [lP_eq, q3, lrp_out]
def cntCentre (x : Centre) : Nat := cntItem x.Belt + cntChute x.Chutes + cntInlet x.Inlets + cntI64 x.Plan
theorem markCentre (x : Centre) (k : Int) (h0 : 0 ≤ k) (hb : k + (cntCentre x : Nat) ≤ 800000000) : ∃ x', L_markCentre G.real TE.real x k = some (k + (cntCentre x : Nat), x') ∧ x'.Belt.length = x.Belt.length ∧ x'.Chutes.length = x.Chutes.length ∧ x'.Inlets.length = x.Inlets.length ∧ x'.Plan.length = x.Plan.length ∧ ∀ (y_Now : Int), L_heldCentre G.real TE.real (Centre.mk x'.Belt x'.Chutes x'.Inlets x'.Plan y_Now) k = k + (cntCentre x : Nat) := by
  unfold cntCentre at hb
  have lb0 := len_cntItem x.Belt
  have lb1 := len_cntChute x.Chutes
  have lb2 := len_cntInlet x.Inlets
  have lb3 := len_cntI64 x.Plan
  obtain ⟨l0, e0, f0, g0⟩ := markItem x.Belt k (by omega) (by omega) (by omega)
  obtain ⟨l1, e1, f1, g1⟩ := markChute x.Chutes (k + (cntItem x.Belt : Nat)) (by omega) (by omega) (by omega)
  obtain ⟨l2, e2, f2, g2⟩ := markInlet x.Inlets ((k + (cntItem x.Belt : Nat)) + (cntChute x.Chutes : Nat)) (by omega) (by omega) (by omega)
  obtain ⟨l3, e3, f3, g3⟩ := markI64 x.Plan (((k + (cntItem x.Belt : Nat)) + (cntChute x.Chutes : Nat)) + (cntInlet x.Inlets : Nat)) (by omega) (by omega) (by omega)
  refine ⟨(Centre.mk l0 l1 l2 l3 x.Now), ?_, f0, f1, f2, f3, fun y_Now => ?_⟩
  · unfold L_markCentre cntCentre
    rw [e0, cl_some]; dsimp only; rw [gd_true f0]
    rw [e1, cl_some]; dsimp only; rw [gd_true f1]
    rw [e2, cl_some]; dsimp only; rw [gd_true f2]
    rw [e3, cl_some]; dsimp only; rw [gd_true f3]
    congr 2; omega
  · unfold L_heldCentre cntCentre
    dsimp only
    try rw [g0]
    try simp only [lP_eq, cl_some, R_lt, br_dec]
    try rw [if_neg (show ¬ _ < (0 : Int) by omega)]
    try rw [g1]
    try simp only [lP_eq, cl_some, R_lt, br_dec]
    try rw [if_neg (show ¬ _ < (0 : Int) by omega)]
    try rw [g2]
    try simp only [lP_eq, cl_some, R_lt, br_dec]
    try rw [if_neg (show ¬ _ < (0 : Int) by omega)]
    try rw [g3]
    try simp only [lP_eq, cl_some, R_lt, br_dec]
    try rw [if_neg (show ¬ _ < (0 : Int) by omega)]
    omega
theorem cntCentre_le (x : Centre) : cntCentre x ≤ 16 * Centre.tot x := by
  have n0 := cntItem_le x.Belt
  have n1 := cntChute_le x.Chutes
  have n2 := cntInlet_le x.Inlets
  have n3 := cntI64_le x.Plan
  unfold cntCentre Centre.tot
  omega
end Go.Vs
namespace Go.Vs
open Go.IntWalk
/-! Copies; what the laws over own results look at. -/
theorem gd_True {α : Type} {k : Option α} : gd True k = k := gd_true trivial
theorem copyItems_r (l : List Item) (h : l.length ≤ 2097152) : I_copyItems G.real TE.real l = some l := by
  unfold I_copyItems
  simp only [lP_eq]
  rw [gd_true (by simp; omega)]; rfl
theorem l7Items_r (l : List Item) (h : l.length ≤ 2097152) : S_l7Items G.real TE.real l = some l := by
  unfold S_l7Items
  simp only [lP_eq]
  rw [gd_true (by simp; omega)]; rfl
theorem l1Ints_r (l : List Int) (h : l.length ≤ 2097152) : S_l1Ints G.real TE.real l = some l := by
  unfold S_l1Ints
  simp only [lP_eq]
  rw [gd_true (by simp; omega)]; rfl
theorem copy_l1 (l : List Chute) : ∀ (w : List Chute), w.length + l.length ≤ 2097152 → (∀ x ∈ l, Chute.tot x ≤ 2097152) → I_copyCentre_l1 G.real TE.real l w = some (w ++ l) ∧ S_l7Copy_l1 G.real TE.real l w = some (w ++ l) := by
  induction l with
  | nil => intro w _ _; rw [I_copyCentre_l1, S_l7Copy_l1]; simp
  | cons z l ih =>
    intro w h ht
    have hz := ht z (by simp)
    unfold Chute.tot at hz
    simp only [List.length_cons] at h
    obtain ⟨i1, i2⟩ := ih (w ++ [z]) (by simp; omega) (fun x hx => ht x (by simp [hx]))
    rw [I_copyCentre_l1, S_l7Copy_l1, copyItems_r _ hz, l7Items_r _ hz]
    simp only [cl_some, lP_eq]
    rw [gd_true (by simp; omega), gd_true (by simp; omega)]
    simp only [List.append_assoc, List.singleton_append] at i1 i2
    exact ⟨by simpa using i1, by simpa using i2⟩
theorem copy_l2 (l : List Inlet) : ∀ (w : List Inlet), w.length + l.length ≤ 2097152 → (∀ x ∈ l, Inlet.tot x ≤ 2097152) → I_copyCentre_l2 G.real TE.real l w = some (w ++ l) ∧ S_l7Copy_l2 G.real TE.real l w = some (w ++ l) := by
  induction l with
  | nil => intro w _ _; rw [I_copyCentre_l2, S_l7Copy_l2]; simp
  | cons z l ih =>
    intro w h ht
    have hz := ht z (by simp)
    unfold Inlet.tot at hz
    simp only [List.length_cons] at h
    obtain ⟨i1, i2⟩ := ih (w ++ [z]) (by simp; omega) (fun x hx => ht x (by simp [hx]))
    rw [I_copyCentre_l2, S_l7Copy_l2, copyItems_r _ hz, l7Items_r _ hz]
    simp only [cl_some, lP_eq]
    rw [gd_true (by simp; omega), gd_true (by simp; omega)]
    simp only [List.append_assoc, List.singleton_append] at i1 i2
    exact ⟨by simpa using i1, by simpa using i2⟩
theorem tot_ch {c : Centre} {x : Chute} (hx : x ∈ c.Chutes) : x.Held.length ≤ c.tot := by
  have := sumT_mem (fun y => Chute.tot y) hx
  unfold Centre.tot
  simp only [Chute.tot] at *
  omega
theorem tot_in {c : Centre} {x : Inlet} (hx : x ∈ c.Inlets) : x.Wait.length ≤ c.tot := by
  have := sumT_mem (fun y => Inlet.tot y) hx
  unfold Centre.tot
  simp only [Inlet.tot] at *
  omega
theorem copy_r (c : Centre) (h : c.tot ≤ 2097152) : I_copyCentre G.real TE.real c = some c ∧ S_l7Copy G.real TE.real c = some c := by
  have h0 := h
  unfold Centre.tot at h
  obtain ⟨a1, a2⟩ := copy_l1 c.Chutes [] (by simp; omega) (fun x hx => by have := tot_ch hx; unfold Chute.tot; omega)
  obtain ⟨b1, b2⟩ := copy_l2 c.Inlets [] (by simp; omega) (fun x hx => by have := tot_in hx; unfold Inlet.tot; omega)
  unfold I_copyCentre S_l7Copy
  rw [a1, a2, b1, b2, copyItems_r _ (by omega), l7Items_r _ (by omega), l1Ints_r _ (by omega)]
  simp only [cl_some, lP_eq]
  rw [gd_true (by simp; omega)]
  exact ⟨rfl, rfl⟩
theorem tot_set_ch {c : Centre} {i : Nat} {x y : Chute} (h : c.Chutes[i]? = some x) (l : List Chute) (hl : l = c.Chutes.set i y) : sumT (fun y => Chute.tot y) l + Chute.tot x = sumT (fun y => Chute.tot y) c.Chutes + Chute.tot y := by
  subst hl
  generalize c.Chutes = m at *
  induction m generalizing i with
  | nil => simp at h
  | cons z m ih =>
    cases i with
    | zero => simp at h; subst h; simp only [List.set_cons_zero, sumT_cons]; omega
    | succ i =>
      have := ih (i := i) (by simpa using h)
      simp only [List.set_cons_succ, sumT_cons]
      omega
theorem tot_set_in {c : Centre} {i : Nat} {x y : Inlet} (h : c.Inlets[i]? = some x) (l : List Inlet) (hl : l = c.Inlets.set i y) : sumT (fun y => Inlet.tot y) l + Inlet.tot x = sumT (fun y => Inlet.tot y) c.Inlets + Inlet.tot y := by
  subst hl
  generalize c.Inlets = m at *
  induction m generalizing i with
  | nil => simp at h
  | cons z m ih =>
    cases i with
    | zero => simp at h; subst h; simp only [List.set_cons_zero, sumT_cons]; omega
    | succ i =>
      have := ih (i := i) (by simpa using h)
      simp only [List.set_cons_succ, sumT_cons]
      omega
theorem eqC_mk (c : Centre) (h : c.tot ≤ 1048576) : L_eqCentre G.real TE.real (Centre.mk c.Belt c.Chutes c.Inlets c.Plan c.Now) (Centre.mk c.Belt c.Chutes c.Inlets c.Plan c.Now) = some true := eqCentre_r c h
theorem nneg {k : Int} {n : Nat} (h : 0 ≤ k) : (k + (n : Int) < 0) = False := by simp; omega
/-- what is marked is held -/
theorem markC (c : Centre) (h : c.tot ≤ 1048576) : ∃ (n : Nat) (x' : Centre), n ≤ 16777216 ∧ L_markCentre G.real TE.real c 1 = some (1 + (n : Int), x') ∧ L_markCentre G.real TE.real (Centre.mk c.Belt c.Chutes c.Inlets c.Plan c.Now) 1 = some (1 + (n : Int), x') ∧
    x'.Belt.length = c.Belt.length ∧ x'.Chutes.length = c.Chutes.length ∧ x'.Inlets.length = c.Inlets.length ∧ x'.Plan.length = c.Plan.length ∧ ∀ y, L_heldCentre G.real TE.real (Centre.mk x'.Belt x'.Chutes x'.Inlets x'.Plan y) 1 = 1 + (n : Int) := by
  have hle := cntCentre_le c
  obtain ⟨x', e1, e2, e3, e4, e5, e6⟩ := markCentre c 1 (by omega) (by omega)
  exact ⟨_, x', by omega, e1, e1, e2, e3, e4, e5, e6⟩
end Go.Vs
