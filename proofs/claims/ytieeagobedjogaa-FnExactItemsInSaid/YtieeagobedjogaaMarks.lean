/- Part of the proofs of this seat's laws: Marks. No condition. -/
import Derived.Test.YtieeagobedjogaaPlain
import Derived.Test.YtieeagobedjogaaLac
import Derived.Test.YtieeagobedjogaaVf
import Derived.Test.YtieeagobedjogaaHb
import Derived.Test.YtieeagobedjogaaLaa
set_option linter.unusedVariables false
set_option linter.unusedSimpArgs false
set_option linter.unusedSectionVars false
namespace Go.Vs
open Go.IntWalk
/-! What waits, what is on the belt. -/
theorem iCountWait_l1 (l : List Inlet) : ∀ (v : Int), 0 ≤ v → v + (sumT (fun y => Inlet.tot y) l : Nat) < 4611686018427387904 → I_CountWait_l1 G.real TE.real l v = v + (sumT (fun y => Inlet.tot y) l : Nat) := by
  induction l with
  | nil => intro v _ _; rw [I_CountWait_l1]; simp [sumT]
  | cons z l ih =>
    intro v h0 h
    have e : Inlet.tot z = z.Wait.length := rfl
    rw [sumT_cons] at h ⊢
    rw [I_CountWait_l1]
    simp only [R_add, llen_Item]
    rw [w64 (by omega) (by omega), ih _ (by omega) (by omega)]
    omega
theorem iCountWait_r (c : Centre) (h : c.tot ≤ 1048576) : I_CountWait G.real TE.real c = (sumT (fun y => Inlet.tot y) c.Inlets : Nat) := by
  unfold Centre.tot at h
  unfold I_CountWait
  simp only [lP_eq]
  rw [iCountWait_l1 _ _ (by omega) (by omega)]
  omega
theorem iCountBelt_l1 (l : List Item) : ∀ (v : Int), 0 ≤ v → v + l.length < 4611686018427387904 → I_CountBelt_l1 G.real TE.real l v = v + (l.countP onB : Nat) := by
  induction l with
  | nil => intro v _ _; rw [I_CountBelt_l1]; simp
  | cons z l ih =>
    intro v h0 h
    simp only [List.length_cons] at h
    rw [I_CountBelt_l1]
    simp only [R_add, R_eq, br_dec]
    rw [w64 (by omega) (by omega), ih _ (by omega) (by omega), ih _ (by omega) (by omega), List.countP_cons]
    unfold onB
    by_cases hz : z.Id = 0
    · simp [hz]
    · simp [hz]; omega
theorem iCountBelt_r (c : Centre) (h : c.tot ≤ 1048576) : I_CountBelt G.real TE.real c = (c.Belt.countP onB : Nat) := by
  unfold Centre.tot at h
  unfold I_CountBelt
  simp only [lP_eq]
  rw [iCountBelt_l1 _ _ (by omega) (by omega)]
  omega
end Go.Vs
namespace Go.Vs
open Go.IntWalk
theorem sCountWait_l1 (l : List Inlet) : ∀ (v : Int), S_CountWait_l1 G.real TE.real l v = I_CountWait_l1 G.real TE.real l v := by
  induction l with
  | nil => intro v; rfl
  | cons z l ih => intro v; rw [S_CountWait_l1, I_CountWait_l1, ih]
theorem sCountWait_eq (c : Centre) : S_CountWait G.real TE.real c = I_CountWait G.real TE.real c := by
  unfold S_CountWait I_CountWait
  rw [sCountWait_l1]
theorem sCountBelt_l1 (l : List Item) : ∀ (v : Int), S_CountBelt_l1 G.real TE.real l v = I_CountBelt_l1 G.real TE.real l v := by
  induction l with
  | nil => intro v; rfl
  | cons z l ih => intro v; rw [S_CountBelt_l1, I_CountBelt_l1, ih, ih]
theorem sCountBelt_eq (c : Centre) : S_CountBelt G.real TE.real c = I_CountBelt G.real TE.real c := by
  unfold S_CountBelt I_CountBelt
  rw [sCountBelt_l1]
end Go.Vs
namespace Go.Vs
open Go.IntWalk
/-! A round at one place of a list. -/
theorem gt_mid {α β : Type} (pre l : List β) (x : β) (k : β → Option α) : gt (pre ++ x :: l) pre.length k = k x := gt_some (by simp)
theorem set_mid {β : Type} (pre l : List β) (x y : β) : (pre ++ x :: l).set pre.length y = pre ++ y :: l := by simp
theorem gd_mid {α β : Type} (pre l : List β) (x : β) (k : Option α) : gd ((0 : Int) ≤ (pre.length : Int) ∧ (pre.length : Int) < ((pre ++ x :: l).length : Nat)) k = k := gd_true (by simp; omega)
theorem lt_mid {β : Type} (pre l : List β) (x : β) : decide ((pre.length : Int) < ((pre ++ x :: l).length : Nat)) = true := by simp; omega
theorem lt_end {β : Type} (pre : List β) : decide ((pre.length : Int) < ((pre ++ []).length : Nat)) = false := by simp
theorem mid_app {β : Type} (pre l : List β) (x : β) : pre ++ x :: l = (pre ++ [x]) ++ l := by simp
theorem mid_len {β : Type} (pre : List β) (x : β) : ((pre.length : Nat) : Int) + 1 = (((pre ++ [x]).length : Nat) : Int) := by simp
end Go.Vs
namespace Go.Vs
open Go.IntWalk
set_option linter.unusedVariables false
set_option linter.unusedSimpArgs false
/-! What marks do. -/
def cntItem (l : List Item) : Nat := (l.map fun x => 2).sum
theorem cntItem_cons (x : Item) (l : List Item) : cntItem (x :: l) = (2) + cntItem l := by simp [cntItem]
theorem markItem_l1 (l : List Item) : ∀ (pre : List Item) (k : Int) (n : Nat), l.length < n → 0 ≤ k → k + (cntItem l : Nat) ≤ 800000000 → pre.length + l.length ≤ 800000000 →
    ∃ l', L_markItemS_l1 G.real TE.real n (pre ++ l) k pre.length = some (pre ++ l', k + (cntItem l : Nat)) ∧ l'.length = l.length ∧ L_heldItemS_l1 G.real TE.real l' k = .out (k + (cntItem l : Nat)) := by
  induction l with
  | nil =>
    intro pre k n hn h0 hb hp
    cases n with
    | zero => simp at hn
    | succ n =>
      refine ⟨[], ?_, rfl, ?_⟩
      · rw [L_markItemS_l1]; simp only [dlenx_Item, R_lt, R_int, lt_end, br_f]; simp [cntItem]
      · rw [L_heldItemS_l1]; simp [cntItem]
  | cons z l ih =>
    intro pre k n hn h0 hb hp
    cases n with
    | zero => simp at hn
    | succ n =>
      simp only [List.length_cons] at hn hp
      rw [cntItem_cons] at hb
      have wp : G.real.wrap .i64 ((pre.length : Int) + 1) = (pre.length : Int) + 1 := w64 (by omega) (by omega)
      have w0 : G.real.wrap .i64 (k + 1) = k + 1 := w64 (by omega) (by omega)
      have w1 : G.real.wrap .i64 ((k + 1) + 1) = (k + 1) + 1 := w64 (by omega) (by omega)
      obtain ⟨l', q1, q2, q3⟩ := ih (pre ++ [(Item.mk (k) ((k + 1)))]) ((k + 1) + 1) n (by omega) (by omega) (by omega) (by simp; omega)
      refine ⟨(Item.mk (k) ((k + 1))) :: l', ?_, by simp [q2], ?_⟩
      · rw [L_markItemS_l1]
        simp only [dlenx_Item, R_lt, R_int, R_nat, R_add, Int.toNat_natCast, lt_mid, br_t, gd_mid, gt_mid, lP_eq, set_mid, cl_some, w0, w1]
        try rw [wp]
        rw [mid_app, mid_len pre (Item.mk (k) ((k + 1))), q1, cntItem_cons]
        simp only [List.append_assoc, List.singleton_append, Option.some.injEq, Prod.mk.injEq, true_and]
        omega
      · rw [L_heldItemS_l1]
        try simp only [R_eq, R_seq, R_lt, R_add, decide_true, br_t, br_dec, lP_eq, cl_some, beq_self_eq_true, if_true, w0, w1]
        rw [q3, cntItem_cons]
        congr 1
        omega
theorem len_cntItem (l : List Item) : l.length ≤ cntItem l := by
  induction l with
  | nil => simp
  | cons x l ih => rw [cntItem_cons, List.length_cons]; omega
theorem cntItem_le (l : List Item) : cntItem l ≤ 16 * l.length := by
  induction l with
  | nil => simp [cntItem]
  | cons x l ih => rw [cntItem_cons, List.length_cons]; omega
theorem markItem (l : List Item) (k : Int) (h0 : 0 ≤ k) (hb : k + (cntItem l : Nat) ≤ 800000000) (hl : l.length ≤ 800000000) : ∃ l', L_markItemS G.real TE.real l k = some (k + (cntItem l : Nat), l') ∧ l'.length = l.length ∧ L_heldItemS G.real TE.real l' k = k + (cntItem l : Nat) := by
  obtain ⟨l', q1, q2, q3⟩ := markItem_l1 l [] k 1000000000 (by omega) h0 hb (by simp; omega)
  simp only [List.nil_append, List.length_nil] at q1
  refine ⟨l', ?_, q2, ?_⟩
  · unfold L_markItemS; rw [show (0 : Int) = ((0 : Nat) : Int) from rfl, q1, cl_some]; dsimp only; rw [gd_true q2]
  · unfold L_heldItemS; simp only [lP_eq, q3, lrp_out]
def cntChute (l : List Chute) : Nat := (l.map fun x => 2 + cntItem x.Held).sum
theorem cntChute_cons (x : Chute) (l : List Chute) : cntChute (x :: l) = (2 + cntItem x.Held) + cntChute l := by simp [cntChute]
theorem markChute_l1 (l : List Chute) : ∀ (pre : List Chute) (k : Int) (n : Nat), l.length < n → 0 ≤ k → k + (cntChute l : Nat) ≤ 800000000 → pre.length + l.length ≤ 800000000 →
    ∃ l', L_markChuteS_l1 G.real TE.real n (pre ++ l) k pre.length = some (pre ++ l', k + (cntChute l : Nat)) ∧ l'.length = l.length ∧ L_heldChuteS_l1 G.real TE.real l' k = .out (k + (cntChute l : Nat)) := by
  induction l with
  | nil =>
    intro pre k n hn h0 hb hp
    cases n with
    | zero => simp at hn
    | succ n =>
      refine ⟨[], ?_, rfl, ?_⟩
      · rw [L_markChuteS_l1]; simp only [dlenx_Chute, R_lt, R_int, lt_end, br_f]; simp [cntChute]
      · rw [L_heldChuteS_l1]; simp [cntChute]
  | cons z l ih =>
    intro pre k n hn h0 hb hp
    cases n with
    | zero => simp at hn
    | succ n =>
      simp only [List.length_cons] at hn hp
      rw [cntChute_cons] at hb
      have wp : G.real.wrap .i64 ((pre.length : Int) + 1) = (pre.length : Int) + 1 := w64 (by omega) (by omega)
      have lb1 := len_cntItem z.Held
      have w0 : G.real.wrap .i64 (k + 1) = k + 1 := w64 (by omega) (by omega)
      have w1 : G.real.wrap .i64 ((k + 1) + 1) = (k + 1) + 1 := w64 (by omega) (by omega)
      obtain ⟨h1, e1, f1, g1⟩ := markItem z.Held ((k + 1) + 1) (by omega) (by omega) (by omega)
      obtain ⟨l', q1, q2, q3⟩ := ih (pre ++ [(Chute.mk (k) ((k + 1)) (h1))]) (((k + 1) + 1) + (cntItem z.Held : Nat)) n (by omega) (by omega) (by omega) (by simp; omega)
      refine ⟨(Chute.mk (k) ((k + 1)) (h1)) :: l', ?_, by simp [q2], ?_⟩
      · rw [L_markChuteS_l1]
        simp only [dlenx_Chute, R_lt, R_int, R_nat, R_add, Int.toNat_natCast, lt_mid, br_t, gd_mid, gt_mid, lP_eq, set_mid, cl_some, w0, w1]
        rw [e1, cl_some]
        dsimp only
        rw [gd_true f1]
        try simp only [dlenx_Chute, R_lt, R_int, R_nat, R_add, Int.toNat_natCast, lt_mid, br_t, gd_mid, gt_mid, lP_eq, set_mid, cl_some, w0, w1]
        try rw [wp]
        rw [mid_app, mid_len pre (Chute.mk (k) ((k + 1)) (h1)), q1, cntChute_cons]
        simp only [List.append_assoc, List.singleton_append, Option.some.injEq, Prod.mk.injEq, true_and]
        omega
      · rw [L_heldChuteS_l1]
        try simp only [R_eq, R_seq, R_lt, R_add, decide_true, br_t, br_dec, lP_eq, cl_some, beq_self_eq_true, if_true, w0, w1]
        rw [g1]
        try simp only [R_eq, R_seq, R_lt, R_add, decide_true, br_t, br_dec, lP_eq, cl_some, beq_self_eq_true, if_true, w0, w1]
        rw [if_neg (by omega)]
        try simp only [R_eq, R_seq, R_lt, R_add, decide_true, br_t, br_dec, lP_eq, cl_some, beq_self_eq_true, if_true, w0, w1]
        rw [q3, cntChute_cons]
        congr 1
        omega
theorem len_cntChute (l : List Chute) : l.length ≤ cntChute l := by
  induction l with
  | nil => simp
  | cons x l ih => rw [cntChute_cons, List.length_cons]; omega
theorem cntChute_le (l : List Chute) : cntChute l ≤ 16 * (l.length + sumT (fun y => Chute.tot y) l) := by
  induction l with
  | nil => simp [cntChute]
  | cons x l ih =>
    have n0 := cntItem_le x.Held
    have hT : sumT (fun y => Chute.tot y) (x :: l) = Chute.tot x + sumT (fun y => Chute.tot y) l := by simp [sumT]
    rw [cntChute_cons, List.length_cons, hT]
    unfold Chute.tot
    unfold Chute.tot at ih
    omega
theorem markChute (l : List Chute) (k : Int) (h0 : 0 ≤ k) (hb : k + (cntChute l : Nat) ≤ 800000000) (hl : l.length ≤ 800000000) : ∃ l', L_markChuteS G.real TE.real l k = some (k + (cntChute l : Nat), l') ∧ l'.length = l.length ∧ L_heldChuteS G.real TE.real l' k = k + (cntChute l : Nat) := by
  obtain ⟨l', q1, q2, q3⟩ := markChute_l1 l [] k 1000000000 (by omega) h0 hb (by simp; omega)
  simp only [List.nil_append, List.length_nil] at q1
  refine ⟨l', ?_, q2, ?_⟩
  · unfold L_markChuteS; rw [show (0 : Int) = ((0 : Nat) : Int) from rfl, q1, cl_some]; dsimp only; rw [gd_true q2]
  · unfold L_heldChuteS; simp only [lP_eq, q3, lrp_out]
def cntInlet (l : List Inlet) : Nat := (l.map fun x => 1 + cntItem x.Wait).sum
theorem cntInlet_cons (x : Inlet) (l : List Inlet) : cntInlet (x :: l) = (1 + cntItem x.Wait) + cntInlet l := by simp [cntInlet]
theorem markInlet_l1 (l : List Inlet) : ∀ (pre : List Inlet) (k : Int) (n : Nat), l.length < n → 0 ≤ k → k + (cntInlet l : Nat) ≤ 800000000 → pre.length + l.length ≤ 800000000 →
    ∃ l', L_markInletS_l1 G.real TE.real n (pre ++ l) k pre.length = some (pre ++ l', k + (cntInlet l : Nat)) ∧ l'.length = l.length ∧ L_heldInletS_l1 G.real TE.real l' k = .out (k + (cntInlet l : Nat)) := by
  induction l with
  | nil =>
    intro pre k n hn h0 hb hp
    cases n with
    | zero => simp at hn
    | succ n =>
      refine ⟨[], ?_, rfl, ?_⟩
      · rw [L_markInletS_l1]; simp only [dlenx_Inlet, R_lt, R_int, lt_end, br_f]; simp [cntInlet]
      · rw [L_heldInletS_l1]; simp [cntInlet]
  | cons z l ih =>
    intro pre k n hn h0 hb hp
    cases n with
    | zero => simp at hn
    | succ n =>
      simp only [List.length_cons] at hn hp
      rw [cntInlet_cons] at hb
      have wp : G.real.wrap .i64 ((pre.length : Int) + 1) = (pre.length : Int) + 1 := w64 (by omega) (by omega)
      have lb1 := len_cntItem z.Wait
      have w0 : G.real.wrap .i64 (k + 1) = k + 1 := w64 (by omega) (by omega)
      obtain ⟨h1, e1, f1, g1⟩ := markItem z.Wait (k + 1) (by omega) (by omega) (by omega)
      obtain ⟨l', q1, q2, q3⟩ := ih (pre ++ [(Inlet.mk (k) (h1))]) ((k + 1) + (cntItem z.Wait : Nat)) n (by omega) (by omega) (by omega) (by simp; omega)
      refine ⟨(Inlet.mk (k) (h1)) :: l', ?_, by simp [q2], ?_⟩
      · rw [L_markInletS_l1]
        simp only [dlenx_Inlet, R_lt, R_int, R_nat, R_add, Int.toNat_natCast, lt_mid, br_t, gd_mid, gt_mid, lP_eq, set_mid, cl_some, w0]
        rw [e1, cl_some]
        dsimp only
        rw [gd_true f1]
        try simp only [dlenx_Inlet, R_lt, R_int, R_nat, R_add, Int.toNat_natCast, lt_mid, br_t, gd_mid, gt_mid, lP_eq, set_mid, cl_some, w0]
        try rw [wp]
        rw [mid_app, mid_len pre (Inlet.mk (k) (h1)), q1, cntInlet_cons]
        simp only [List.append_assoc, List.singleton_append, Option.some.injEq, Prod.mk.injEq, true_and]
        omega
      · rw [L_heldInletS_l1]
        try simp only [R_eq, R_seq, R_lt, R_add, decide_true, br_t, br_dec, lP_eq, cl_some, beq_self_eq_true, if_true, w0]
        rw [g1]
        try simp only [R_eq, R_seq, R_lt, R_add, decide_true, br_t, br_dec, lP_eq, cl_some, beq_self_eq_true, if_true, w0]
        rw [if_neg (by omega)]
        try simp only [R_eq, R_seq, R_lt, R_add, decide_true, br_t, br_dec, lP_eq, cl_some, beq_self_eq_true, if_true, w0]
        rw [q3, cntInlet_cons]
        congr 1
        omega
theorem len_cntInlet (l : List Inlet) : l.length ≤ cntInlet l := by
  induction l with
  | nil => simp
  | cons x l ih => rw [cntInlet_cons, List.length_cons]; omega
theorem cntInlet_le (l : List Inlet) : cntInlet l ≤ 16 * (l.length + sumT (fun y => Inlet.tot y) l) := by
  induction l with
  | nil => simp [cntInlet]
  | cons x l ih =>
    have n0 := cntItem_le x.Wait
    have hT : sumT (fun y => Inlet.tot y) (x :: l) = Inlet.tot x + sumT (fun y => Inlet.tot y) l := by simp [sumT]
    rw [cntInlet_cons, List.length_cons, hT]
    unfold Inlet.tot
    unfold Inlet.tot at ih
    omega
theorem markInlet (l : List Inlet) (k : Int) (h0 : 0 ≤ k) (hb : k + (cntInlet l : Nat) ≤ 800000000) (hl : l.length ≤ 800000000) : ∃ l', L_markInletS G.real TE.real l k = some (k + (cntInlet l : Nat), l') ∧ l'.length = l.length ∧ L_heldInletS G.real TE.real l' k = k + (cntInlet l : Nat) := by
  obtain ⟨l', q1, q2, q3⟩ := markInlet_l1 l [] k 1000000000 (by omega) h0 hb (by simp; omega)
  simp only [List.nil_append, List.length_nil] at q1
  refine ⟨l', ?_, q2, ?_⟩
  · unfold L_markInletS; rw [show (0 : Int) = ((0 : Nat) : Int) from rfl, q1, cl_some]; dsimp only; rw [gd_true q2]
  · unfold L_heldInletS; simp only [lP_eq, q3, lrp_out]
def cntI64 (l : List Int) : Nat := (l.map fun x => 1).sum
theorem cntI64_cons (x : Int) (l : List Int) : cntI64 (x :: l) = (1) + cntI64 l := by simp [cntI64]
theorem markI64_l1 (l : List Int) : ∀ (pre : List Int) (k : Int) (n : Nat), l.length < n → 0 ≤ k → k + (cntI64 l : Nat) ≤ 800000000 → pre.length + l.length ≤ 800000000 →
    ∃ l', L_markIntS_l1 G.real TE.real n (pre ++ l) k pre.length = some (pre ++ l', k + (cntI64 l : Nat)) ∧ l'.length = l.length ∧ L_heldIntS_l1 G.real TE.real l' k = .out (k + (cntI64 l : Nat)) := by
  induction l with
  | nil =>
    intro pre k n hn h0 hb hp
    cases n with
    | zero => simp at hn
    | succ n =>
      refine ⟨[], ?_, rfl, ?_⟩
      · rw [L_markIntS_l1]; simp only [dlenx_I64, R_lt, R_int, lt_end, br_f]; simp [cntI64]
      · rw [L_heldIntS_l1]; simp [cntI64]
  | cons z l ih =>
    intro pre k n hn h0 hb hp
    cases n with
    | zero => simp at hn
    | succ n =>
      simp only [List.length_cons] at hn hp
      rw [cntI64_cons] at hb
      have wp : G.real.wrap .i64 ((pre.length : Int) + 1) = (pre.length : Int) + 1 := w64 (by omega) (by omega)
      have w0 : G.real.wrap .i64 (k + 1) = k + 1 := w64 (by omega) (by omega)
      obtain ⟨l', q1, q2, q3⟩ := ih (pre ++ [(k)]) (k + 1) n (by omega) (by omega) (by omega) (by simp; omega)
      refine ⟨(k) :: l', ?_, by simp [q2], ?_⟩
      · rw [L_markIntS_l1]
        simp only [dlenx_I64, R_lt, R_int, R_nat, R_add, Int.toNat_natCast, lt_mid, br_t, gd_mid, gt_mid, lP_eq, set_mid, cl_some, w0]
        try rw [wp]
        rw [mid_app, mid_len pre (k), q1, cntI64_cons]
        simp only [List.append_assoc, List.singleton_append, Option.some.injEq, Prod.mk.injEq, true_and]
        omega
      · rw [L_heldIntS_l1]
        try simp only [R_eq, R_seq, R_lt, R_add, decide_true, br_t, br_dec, lP_eq, cl_some, beq_self_eq_true, if_true, w0]
        rw [q3, cntI64_cons]
        congr 1
        omega
theorem len_cntI64 (l : List Int) : l.length ≤ cntI64 l := by
  induction l with
  | nil => simp
  | cons x l ih => rw [cntI64_cons, List.length_cons]; omega
theorem cntI64_le (l : List Int) : cntI64 l ≤ 16 * l.length := by
  induction l with
  | nil => simp [cntI64]
  | cons x l ih => rw [cntI64_cons, List.length_cons]; omega
theorem markI64 (l : List Int) (k : Int) (h0 : 0 ≤ k) (hb : k + (cntI64 l : Nat) ≤ 800000000) (hl : l.length ≤ 800000000) : ∃ l', L_markIntS G.real TE.real l k = some (k + (cntI64 l : Nat), l') ∧ l'.length = l.length ∧ L_heldIntS G.real TE.real l' k = k + (cntI64 l : Nat) := by
  obtain ⟨l', q1, q2, q3⟩ := markI64_l1 l [] k 1000000000 (by omega) h0 hb (by simp; omega)
  simp only [List.nil_append, List.length_nil] at q1
  refine ⟨l', ?_, q2, ?_⟩
  · unfold L_markIntS; rw [show (0 : Int) = ((0 : Nat) : Int) from rfl, q1, cl_some]; dsimp only; rw [gd_true q2]
  · unfold L_heldIntS; simp only [lP_eq, q3, lrp_out]
def cntCentre (x : Centre) : Nat := cntItem x.Belt + cntChute x.Chutes + cntInlet x.Inlets + cntI64 x.Plan
theorem markCentre (x : Centre) (k : Int) (h0 : 0 ≤ k) (hb : k + (cntCentre x : Nat) ≤ 800000000) : ∃ x', L_markCentre G.real TE.real x k = some (k + (cntCentre x : Nat), x') ∧ x'.Belt.length = x.Belt.length ∧ x'.Chutes.length = x.Chutes.length ∧ x'.Inlets.length = x.Inlets.length ∧ x'.Plan.length = x.Plan.length ∧ ∀ (y_Now : Int), L_heldCentre G.real TE.real (Centre.mk x'.Belt x'.Chutes x'.Inlets x'.Plan y_Now) k = k + (cntCentre x : Nat) := by
  unfold cntCentre at hb
  have lb0 := len_cntItem x.Belt
  have lb1 := len_cntChute x.Chutes
  have lb2 := len_cntInlet x.Inlets
  have lb3 := len_cntI64 x.Plan
  obtain ⟨l0, e0, f0, g0⟩ := markItem x.Belt k (by omega) (by omega) (by omega)
  obtain ⟨l1, e1, f1, g1⟩ := markChute x.Chutes (k + (cntItem x.Belt : Nat)) (by omega) (by omega) (by omega)
  obtain ⟨l2, e2, f2, g2⟩ := markInlet x.Inlets ((k + (cntItem x.Belt : Nat)) + (cntChute x.Chutes : Nat)) (by omega) (by omega) (by omega)
  obtain ⟨l3, e3, f3, g3⟩ := markI64 x.Plan (((k + (cntItem x.Belt : Nat)) + (cntChute x.Chutes : Nat)) + (cntInlet x.Inlets : Nat)) (by omega) (by omega) (by omega)
  refine ⟨(Centre.mk l0 l1 l2 l3 x.Now), ?_, f0, f1, f2, f3, fun y_Now => ?_⟩
  · unfold L_markCentre cntCentre
    rw [e0, cl_some]; dsimp only; rw [gd_true f0]
    rw [e1, cl_some]; dsimp only; rw [gd_true f1]
    rw [e2, cl_some]; dsimp only; rw [gd_true f2]
    rw [e3, cl_some]; dsimp only; rw [gd_true f3]
    congr 2; omega
  · unfold L_heldCentre cntCentre
    dsimp only
    try rw [g0]
    try simp only [lP_eq, cl_some, R_lt, br_dec]
    try rw [if_neg (show ¬ _ < (0 : Int) by omega)]
    try rw [g1]
    try simp only [lP_eq, cl_some, R_lt, br_dec]
    try rw [if_neg (show ¬ _ < (0 : Int) by omega)]
    try rw [g2]
    try simp only [lP_eq, cl_some, R_lt, br_dec]
    try rw [if_neg (show ¬ _ < (0 : Int) by omega)]
    try rw [g3]
    try simp only [lP_eq, cl_some, R_lt, br_dec]
    try rw [if_neg (show ¬ _ < (0 : Int) by omega)]
    omega
theorem cntCentre_le (x : Centre) : cntCentre x ≤ 16 * Centre.tot x := by
  have n0 := cntItem_le x.Belt
  have n1 := cntChute_le x.Chutes
  have n2 := cntInlet_le x.Inlets
  have n3 := cntI64_le x.Plan
  unfold cntCentre Centre.tot
  omega
end Go.Vs
namespace Go.Vs
open Go.IntWalk
theorem eqC_mk (c : Centre) (h : c.tot ≤ 1048576) : L_eqCentre G.real TE.real (Centre.mk c.Belt c.Chutes c.Inlets c.Plan c.Now) (Centre.mk c.Belt c.Chutes c.Inlets c.Plan c.Now) = some true := eqCentre_r c h
theorem nneg {k : Int} {n : Nat} (h : 0 ≤ k) : (k + (n : Int) < 0) = False := by simp; omega
/-- what is marked is held -/
theorem markC (c : Centre) (h : c.tot ≤ 1048576) : ∃ (n : Nat) (x' : Centre), n ≤ 16777216 ∧ L_markCentre G.real TE.real c 1 = some (1 + (n : Int), x') ∧ L_markCentre G.real TE.real (Centre.mk c.Belt c.Chutes c.Inlets c.Plan c.Now) 1 = some (1 + (n : Int), x') ∧
    x'.Belt.length = c.Belt.length ∧ x'.Chutes.length = c.Chutes.length ∧ x'.Inlets.length = c.Inlets.length ∧ x'.Plan.length = c.Plan.length ∧ ∀ y, L_heldCentre G.real TE.real (Centre.mk x'.Belt x'.Chutes x'.Inlets x'.Plan y) 1 = 1 + (n : Int) := by
  have hle := cntCentre_le c
  obtain ⟨x', e1, e2, e3, e4, e5, e6⟩ := markCentre c 1 (by omega) (by omega)
  exact ⟨_, x', by omega, e1, e1, e2, e3, e4, e5, e6⟩
end Go.Vs
