/- Part of the proofs of this seat's laws: L2b. No condition. -/
import Derived.Test.YtieeagobedjogaaTy
import Derived.Test.YtieeagobedjogaaTIRall
import Derived.Test.YtieeagobedjogaaL1b
set_option linter.unusedVariables false
set_option linter.unusedSimpArgs false
set_option linter.unusedSectionVars false
namespace Go.Vs
open Go.Proofs Go.IntWalk
set_option linter.unusedVariables false
set_option maxRecDepth 100000
set_option maxHeartbeats 4000000
def L_heldChuteS_l1 (g : G) (t : TE) : List Chute → Int → LR Int Int
  | [], v1 =>
    (LR.out v1)
  | z1 :: ls1, v1 =>
    br (g.eq z1.Cell v1)
    (
     br (g.eq z1.Room (g.wrap .i64 (g.add v1 1)))
     (
      lP (L_heldItemS g t z1.Held (g.wrap .i64 (g.add (g.wrap .i64 (g.add v1 1)) 1))) fun x1 =>
      br (g.lt x1 0)
      (
       (LR.ret (-1)))
      (
       L_heldChuteS_l1 g t ls1 x1))
     (
      (LR.ret (-1))))
    (
     (LR.ret (-1)))
def L_heldChuteS (g : G) (t : TE) (a0 : List Chute) (a1 : Int) : Int :=
  lP (L_heldChuteS_l1 g t a0 a1) fun o1 => lrp o1 fun y1 =>
  y1
theorem fit99 : codeFit Try.prog Try.f99.ntmps (Try.f99.body.getD .skip) ir99 = true := by kernel_rfl
theorem c_L_heldChuteS {g : G} {t : TE} {a0 : List Chute} {a1 : Int} {r : Int} (hg : g = G.real) (ht : t = TE.real) (h : L_heldChuteS g t a0 a1 = r) : Fn Try.prog 99 [.c (.s 3 (t.r_Chute a0)), .c (.v (.int .i64 a1))] (.c (.r (.v (.int .i64 r)))) := by
  obtain ⟨X, hX⟩ := hide (.c (.r (.v (.int .i64 r))) : X)
  rw [← hX]
  refine fn_of (rvs := rv99) (j := ir99) Try.func99 rfl fit99 (Nat.le_of_ble_eq_true rfl) (by kernel_rfl) prog_mixed ?_
  intro g2 F hg2 hF
  obtain rfl : g2 = g := hg2.unique.trans hg.symm
  clear hg2
  obtain ⟨wrap, lt, le, eq, quo, rem, band, bor, bxor, shl, shr, nat, int, add, sub, mul, cat, seq, slt, sub3, byte, llen, nadd, nsub, dlen, dapp, dset, drep, rd, rda, up, rsub, dsub, all, sle, slen⟩ := g2
  obtain ⟨r_Item, d_Item, r_Chute, d_Chute, r_Inlet, d_Inlet, r_I64, d_I64, r_U8, d_U8⟩ := t
  unfold L_heldChuteS at h
  try dsimp only at h
  cbv
  obtain ⟨o1, ho1, h⟩ := of_lP h
  try dsimp only at h
  try rw [hg] at ho1
  try rw [ht] at ho1
  refine ABL.mk { p : Nat × Int × Int // p.1 ≤ a0.length ∧ p.2.1 = ((p.1 : Nat) : Int) ∧ L_heldChuteS_l1 G.real TE.real (List.drop p.1 a0) p.2.2 = o1 } (fun ⟨⟨k1, v2, v1⟩, _⟩ => ({ sl := [(0, .c (.r (.s 3 (r_Chute a0)))), (1, .c (.r (.v (.int .i64 v1)))), (5, .c (.r (.v (.int .i64 v2))))], tab := [] } : St)) 0 (fun p => a0.length - p.1.1) ⟨(0, 0, a1), Nat.zero_le _, rfl, ho1⟩ (Int) (fun y1 => ({ sl := [(1, .c (.r (.v (.int .i64 y1))))], tab := [] } : St)) 0 (fun y => o1 = LR.out y) ?_ ?_ ?_
  · refine Wk.of [] rfl rfl ?_ ?_
    · cbv
      all_goals exact ⟨⟨_, rfl, rfl⟩, ⟨_, rfl, rfl⟩, ⟨_, rfl, rfl⟩, trivial⟩
    · cbv
      all_goals exact trivial
  · rintro ⟨⟨k1, v2, v1⟩, hk1, hi1, h_1⟩ hq1
    have hm1 := (hq1.1 0 _ _ rfl)
    try dsimp only at hk1 hi1 h_1
    clear hq1
    cbv
    by_cases hc1_ : k1 < a0.length
    · have hb1 : lt v2 (llen (r_Chute a0)) = true := ltL_true_Chute hg ht hi1 hc1_
      have hs1 := stepL_Chute hg ht hi1 hc1_ hm1
      obtain ⟨z1, hz1⟩ := some_of_lt hc1_
      rw [drop_of_some hz1] at h_1
      rw [L_heldChuteS_l1] at h_1
      obtain ⟨z1_Cell, z1_Room, z1_Held⟩ := z1
      try rw [← hg] at h_1
      try rw [← ht] at h_1
      try dsimp only at h_1
      rw [hb1]
      cbv
      refine AStep.mk (nn_L hi1) ?_
      cbv
      refine AGet.mk _ (r_getL_Chute hg ht hi1 hz1) ?_
      cbv
      cases hb2 : (eq z1_Cell v1) with
      | true =>
        rw [br_true hb2] at h_1
        cbv
        refine AStep.mk (nn_L hi1) ?_
        cbv
        refine AGet.mk _ (r_getL_Chute hg ht hi1 hz1) ?_
        cbv
        cases hb3 : (eq z1_Room (wrap .i64 (add v1 1))) with
        | true =>
          rw [br_true hb3] at h_1
          cbv
          refine AStep.mk (nn_L hi1) ?_
          cbv
          refine AGet.mk _ (r_getL_Chute hg ht hi1 hz1) ?_
          cbv
          obtain ⟨x1, hx1, h_1⟩ := of_lP h_1
          try dsimp only at h_1
          refine ACall.mk _ _ rfl (hF _ _ _ (c_L_heldItemS hg ht hx1)) (.inl rfl) (Nat.le_of_ble_eq_true rfl) ?_
          cbv
          cases hb4 : (lt x1 0) with
          | true =>
            rw [br_true hb4] at h_1
            cbv
            subst h_1
            try dsimp only [lr, lrL, lrp, lrpL] at h
            subst h
            exact ARet.mk trivial hX.symm
          | false =>
            rw [br_false hb4] at h_1
            cbv
            try rw [hg] at h_1
            try rw [ht] at h_1
            refine ⟨⟨(k1 + 1, (wrap .i64 (add v2 1)), x1), hc1_, hs1, h_1⟩, Wk.of [] rfl rfl ?_ ?_, meas_L hc1_⟩
            · cbv
              all_goals exact ⟨⟨_, rfl, rfl⟩, ⟨_, rfl, rfl⟩, ⟨_, rfl, rfl⟩, trivial⟩
            · cbv
              all_goals exact trivial
        | false =>
          rw [br_false hb3] at h_1
          cbv
          subst h_1
          try dsimp only [lr, lrL, lrp, lrpL] at h
          subst h
          exact ARet.mk trivial hX.symm
      | false =>
        rw [br_false hb2] at h_1
        cbv
        subst h_1
        try dsimp only [lr, lrL, lrp, lrpL] at h
        subst h
        exact ARet.mk trivial hX.symm
    · have hb1 : lt v2 (llen (r_Chute a0)) = false := ltL_false_Chute hg ht hi1 hc1_
      rw [List.drop_of_length_le (Nat.le_of_not_lt hc1_)] at h_1
      rw [L_heldChuteS_l1] at h_1
      try rw [← hg] at h_1
      try rw [← ht] at h_1
      try dsimp only at h_1
      rw [hb1]
      cbv
      refine ⟨v1, Wk.of [] rfl rfl ?_ ?_, h_1.symm⟩
      · cbv
        all_goals exact ⟨⟨_, rfl, rfl⟩, trivial⟩
      · cbv
        all_goals exact trivial
  · rintro y1 hy1
    replace hy1 := hy1.symm
    subst hy1
    try dsimp only [lr, lrL, lrp, lrpL] at h
    cbv
    subst h
    exact ARet.mk trivial hX.symm
end Go.Vs
namespace Go.Vs
open Go.Proofs Go.IntWalk
set_option linter.unusedVariables false
set_option maxRecDepth 100000
set_option maxHeartbeats 4000000
def L_heldInletS_l1 (g : G) (t : TE) : List Inlet → Int → LR Int Int
  | [], v1 =>
    (LR.out v1)
  | z1 :: ls1, v1 =>
    br (g.eq z1.Cell v1)
    (
     lP (L_heldItemS g t z1.Wait (g.wrap .i64 (g.add v1 1))) fun x1 =>
     br (g.lt x1 0)
     (
      (LR.ret (-1)))
     (
      L_heldInletS_l1 g t ls1 x1))
    (
     (LR.ret (-1)))
def L_heldInletS (g : G) (t : TE) (a0 : List Inlet) (a1 : Int) : Int :=
  lP (L_heldInletS_l1 g t a0 a1) fun o1 => lrp o1 fun y1 =>
  y1
theorem fit100 : codeFit Try.prog Try.f100.ntmps (Try.f100.body.getD .skip) ir100 = true := by kernel_rfl
theorem c_L_heldInletS {g : G} {t : TE} {a0 : List Inlet} {a1 : Int} {r : Int} (hg : g = G.real) (ht : t = TE.real) (h : L_heldInletS g t a0 a1 = r) : Fn Try.prog 100 [.c (.s 2 (t.r_Inlet a0)), .c (.v (.int .i64 a1))] (.c (.r (.v (.int .i64 r)))) := by
  obtain ⟨X, hX⟩ := hide (.c (.r (.v (.int .i64 r))) : X)
  rw [← hX]
  refine fn_of (rvs := rv100) (j := ir100) Try.func100 rfl fit100 (Nat.le_of_ble_eq_true rfl) (by kernel_rfl) prog_mixed ?_
  intro g2 F hg2 hF
  obtain rfl : g2 = g := hg2.unique.trans hg.symm
  clear hg2
  obtain ⟨wrap, lt, le, eq, quo, rem, band, bor, bxor, shl, shr, nat, int, add, sub, mul, cat, seq, slt, sub3, byte, llen, nadd, nsub, dlen, dapp, dset, drep, rd, rda, up, rsub, dsub, all, sle, slen⟩ := g2
  obtain ⟨r_Item, d_Item, r_Chute, d_Chute, r_Inlet, d_Inlet, r_I64, d_I64, r_U8, d_U8⟩ := t
  unfold L_heldInletS at h
  try dsimp only at h
  cbv
  obtain ⟨o1, ho1, h⟩ := of_lP h
  try dsimp only at h
  try rw [hg] at ho1
  try rw [ht] at ho1
  refine ABL.mk { p : Nat × Int × Int // p.1 ≤ a0.length ∧ p.2.1 = ((p.1 : Nat) : Int) ∧ L_heldInletS_l1 G.real TE.real (List.drop p.1 a0) p.2.2 = o1 } (fun ⟨⟨k1, v2, v1⟩, _⟩ => ({ sl := [(0, .c (.r (.s 2 (r_Inlet a0)))), (1, .c (.r (.v (.int .i64 v1)))), (5, .c (.r (.v (.int .i64 v2))))], tab := [] } : St)) 0 (fun p => a0.length - p.1.1) ⟨(0, 0, a1), Nat.zero_le _, rfl, ho1⟩ (Int) (fun y1 => ({ sl := [(1, .c (.r (.v (.int .i64 y1))))], tab := [] } : St)) 0 (fun y => o1 = LR.out y) ?_ ?_ ?_
  · refine Wk.of [] rfl rfl ?_ ?_
    · cbv
      all_goals exact ⟨⟨_, rfl, rfl⟩, ⟨_, rfl, rfl⟩, ⟨_, rfl, rfl⟩, trivial⟩
    · cbv
      all_goals exact trivial
  · rintro ⟨⟨k1, v2, v1⟩, hk1, hi1, h_1⟩ hq1
    have hm1 := (hq1.1 0 _ _ rfl)
    try dsimp only at hk1 hi1 h_1
    clear hq1
    cbv
    by_cases hc1_ : k1 < a0.length
    · have hb1 : lt v2 (llen (r_Inlet a0)) = true := ltL_true_Inlet hg ht hi1 hc1_
      have hs1 := stepL_Inlet hg ht hi1 hc1_ hm1
      obtain ⟨z1, hz1⟩ := some_of_lt hc1_
      rw [drop_of_some hz1] at h_1
      rw [L_heldInletS_l1] at h_1
      obtain ⟨z1_Cell, z1_Wait⟩ := z1
      try rw [← hg] at h_1
      try rw [← ht] at h_1
      try dsimp only at h_1
      rw [hb1]
      cbv
      refine AStep.mk (nn_L hi1) ?_
      cbv
      refine AGet.mk _ (r_getL_Inlet hg ht hi1 hz1) ?_
      cbv
      cases hb2 : (eq z1_Cell v1) with
      | true =>
        rw [br_true hb2] at h_1
        cbv
        refine AStep.mk (nn_L hi1) ?_
        cbv
        refine AGet.mk _ (r_getL_Inlet hg ht hi1 hz1) ?_
        cbv
        obtain ⟨x1, hx1, h_1⟩ := of_lP h_1
        try dsimp only at h_1
        refine ACall.mk _ _ rfl (hF _ _ _ (c_L_heldItemS hg ht hx1)) (.inl rfl) (Nat.le_of_ble_eq_true rfl) ?_
        cbv
        cases hb3 : (lt x1 0) with
        | true =>
          rw [br_true hb3] at h_1
          cbv
          subst h_1
          try dsimp only [lr, lrL, lrp, lrpL] at h
          subst h
          exact ARet.mk trivial hX.symm
        | false =>
          rw [br_false hb3] at h_1
          cbv
          try rw [hg] at h_1
          try rw [ht] at h_1
          refine ⟨⟨(k1 + 1, (wrap .i64 (add v2 1)), x1), hc1_, hs1, h_1⟩, Wk.of [] rfl rfl ?_ ?_, meas_L hc1_⟩
          · cbv
            all_goals exact ⟨⟨_, rfl, rfl⟩, ⟨_, rfl, rfl⟩, ⟨_, rfl, rfl⟩, trivial⟩
          · cbv
            all_goals exact trivial
      | false =>
        rw [br_false hb2] at h_1
        cbv
        subst h_1
        try dsimp only [lr, lrL, lrp, lrpL] at h
        subst h
        exact ARet.mk trivial hX.symm
    · have hb1 : lt v2 (llen (r_Inlet a0)) = false := ltL_false_Inlet hg ht hi1 hc1_
      rw [List.drop_of_length_le (Nat.le_of_not_lt hc1_)] at h_1
      rw [L_heldInletS_l1] at h_1
      try rw [← hg] at h_1
      try rw [← ht] at h_1
      try dsimp only at h_1
      rw [hb1]
      cbv
      refine ⟨v1, Wk.of [] rfl rfl ?_ ?_, h_1.symm⟩
      · cbv
        all_goals exact ⟨⟨_, rfl, rfl⟩, trivial⟩
      · cbv
        all_goals exact trivial
  · rintro y1 hy1
    replace hy1 := hy1.symm
    subst hy1
    try dsimp only [lr, lrL, lrp, lrpL] at h
    cbv
    subst h
    exact ARet.mk trivial hX.symm
end Go.Vs
namespace Go.Vs
open Go.Proofs Go.IntWalk
set_option linter.unusedVariables false
set_option maxRecDepth 100000
set_option maxHeartbeats 4000000
def S_l7Copy_l2 (g : G) (t : TE) : List Inlet → List Inlet → Option (List Inlet)
  | [], w2 =>
    some w2
  | z2 :: ls2, w2 =>
    cl (S_l7Items g t z2.Wait) fun x4 =>
    lP ([(Inlet.mk z2.Cell x4)]) fun (l3 : List Inlet) =>
    gd (((w2.length + l3.length) * 32 ≤ 70368744177664)) <|
    lP (w2 ++ l3) fun (l4 : List Inlet) =>
    S_l7Copy_l2 g t ls2 l4
def S_l7Copy_l1 (g : G) (t : TE) : List Chute → List Chute → Option (List Chute)
  | [], w1 =>
    some w1
  | z1 :: ls1, w1 =>
    cl (S_l7Items g t z1.Held) fun x3 =>
    lP ([(Chute.mk z1.Cell z1.Room x3)]) fun (l1 : List Chute) =>
    gd (((w1.length + l1.length) * 40 ≤ 70368744177664)) <|
    lP (w1 ++ l1) fun (l2 : List Chute) =>
    S_l7Copy_l1 g t ls1 l2
def S_l7Copy (g : G) (t : TE) (a0 : Centre) : Option Centre :=
  cl (S_l7Items g t a0.Belt) fun x1 =>
  cl (S_l1Ints g t a0.Plan) fun x2 =>
  cl (S_l7Copy_l1 g t a0.Chutes []) fun y1 =>
  cl (S_l7Copy_l2 g t a0.Inlets []) fun y2 =>
  some (Centre.mk x1 y1 y2 x2 a0.Now)
theorem fit106 : codeFit Try.prog Try.f106.ntmps (Try.f106.body.getD .skip) ir106 = true := by kernel_rfl
theorem c_S_l7Copy {g : G} {t : TE} {a0 : Centre} {r : Centre} (hg : g = G.real) (ht : t = TE.real) (h : S_l7Copy g t a0 = some r) : Fn Try.prog 106 [.g (Centre.rs t a0)] (.g (Centre.ds t r)) := by
  obtain ⟨X, hX⟩ := hide (.g (Centre.ds t r) : X)
  rw [← hX]
  refine fn_of (rvs := rv106) (j := ir106) Try.func106 rfl fit106 (Nat.le_of_ble_eq_true rfl) (by kernel_rfl) prog_mixed ?_
  intro g2 F hg2 hF
  obtain rfl : g2 = g := hg2.unique.trans hg.symm
  clear hg2
  obtain ⟨wrap, lt, le, eq, quo, rem, band, bor, bxor, shl, shr, nat, int, add, sub, mul, cat, seq, slt, sub3, byte, llen, nadd, nsub, dlen, dapp, dset, drep, rd, rda, up, rsub, dsub, all, sle, slen⟩ := g2
  obtain ⟨r_Item, d_Item, r_Chute, d_Chute, r_Inlet, d_Inlet, r_I64, d_I64, r_U8, d_U8⟩ := t
  obtain ⟨a0_Belt, a0_Chutes, a0_Inlets, a0_Plan, a0_Now⟩ := a0
  have hnil_Item : d_Item [] = [] := d_nil_Item ht
  have hnil_Chute : d_Chute [] = [] := d_nil_Chute ht
  have hnil_Inlet : d_Inlet [] = [] := d_nil_Inlet ht
  have hnil_I64 : d_I64 [] = [] := d_nil_I64 ht
  have hnil_U8 : d_U8 [] = [] := d_nil_U8 ht
  unfold S_l7Copy at h
  try dsimp only at h
  cbv
  obtain ⟨x1, hx1, h⟩ := of_cl h
  try dsimp only at h
  refine ACall.mk _ _ rfl (hF _ _ _ (c_S_l7Items hg ht hx1)) (.inl rfl) (Nat.le_of_ble_eq_true rfl) ?_
  cbv
  obtain ⟨x2, hx2, h⟩ := of_cl h
  try dsimp only at h
  refine ACall.mk _ _ rfl (hF _ _ _ (c_S_l1Ints hg ht hx2)) (.inl rfl) (Nat.le_of_ble_eq_true rfl) ?_
  cbv
  obtain ⟨o1, ho1, h⟩ := of_cl h
  try dsimp only at h
  try rw [hg] at ho1
  try rw [ht] at ho1
  refine ABL.mk { p : Nat × Int × List Chute // p.1 ≤ a0_Chutes.length ∧ p.2.1 = ((p.1 : Nat) : Int) ∧ S_l7Copy_l1 G.real TE.real (List.drop p.1 a0_Chutes) p.2.2 = some o1 } (fun ⟨⟨k1, v1, w1⟩, _⟩ => ({ sl := [(1, .c (.p 0 5 0 0)), (2, .c (.p 1 5 0 0)), (3, .c (.p 2 5 0 0)), (4, .c (.r (.v (.int .i64 v1))))], tab := [(0, some (.foc 5 [] [.r (.s 2 (r_Item a0_Belt)), .r (.s 3 (r_Chute a0_Chutes)), .r (.s 2 (r_Inlet a0_Inlets)), .r (.s 1 (r_I64 a0_Plan)), .r (.v (.int .i64 a0_Now))] [])), (1, some (.foc 5 [] [.n 2, .n 3, .n 2, .n 1, .r (.v (.int .i64 0))] [])), (2, some (.foc 5 [] [.f 3 2 0 (dlen (d_Item x1)), .f 4 3 0 (dlen (d_Chute w1)), .n 2, .f 5 1 0 (dlen (d_I64 x2)), .r (.v (.int .i64 a0_Now))] [])), (3, some (.arr 2 (d_Item x1))), (4, some (.arr 3 (d_Chute w1))), (5, some (.arr 1 (d_I64 x2)))] } : St)) 6 (fun p => a0_Chutes.length - p.1.1) ⟨(0, 0, []), Nat.zero_le _, rfl, ho1⟩ (List Chute) (fun y1 => ({ sl := [(1, .c (.p 0 5 0 0)), (2, .c (.p 1 5 0 0)), (3, .c (.p 2 5 0 0))], tab := [(0, some (.foc 5 [] [.r (.s 2 (r_Item a0_Belt)), .r (.s 3 (r_Chute a0_Chutes)), .r (.s 2 (r_Inlet a0_Inlets)), .r (.s 1 (r_I64 a0_Plan)), .r (.v (.int .i64 a0_Now))] [])), (1, some (.foc 5 [] [.n 2, .n 3, .n 2, .n 1, .r (.v (.int .i64 0))] [])), (2, some (.foc 5 [] [.f 3 2 0 (dlen (d_Item x1)), .f 4 3 0 (dlen (d_Chute y1)), .n 2, .f 5 1 0 (dlen (d_I64 x2)), .r (.v (.int .i64 a0_Now))] [])), (3, some (.arr 2 (d_Item x1))), (4, some (.arr 3 (d_Chute y1))), (5, some (.arr 1 (d_I64 x2)))] } : St)) 6 (fun y => o1 = y) ?_ ?_ ?_
  · refine Wk.of [(0, some 0), (1, some 16), (2, some 176), (3, some 64), (4, none), (5, some 112)] rfl rfl ?_ ?_
    · cbv
      all_goals try rw [show dlen (d_Chute []) = 0 from dlen_nil_Chute hg ht]
      all_goals try rw [hnil_Chute]
      all_goals exact ⟨⟨_, rfl, rfl⟩, ⟨_, rfl, rfl⟩, ⟨_, rfl, rfl⟩, ⟨_, rfl, rfl⟩, trivial⟩
    · cbv
      all_goals try rw [show dlen (d_Chute []) = 0 from dlen_nil_Chute hg ht]
      all_goals try rw [hnil_Chute]
      all_goals exact ⟨⟨_, rfl, _, rfl, rfl, rfl, rfl, rfl, rfl, trivial⟩, ⟨_, rfl, _, rfl, rfl, rfl, rfl, rfl, rfl, trivial⟩, ⟨_, rfl, _, rfl, rfl, ⟨⟨_, rfl⟩, rfl, rfl⟩, rfl, rfl, rfl, trivial⟩, ⟨_, rfl, rfl⟩, ⟨_, rfl⟩, ⟨_, rfl, rfl⟩, trivial⟩
  · rintro ⟨⟨k1, v1, w1⟩, hk1, hi1, h_1⟩ hq1
    have hm1 := (hq1.2.2.1 0 _ _ _ _ 1 _ _ rfl rfl)
    try dsimp only at hk1 hi1 h_1
    clear hq1
    cbv
    by_cases hc1_ : k1 < a0_Chutes.length
    · have hb1 : lt v1 (llen (r_Chute a0_Chutes)) = true := ltL_true_Chute hg ht hi1 hc1_
      have hs1 := stepL_Chute hg ht hi1 hc1_ hm1
      obtain ⟨z1, hz1⟩ := some_of_lt hc1_
      rw [drop_of_some hz1] at h_1
      rw [S_l7Copy_l1] at h_1
      obtain ⟨z1_Cell, z1_Room, z1_Held⟩ := z1
      try rw [← hg] at h_1
      try rw [← ht] at h_1
      try dsimp only at h_1
      rw [hb1]
      cbv
      refine AStep.mk (nn_L hi1) ?_
      cbv
      refine AGet.mk _ (r_getL_Chute hg ht hi1 hz1) ?_
      cbv
      refine AStep.mk (nn_L hi1) ?_
      cbv
      refine AGet.mk _ (r_getL_Chute hg ht hi1 hz1) ?_
      cbv
      refine AStep.mk (nn_L hi1) ?_
      cbv
      refine AGet.mk _ (r_getL_Chute hg ht hi1 hz1) ?_
      cbv
      obtain ⟨x3, hx3, h_1⟩ := of_cl h_1
      try dsimp only at h_1
      refine ACall.mk _ _ rfl (hF _ _ _ (c_S_l7Items hg ht hx3)) (.inl rfl) (Nat.le_of_ble_eq_true rfl) ?_
      cbv
      refine AStep.mk ⟨rfl, (dlen_Item hg ht _)⟩ ?_
      cbv
      obtain ⟨l1, hl1, h_1⟩ := of_lP h_1
      try dsimp only at h_1
      refine ANew.mk (d_Chute l1) (dlen (d_Chute l1)) (by rw [← hl1]; have e := lit_Chute hg ht [(Chute.mk z1_Cell z1_Room x3)]; dsimp only [List.map, Chute.ds] at e; (try simp only [hnil_Item, hnil_Chute, hnil_Inlet, hnil_I64, hnil_U8] at e); exact e) (by rw [← hl1]; exact litn_Chute hg ht [(Chute.mk z1_Cell z1_Room x3)]) ?_
      cbv
      obtain ⟨hc1, h_1⟩ := of_gd h_1
      refine AStep.mk ⟨⟨rfl, (dlen_Chute hg ht _)⟩, (app_ok_Chute hg ht (dlen_Chute hg ht _) rfl hc1)⟩ ?_
      cbv
      obtain ⟨l2, hl2, h_1⟩ := of_lP h_1
      try dsimp only at h_1
      refine ANew.mk (d_Chute l2) (dlen (d_Chute l2)) (by rw [← hl2]; exact app_Chute hg ht (dlen_Chute hg ht _) rfl) (by rw [← hl2]; exact appl_Chute hg ht (dlen_Chute hg ht _) rfl) ?_
      cbv
      try rw [hg] at h_1
      try rw [ht] at h_1
      refine ⟨⟨(k1 + 1, (wrap .i64 (add v1 1)), l2), hc1_, hs1, h_1⟩, Wk.of [(0, some 0), (1, some 1), (2, some 2), (3, some 3), (4, some 454), (5, some 5)] rfl rfl ?_ ?_, meas_L hc1_⟩
      · cbv
        all_goals exact ⟨⟨_, rfl, rfl⟩, ⟨_, rfl, rfl⟩, ⟨_, rfl, rfl⟩, ⟨_, rfl, rfl⟩, trivial⟩
      · cbv
        all_goals exact ⟨⟨_, rfl, _, rfl, rfl, rfl, rfl, rfl, rfl, trivial⟩, ⟨_, rfl, _, rfl, rfl, rfl, rfl, rfl, rfl, trivial⟩, ⟨_, rfl, _, rfl, rfl, rfl, rfl, rfl, rfl, trivial⟩, ⟨_, rfl, rfl⟩, ⟨_, rfl, rfl⟩, ⟨_, rfl, rfl⟩, trivial⟩
    · have hb1 : lt v1 (llen (r_Chute a0_Chutes)) = false := ltL_false_Chute hg ht hi1 hc1_
      rw [List.drop_of_length_le (Nat.le_of_not_lt hc1_)] at h_1
      rw [S_l7Copy_l1] at h_1
      try rw [← hg] at h_1
      try rw [← ht] at h_1
      try dsimp only at h_1
      rw [hb1]
      cbv
      refine ⟨w1, Wk.of [(0, some 0), (1, some 1), (2, some 2), (3, some 3), (4, some 4), (5, some 5)] rfl rfl ?_ ?_, (Option.some.inj h_1).symm⟩
      · cbv
        all_goals exact ⟨⟨_, rfl, rfl⟩, ⟨_, rfl, rfl⟩, ⟨_, rfl, rfl⟩, trivial⟩
      · cbv
        all_goals exact ⟨⟨_, rfl, _, rfl, rfl, rfl, rfl, rfl, rfl, trivial⟩, ⟨_, rfl, _, rfl, rfl, rfl, rfl, rfl, rfl, trivial⟩, ⟨_, rfl, _, rfl, rfl, rfl, rfl, rfl, rfl, trivial⟩, ⟨_, rfl, rfl⟩, ⟨_, rfl, rfl⟩, ⟨_, rfl, rfl⟩, trivial⟩
  · rintro y1 hy1
    replace hy1 := hy1.symm
    subst hy1
    try dsimp only [lr, lrL, lrp, lrpL] at h
    cbv
    obtain ⟨o2, ho2, h⟩ := of_cl h
    try dsimp only at h
    try rw [hg] at ho2
    try rw [ht] at ho2
    refine ABL.mk { p : Nat × Int × List Inlet // p.1 ≤ a0_Inlets.length ∧ p.2.1 = ((p.1 : Nat) : Int) ∧ S_l7Copy_l2 G.real TE.real (List.drop p.1 a0_Inlets) p.2.2 = some o2 } (fun ⟨⟨k2, v2, w2⟩, _⟩ => ({ sl := [(1, .c (.p 0 5 0 0)), (2, .c (.p 1 5 0 0)), (3, .c (.p 2 5 0 0)), (5, .c (.r (.v (.int .i64 v2))))], tab := [(0, some (.foc 5 [] [.r (.s 2 (r_Item a0_Belt)), .r (.s 3 (r_Chute a0_Chutes)), .r (.s 2 (r_Inlet a0_Inlets)), .r (.s 1 (r_I64 a0_Plan)), .r (.v (.int .i64 a0_Now))] [])), (1, some (.foc 5 [] [.n 2, .n 3, .n 2, .n 1, .r (.v (.int .i64 0))] [])), (2, some (.foc 5 [] [.f 3 2 0 (dlen (d_Item x1)), .f 4 3 0 (dlen (d_Chute y1)), .f 5 2 0 (dlen (d_Inlet w2)), .f 6 1 0 (dlen (d_I64 x2)), .r (.v (.int .i64 a0_Now))] [])), (3, some (.arr 2 (d_Item x1))), (4, some (.arr 3 (d_Chute y1))), (5, some (.arr 2 (d_Inlet w2))), (6, some (.arr 1 (d_I64 x2)))] } : St)) 7 (fun p => a0_Inlets.length - p.1.1) ⟨(0, 0, []), Nat.zero_le _, rfl, ho2⟩ (List Inlet) (fun y2 => ({ sl := [(2, .c (.p 0 5 0 0)), (3, .c (.p 1 5 0 0))], tab := [(0, some (.foc 5 [] [.n 2, .n 3, .n 2, .n 1, .r (.v (.int .i64 0))] [])), (1, some (.foc 5 [] [.f 2 2 0 (dlen (d_Item x1)), .f 3 3 0 (dlen (d_Chute y1)), .f 4 2 0 (dlen (d_Inlet y2)), .f 5 1 0 (dlen (d_I64 x2)), .r (.v (.int .i64 a0_Now))] [])), (2, some (.arr 2 (d_Item x1))), (3, some (.arr 3 (d_Chute y1))), (4, some (.arr 2 (d_Inlet y2))), (5, some (.arr 1 (d_I64 x2)))] } : St)) 6 (fun y => o2 = y) ?_ ?_ ?_
    · refine Wk.of [(0, some 0), (1, some 1), (2, some 2), (3, some 3), (4, some 4), (5, none), (6, some 5)] rfl rfl ?_ ?_
      · cbv
        all_goals try rw [show dlen (d_Inlet []) = 0 from dlen_nil_Inlet hg ht]
        all_goals try rw [hnil_Inlet]
        all_goals exact ⟨⟨_, rfl, rfl⟩, ⟨_, rfl, rfl⟩, ⟨_, rfl, rfl⟩, ⟨_, rfl, rfl⟩, trivial⟩
      · cbv
        all_goals try rw [show dlen (d_Inlet []) = 0 from dlen_nil_Inlet hg ht]
        all_goals try rw [hnil_Inlet]
        all_goals exact ⟨⟨_, rfl, _, rfl, rfl, rfl, rfl, rfl, rfl, trivial⟩, ⟨_, rfl, _, rfl, rfl, rfl, rfl, rfl, rfl, trivial⟩, ⟨_, rfl, _, rfl, rfl, rfl, ⟨⟨_, rfl⟩, rfl, rfl⟩, rfl, rfl, trivial⟩, ⟨_, rfl, rfl⟩, ⟨_, rfl, rfl⟩, ⟨_, rfl⟩, ⟨_, rfl, rfl⟩, trivial⟩
    · rintro ⟨⟨k2, v2, w2⟩, hk2, hi2, h_2⟩ hq2
      have hm2 := (hq2.2.2.1 0 _ _ _ _ 2 _ _ rfl rfl)
      try dsimp only at hk2 hi2 h_2
      clear hq2
      cbv
      by_cases hc2_ : k2 < a0_Inlets.length
      · have hb2 : lt v2 (llen (r_Inlet a0_Inlets)) = true := ltL_true_Inlet hg ht hi2 hc2_
        have hs2 := stepL_Inlet hg ht hi2 hc2_ hm2
        obtain ⟨z2, hz2⟩ := some_of_lt hc2_
        rw [drop_of_some hz2] at h_2
        rw [S_l7Copy_l2] at h_2
        obtain ⟨z2_Cell, z2_Wait⟩ := z2
        try rw [← hg] at h_2
        try rw [← ht] at h_2
        try dsimp only at h_2
        rw [hb2]
        cbv
        refine AStep.mk (nn_L hi2) ?_
        cbv
        refine AGet.mk _ (r_getL_Inlet hg ht hi2 hz2) ?_
        cbv
        refine AStep.mk (nn_L hi2) ?_
        cbv
        refine AGet.mk _ (r_getL_Inlet hg ht hi2 hz2) ?_
        cbv
        obtain ⟨x4, hx4, h_2⟩ := of_cl h_2
        try dsimp only at h_2
        refine ACall.mk _ _ rfl (hF _ _ _ (c_S_l7Items hg ht hx4)) (.inl rfl) (Nat.le_of_ble_eq_true rfl) ?_
        cbv
        refine AStep.mk ⟨rfl, (dlen_Item hg ht _)⟩ ?_
        cbv
        obtain ⟨l3, hl3, h_2⟩ := of_lP h_2
        try dsimp only at h_2
        refine ANew.mk (d_Inlet l3) (dlen (d_Inlet l3)) (by rw [← hl3]; have e := lit_Inlet hg ht [(Inlet.mk z2_Cell x4)]; dsimp only [List.map, Inlet.ds] at e; (try simp only [hnil_Item, hnil_Chute, hnil_Inlet, hnil_I64, hnil_U8] at e); exact e) (by rw [← hl3]; exact litn_Inlet hg ht [(Inlet.mk z2_Cell x4)]) ?_
        cbv
        obtain ⟨hc2, h_2⟩ := of_gd h_2
        refine AStep.mk ⟨⟨rfl, (dlen_Inlet hg ht _)⟩, (app_ok_Inlet hg ht (dlen_Inlet hg ht _) rfl hc2)⟩ ?_
        cbv
        obtain ⟨l4, hl4, h_2⟩ := of_lP h_2
        try dsimp only at h_2
        refine ANew.mk (d_Inlet l4) (dlen (d_Inlet l4)) (by rw [← hl4]; exact app_Inlet hg ht (dlen_Inlet hg ht _) rfl) (by rw [← hl4]; exact appl_Inlet hg ht (dlen_Inlet hg ht _) rfl) ?_
        cbv
        try rw [hg] at h_2
        try rw [ht] at h_2
        refine ⟨⟨(k2 + 1, (wrap .i64 (add v2 1)), l4), hc2_, hs2, h_2⟩, Wk.of [(0, some 0), (1, some 1), (2, some 2), (3, some 3), (4, some 4), (5, some 359), (6, some 6)] rfl rfl ?_ ?_, meas_L hc2_⟩
        · cbv
          all_goals exact ⟨⟨_, rfl, rfl⟩, ⟨_, rfl, rfl⟩, ⟨_, rfl, rfl⟩, ⟨_, rfl, rfl⟩, trivial⟩
        · cbv
          all_goals exact ⟨⟨_, rfl, _, rfl, rfl, rfl, rfl, rfl, rfl, trivial⟩, ⟨_, rfl, _, rfl, rfl, rfl, rfl, rfl, rfl, trivial⟩, ⟨_, rfl, _, rfl, rfl, rfl, rfl, rfl, rfl, trivial⟩, ⟨_, rfl, rfl⟩, ⟨_, rfl, rfl⟩, ⟨_, rfl, rfl⟩, ⟨_, rfl, rfl⟩, trivial⟩
      · have hb2 : lt v2 (llen (r_Inlet a0_Inlets)) = false := ltL_false_Inlet hg ht hi2 hc2_
        rw [List.drop_of_length_le (Nat.le_of_not_lt hc2_)] at h_2
        rw [S_l7Copy_l2] at h_2
        try rw [← hg] at h_2
        try rw [← ht] at h_2
        try dsimp only at h_2
        rw [hb2]
        cbv
        refine ⟨w2, Wk.of [(0, some 1), (1, some 2), (2, some 3), (3, some 4), (4, some 5), (5, some 6)] rfl rfl ?_ ?_, (Option.some.inj h_2).symm⟩
        · cbv
          all_goals exact ⟨⟨_, rfl, rfl⟩, ⟨_, rfl, rfl⟩, trivial⟩
        · cbv
          all_goals exact ⟨⟨_, rfl, _, rfl, rfl, rfl, rfl, rfl, rfl, trivial⟩, ⟨_, rfl, _, rfl, rfl, rfl, rfl, rfl, rfl, trivial⟩, ⟨_, rfl, rfl⟩, ⟨_, rfl, rfl⟩, ⟨_, rfl, rfl⟩, ⟨_, rfl, rfl⟩, trivial⟩
    · rintro y2 hy2
      replace hy2 := hy2.symm
      subst hy2
      try dsimp only [lr, lrL, lrp, lrpL] at h
      cbv
      obtain rfl := Option.some.inj h
      exact ARet.mk ⟨⟨rfl, (dlen_Item hg ht _)⟩, ⟨⟨rfl, (dlen_Chute hg ht _)⟩, ⟨⟨rfl, (dlen_Inlet hg ht _)⟩, ⟨rfl, (dlen_I64 hg ht _)⟩⟩⟩⟩ hX.symm
end Go.Vs
namespace Go.Vs
open Go.Proofs Go.IntWalk
set_option linter.unusedVariables false
set_option maxRecDepth 100000
set_option maxHeartbeats 4000000
def I_copyCentre_l2 (g : G) (t : TE) : List Inlet → List Inlet → Option (List Inlet)
  | [], w2 =>
    some w2
  | z2 :: ls2, w2 =>
    cl (I_copyItems g t z2.Wait) fun x3 =>
    lP ([(Inlet.mk z2.Cell x3)]) fun (l5 : List Inlet) =>
    gd (((w2.length + l5.length) * 32 ≤ 70368744177664)) <|
    lP (w2 ++ l5) fun (l6 : List Inlet) =>
    I_copyCentre_l2 g t ls2 l6
def I_copyCentre_l1 (g : G) (t : TE) : List Chute → List Chute → Option (List Chute)
  | [], w1 =>
    some w1
  | z1 :: ls1, w1 =>
    cl (I_copyItems g t z1.Held) fun x2 =>
    lP ([(Chute.mk z1.Cell z1.Room x2)]) fun (l3 : List Chute) =>
    gd (((w1.length + l3.length) * 40 ≤ 70368744177664)) <|
    lP (w1 ++ l3) fun (l4 : List Chute) =>
    I_copyCentre_l1 g t ls1 l4
def I_copyCentre (g : G) (t : TE) (a0 : Centre) : Option Centre :=
  cl (I_copyItems g t a0.Belt) fun x1 =>
  lP ([]) fun (l1 : List Int) =>
  gd (((l1.length + a0.Plan.length) * 8 ≤ 70368744177664)) <|
  lP (l1 ++ a0.Plan) fun (l2 : List Int) =>
  cl (I_copyCentre_l1 g t a0.Chutes []) fun y1 =>
  cl (I_copyCentre_l2 g t a0.Inlets []) fun y2 =>
  some (Centre.mk x1 y1 y2 l2 a0.Now)
theorem fit94 : codeFit Try.prog Try.f94.ntmps (Try.f94.body.getD .skip) ir94 = true := by kernel_rfl
theorem c_I_copyCentre {g : G} {t : TE} {a0 : Centre} {r : Centre} (hg : g = G.real) (ht : t = TE.real) (h : I_copyCentre g t a0 = some r) : Fn Try.prog 94 [.g (Centre.rs t a0)] (.g (Centre.ds t r)) := by
  obtain ⟨X, hX⟩ := hide (.g (Centre.ds t r) : X)
  rw [← hX]
  refine fn_of (rvs := rv94) (j := ir94) Try.func94 rfl fit94 (Nat.le_of_ble_eq_true rfl) (by kernel_rfl) prog_mixed ?_
  intro g2 F hg2 hF
  obtain rfl : g2 = g := hg2.unique.trans hg.symm
  clear hg2
  obtain ⟨wrap, lt, le, eq, quo, rem, band, bor, bxor, shl, shr, nat, int, add, sub, mul, cat, seq, slt, sub3, byte, llen, nadd, nsub, dlen, dapp, dset, drep, rd, rda, up, rsub, dsub, all, sle, slen⟩ := g2
  obtain ⟨r_Item, d_Item, r_Chute, d_Chute, r_Inlet, d_Inlet, r_I64, d_I64, r_U8, d_U8⟩ := t
  obtain ⟨a0_Belt, a0_Chutes, a0_Inlets, a0_Plan, a0_Now⟩ := a0
  have hnil_Item : d_Item [] = [] := d_nil_Item ht
  have hnil_Chute : d_Chute [] = [] := d_nil_Chute ht
  have hnil_Inlet : d_Inlet [] = [] := d_nil_Inlet ht
  have hnil_I64 : d_I64 [] = [] := d_nil_I64 ht
  have hnil_U8 : d_U8 [] = [] := d_nil_U8 ht
  unfold I_copyCentre at h
  try dsimp only at h
  cbv
  obtain ⟨x1, hx1, h⟩ := of_cl h
  try dsimp only at h
  refine ACall.mk _ _ rfl (hF _ _ _ (c_I_copyItems hg ht hx1)) (.inl rfl) (Nat.le_of_ble_eq_true rfl) ?_
  cbv
  obtain ⟨l1, hl1, h⟩ := of_lP h
  try dsimp only at h
  refine ANew.mk (d_I64 l1) (dlen (d_I64 l1)) (by rw [← hl1]; exact lit_I64 hg ht []) (by rw [← hl1]; exact litn_I64 hg ht []) ?_
  cbv
  obtain ⟨hc3, h⟩ := of_gd h
  refine AStep.mk (app_ok_I64 hg ht (dlen_I64 hg ht _) (up_I64 hg ht _) hc3) ?_
  cbv
  obtain ⟨l2, hl2, h⟩ := of_lP h
  try dsimp only at h
  refine ANew.mk (d_I64 l2) (dlen (d_I64 l2)) (by rw [← hl2]; exact app_I64 hg ht (dlen_I64 hg ht _) (up_I64 hg ht _)) (by rw [← hl2]; exact appl_I64 hg ht (dlen_I64 hg ht _) (up_I64 hg ht _)) ?_
  cbv
  obtain ⟨o1, ho1, h⟩ := of_cl h
  try dsimp only at h
  try rw [hg] at ho1
  try rw [ht] at ho1
  refine ABL.mk { p : Nat × Int × List Chute // p.1 ≤ a0_Chutes.length ∧ p.2.1 = ((p.1 : Nat) : Int) ∧ I_copyCentre_l1 G.real TE.real (List.drop p.1 a0_Chutes) p.2.2 = some o1 } (fun ⟨⟨k1, v1, w1⟩, _⟩ => ({ sl := [(1, .c (.p 0 5 0 0)), (2, .c (.p 1 5 0 0)), (3, .c (.p 2 5 0 0)), (19, .c (.r (.s 3 (r_Chute a0_Chutes)))), (20, .c (.r (.v (.int .i64 (llen (r_Chute a0_Chutes)))))), (21, .c (.r (.v (.int .i64 v1))))], tab := [(0, some (.foc 5 [] [.r (.s 2 (r_Item a0_Belt)), .r (.s 3 (r_Chute a0_Chutes)), .r (.s 2 (r_Inlet a0_Inlets)), .r (.s 1 (r_I64 a0_Plan)), .r (.v (.int .i64 a0_Now))] [])), (1, some (.foc 5 [] [.n 2, .n 3, .n 2, .n 1, .r (.v (.int .i64 0))] [])), (2, some (.foc 5 [] [.f 3 2 0 (dlen (d_Item x1)), .f 4 3 0 (dlen (d_Chute w1)), .n 2, .f 5 1 0 (dlen (d_I64 l2)), .r (.v (.int .i64 a0_Now))] [])), (3, some (.arr 2 (d_Item x1))), (4, some (.arr 3 (d_Chute w1))), (5, some (.arr 1 (d_I64 l2)))] } : St)) 6 (fun p => a0_Chutes.length - p.1.1) ⟨(0, 0, []), Nat.zero_le _, rfl, ho1⟩ (List Chute) (fun y1 => ({ sl := [(1, .c (.p 0 5 0 0)), (2, .c (.p 1 5 0 0)), (3, .c (.p 2 5 0 0))], tab := [(0, some (.foc 5 [] [.r (.s 2 (r_Item a0_Belt)), .r (.s 3 (r_Chute a0_Chutes)), .r (.s 2 (r_Inlet a0_Inlets)), .r (.s 1 (r_I64 a0_Plan)), .r (.v (.int .i64 a0_Now))] [])), (1, some (.foc 5 [] [.n 2, .n 3, .n 2, .n 1, .r (.v (.int .i64 0))] [])), (2, some (.foc 5 [] [.f 3 2 0 (dlen (d_Item x1)), .f 4 3 0 (dlen (d_Chute y1)), .n 2, .f 5 1 0 (dlen (d_I64 l2)), .r (.v (.int .i64 a0_Now))] [])), (3, some (.arr 2 (d_Item x1))), (4, some (.arr 3 (d_Chute y1))), (5, some (.arr 1 (d_I64 l2)))] } : St)) 6 (fun y => o1 = y) ?_ ?_ ?_
  · refine Wk.of [(0, some 0), (1, some 16), (2, some 192), (3, some 64), (4, none), (5, some 128)] rfl rfl ?_ ?_
    · cbv
      all_goals try rw [show dlen (d_Chute []) = 0 from dlen_nil_Chute hg ht]
      all_goals try rw [hnil_Chute]
      all_goals exact ⟨⟨_, rfl, rfl⟩, ⟨_, rfl, rfl⟩, ⟨_, rfl, rfl⟩, ⟨_, rfl, rfl⟩, ⟨_, rfl, rfl⟩, ⟨_, rfl, rfl⟩, trivial⟩
    · cbv
      all_goals try rw [show dlen (d_Chute []) = 0 from dlen_nil_Chute hg ht]
      all_goals try rw [hnil_Chute]
      all_goals exact ⟨⟨_, rfl, _, rfl, rfl, rfl, rfl, rfl, rfl, trivial⟩, ⟨_, rfl, _, rfl, rfl, rfl, rfl, rfl, rfl, trivial⟩, ⟨_, rfl, _, rfl, rfl, ⟨⟨_, rfl⟩, rfl, rfl⟩, rfl, rfl, rfl, trivial⟩, ⟨_, rfl, rfl⟩, ⟨_, rfl⟩, ⟨_, rfl, rfl⟩, trivial⟩
  · rintro ⟨⟨k1, v1, w1⟩, hk1, hi1, h_1⟩ hq1
    have hm1 := (hq1.1 19 _ _ rfl)
    try dsimp only at hk1 hi1 h_1
    clear hq1
    cbv
    by_cases hc1_ : k1 < a0_Chutes.length
    · have hb1 : lt v1 (llen (r_Chute a0_Chutes)) = true := ltL_true_Chute hg ht hi1 hc1_
      have hs1 := stepL_Chute hg ht hi1 hc1_ hm1
      obtain ⟨z1, hz1⟩ := some_of_lt hc1_
      rw [drop_of_some hz1] at h_1
      rw [I_copyCentre_l1] at h_1
      obtain ⟨z1_Cell, z1_Room, z1_Held⟩ := z1
      try rw [← hg] at h_1
      try rw [← ht] at h_1
      try dsimp only at h_1
      rw [hb1]
      cbv
      refine AStep.mk (nn_L hi1) ?_
      cbv
      refine AGet.mk _ (r_getL_Chute hg ht hi1 hz1) ?_
      cbv
      obtain ⟨x2, hx2, h_1⟩ := of_cl h_1
      try dsimp only at h_1
      refine ACall.mk _ _ rfl (hF _ _ _ (c_I_copyItems hg ht hx2)) (.inl rfl) (Nat.le_of_ble_eq_true rfl) ?_
      cbv
      refine AStep.mk ⟨rfl, (dlen_Item hg ht _)⟩ ?_
      cbv
      obtain ⟨l3, hl3, h_1⟩ := of_lP h_1
      try dsimp only at h_1
      refine ANew.mk (d_Chute l3) (dlen (d_Chute l3)) (by rw [← hl3]; have e := lit_Chute hg ht [(Chute.mk z1_Cell z1_Room x2)]; dsimp only [List.map, Chute.ds] at e; (try simp only [hnil_Item, hnil_Chute, hnil_Inlet, hnil_I64, hnil_U8] at e); exact e) (by rw [← hl3]; exact litn_Chute hg ht [(Chute.mk z1_Cell z1_Room x2)]) ?_
      cbv
      obtain ⟨hc1, h_1⟩ := of_gd h_1
      refine AStep.mk ⟨⟨rfl, (dlen_Chute hg ht _)⟩, (app_ok_Chute hg ht (dlen_Chute hg ht _) rfl hc1)⟩ ?_
      cbv
      obtain ⟨l4, hl4, h_1⟩ := of_lP h_1
      try dsimp only at h_1
      refine ANew.mk (d_Chute l4) (dlen (d_Chute l4)) (by rw [← hl4]; exact app_Chute hg ht (dlen_Chute hg ht _) rfl) (by rw [← hl4]; exact appl_Chute hg ht (dlen_Chute hg ht _) rfl) ?_
      cbv
      try rw [hg] at h_1
      try rw [ht] at h_1
      refine ⟨⟨(k1 + 1, (wrap .i64 (add v1 1)), l4), hc1_, hs1, h_1⟩, Wk.of [(0, some 0), (1, some 1), (2, some 2), (3, some 3), (4, some 262), (5, some 5)] rfl rfl ?_ ?_, meas_L hc1_⟩
      · cbv
        all_goals exact ⟨⟨_, rfl, rfl⟩, ⟨_, rfl, rfl⟩, ⟨_, rfl, rfl⟩, ⟨_, rfl, rfl⟩, ⟨_, rfl, rfl⟩, ⟨_, rfl, rfl⟩, trivial⟩
      · cbv
        all_goals exact ⟨⟨_, rfl, _, rfl, rfl, rfl, rfl, rfl, rfl, trivial⟩, ⟨_, rfl, _, rfl, rfl, rfl, rfl, rfl, rfl, trivial⟩, ⟨_, rfl, _, rfl, rfl, rfl, rfl, rfl, rfl, trivial⟩, ⟨_, rfl, rfl⟩, ⟨_, rfl, rfl⟩, ⟨_, rfl, rfl⟩, trivial⟩
    · have hb1 : lt v1 (llen (r_Chute a0_Chutes)) = false := ltL_false_Chute hg ht hi1 hc1_
      rw [List.drop_of_length_le (Nat.le_of_not_lt hc1_)] at h_1
      rw [I_copyCentre_l1] at h_1
      try rw [← hg] at h_1
      try rw [← ht] at h_1
      try dsimp only at h_1
      rw [hb1]
      cbv
      refine ⟨w1, Wk.of [(0, some 0), (1, some 1), (2, some 2), (3, some 3), (4, some 4), (5, some 5)] rfl rfl ?_ ?_, (Option.some.inj h_1).symm⟩
      · cbv
        all_goals exact ⟨⟨_, rfl, rfl⟩, ⟨_, rfl, rfl⟩, ⟨_, rfl, rfl⟩, trivial⟩
      · cbv
        all_goals exact ⟨⟨_, rfl, _, rfl, rfl, rfl, rfl, rfl, rfl, trivial⟩, ⟨_, rfl, _, rfl, rfl, rfl, rfl, rfl, rfl, trivial⟩, ⟨_, rfl, _, rfl, rfl, rfl, rfl, rfl, rfl, trivial⟩, ⟨_, rfl, rfl⟩, ⟨_, rfl, rfl⟩, ⟨_, rfl, rfl⟩, trivial⟩
  · rintro y1 hy1
    replace hy1 := hy1.symm
    subst hy1
    try dsimp only [lr, lrL, lrp, lrpL] at h
    cbv
    obtain ⟨o2, ho2, h⟩ := of_cl h
    try dsimp only at h
    try rw [hg] at ho2
    try rw [ht] at ho2
    refine ABL.mk { p : Nat × Int × List Inlet // p.1 ≤ a0_Inlets.length ∧ p.2.1 = ((p.1 : Nat) : Int) ∧ I_copyCentre_l2 G.real TE.real (List.drop p.1 a0_Inlets) p.2.2 = some o2 } (fun ⟨⟨k2, v2, w2⟩, _⟩ => ({ sl := [(2, .c (.p 0 5 0 0)), (3, .c (.p 1 5 0 0)), (40, .c (.r (.s 2 (r_Inlet a0_Inlets)))), (41, .c (.r (.v (.int .i64 (llen (r_Inlet a0_Inlets)))))), (42, .c (.r (.v (.int .i64 v2))))], tab := [(0, some (.foc 5 [] [.n 2, .n 3, .n 2, .n 1, .r (.v (.int .i64 0))] [])), (1, some (.foc 5 [] [.f 2 2 0 (dlen (d_Item x1)), .f 3 3 0 (dlen (d_Chute y1)), .f 4 2 0 (dlen (d_Inlet w2)), .f 5 1 0 (dlen (d_I64 l2)), .r (.v (.int .i64 a0_Now))] [])), (2, some (.arr 2 (d_Item x1))), (3, some (.arr 3 (d_Chute y1))), (4, some (.arr 2 (d_Inlet w2))), (5, some (.arr 1 (d_I64 l2)))] } : St)) 6 (fun p => a0_Inlets.length - p.1.1) ⟨(0, 0, []), Nat.zero_le _, rfl, ho2⟩ (List Inlet) (fun y2 => ({ sl := [(2, .c (.p 0 5 0 0)), (3, .c (.p 1 5 0 0))], tab := [(0, some (.foc 5 [] [.n 2, .n 3, .n 2, .n 1, .r (.v (.int .i64 0))] [])), (1, some (.foc 5 [] [.f 2 2 0 (dlen (d_Item x1)), .f 3 3 0 (dlen (d_Chute y1)), .f 4 2 0 (dlen (d_Inlet y2)), .f 5 1 0 (dlen (d_I64 l2)), .r (.v (.int .i64 a0_Now))] [])), (2, some (.arr 2 (d_Item x1))), (3, some (.arr 3 (d_Chute y1))), (4, some (.arr 2 (d_Inlet y2))), (5, some (.arr 1 (d_I64 l2)))] } : St)) 6 (fun y => o2 = y) ?_ ?_ ?_
    · refine Wk.of [(0, some 1), (1, some 2), (2, some 3), (3, some 4), (4, none), (5, some 5)] rfl rfl ?_ ?_
      · cbv
        all_goals try rw [show dlen (d_Inlet []) = 0 from dlen_nil_Inlet hg ht]
        all_goals try rw [hnil_Inlet]
        all_goals exact ⟨⟨_, rfl, rfl⟩, ⟨_, rfl, rfl⟩, ⟨_, rfl, rfl⟩, ⟨_, rfl, rfl⟩, ⟨_, rfl, rfl⟩, trivial⟩
      · cbv
        all_goals try rw [show dlen (d_Inlet []) = 0 from dlen_nil_Inlet hg ht]
        all_goals try rw [hnil_Inlet]
        all_goals exact ⟨⟨_, rfl, _, rfl, rfl, rfl, rfl, rfl, rfl, trivial⟩, ⟨_, rfl, _, rfl, rfl, rfl, ⟨⟨_, rfl⟩, rfl, rfl⟩, rfl, rfl, trivial⟩, ⟨_, rfl, rfl⟩, ⟨_, rfl, rfl⟩, ⟨_, rfl⟩, ⟨_, rfl, rfl⟩, trivial⟩
    · rintro ⟨⟨k2, v2, w2⟩, hk2, hi2, h_2⟩ hq2
      have hm2 := (hq2.1 40 _ _ rfl)
      try dsimp only at hk2 hi2 h_2
      clear hq2
      cbv
      by_cases hc2_ : k2 < a0_Inlets.length
      · have hb2 : lt v2 (llen (r_Inlet a0_Inlets)) = true := ltL_true_Inlet hg ht hi2 hc2_
        have hs2 := stepL_Inlet hg ht hi2 hc2_ hm2
        obtain ⟨z2, hz2⟩ := some_of_lt hc2_
        rw [drop_of_some hz2] at h_2
        rw [I_copyCentre_l2] at h_2
        obtain ⟨z2_Cell, z2_Wait⟩ := z2
        try rw [← hg] at h_2
        try rw [← ht] at h_2
        try dsimp only at h_2
        rw [hb2]
        cbv
        refine AStep.mk (nn_L hi2) ?_
        cbv
        refine AGet.mk _ (r_getL_Inlet hg ht hi2 hz2) ?_
        cbv
        obtain ⟨x3, hx3, h_2⟩ := of_cl h_2
        try dsimp only at h_2
        refine ACall.mk _ _ rfl (hF _ _ _ (c_I_copyItems hg ht hx3)) (.inl rfl) (Nat.le_of_ble_eq_true rfl) ?_
        cbv
        refine AStep.mk ⟨rfl, (dlen_Item hg ht _)⟩ ?_
        cbv
        obtain ⟨l5, hl5, h_2⟩ := of_lP h_2
        try dsimp only at h_2
        refine ANew.mk (d_Inlet l5) (dlen (d_Inlet l5)) (by rw [← hl5]; have e := lit_Inlet hg ht [(Inlet.mk z2_Cell x3)]; dsimp only [List.map, Inlet.ds] at e; (try simp only [hnil_Item, hnil_Chute, hnil_Inlet, hnil_I64, hnil_U8] at e); exact e) (by rw [← hl5]; exact litn_Inlet hg ht [(Inlet.mk z2_Cell x3)]) ?_
        cbv
        obtain ⟨hc2, h_2⟩ := of_gd h_2
        refine AStep.mk ⟨⟨rfl, (dlen_Inlet hg ht _)⟩, (app_ok_Inlet hg ht (dlen_Inlet hg ht _) rfl hc2)⟩ ?_
        cbv
        obtain ⟨l6, hl6, h_2⟩ := of_lP h_2
        try dsimp only at h_2
        refine ANew.mk (d_Inlet l6) (dlen (d_Inlet l6)) (by rw [← hl6]; exact app_Inlet hg ht (dlen_Inlet hg ht _) rfl) (by rw [← hl6]; exact appl_Inlet hg ht (dlen_Inlet hg ht _) rfl) ?_
        cbv
        try rw [hg] at h_2
        try rw [ht] at h_2
        refine ⟨⟨(k2 + 1, (wrap .i64 (add v2 1)), l6), hc2_, hs2, h_2⟩, Wk.of [(0, some 0), (1, some 1), (2, some 2), (3, some 3), (4, some 230), (5, some 5)] rfl rfl ?_ ?_, meas_L hc2_⟩
        · cbv
          all_goals exact ⟨⟨_, rfl, rfl⟩, ⟨_, rfl, rfl⟩, ⟨_, rfl, rfl⟩, ⟨_, rfl, rfl⟩, ⟨_, rfl, rfl⟩, trivial⟩
        · cbv
          all_goals exact ⟨⟨_, rfl, _, rfl, rfl, rfl, rfl, rfl, rfl, trivial⟩, ⟨_, rfl, _, rfl, rfl, rfl, rfl, rfl, rfl, trivial⟩, ⟨_, rfl, rfl⟩, ⟨_, rfl, rfl⟩, ⟨_, rfl, rfl⟩, ⟨_, rfl, rfl⟩, trivial⟩
      · have hb2 : lt v2 (llen (r_Inlet a0_Inlets)) = false := ltL_false_Inlet hg ht hi2 hc2_
        rw [List.drop_of_length_le (Nat.le_of_not_lt hc2_)] at h_2
        rw [I_copyCentre_l2] at h_2
        try rw [← hg] at h_2
        try rw [← ht] at h_2
        try dsimp only at h_2
        rw [hb2]
        cbv
        refine ⟨w2, Wk.of [(0, some 0), (1, some 1), (2, some 2), (3, some 3), (4, some 4), (5, some 5)] rfl rfl ?_ ?_, (Option.some.inj h_2).symm⟩
        · cbv
          all_goals exact ⟨⟨_, rfl, rfl⟩, ⟨_, rfl, rfl⟩, trivial⟩
        · cbv
          all_goals exact ⟨⟨_, rfl, _, rfl, rfl, rfl, rfl, rfl, rfl, trivial⟩, ⟨_, rfl, _, rfl, rfl, rfl, rfl, rfl, rfl, trivial⟩, ⟨_, rfl, rfl⟩, ⟨_, rfl, rfl⟩, ⟨_, rfl, rfl⟩, ⟨_, rfl, rfl⟩, trivial⟩
    · rintro y2 hy2
      replace hy2 := hy2.symm
      subst hy2
      try dsimp only [lr, lrL, lrp, lrpL] at h
      cbv
      obtain rfl := Option.some.inj h
      exact ARet.mk ⟨⟨rfl, (dlen_Item hg ht _)⟩, ⟨⟨rfl, (dlen_Chute hg ht _)⟩, ⟨⟨rfl, (dlen_Inlet hg ht _)⟩, ⟨rfl, (dlen_I64 hg ht _)⟩⟩⟩⟩ hX.symm
end Go.Vs
