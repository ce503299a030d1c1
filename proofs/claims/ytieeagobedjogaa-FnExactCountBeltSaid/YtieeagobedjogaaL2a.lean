/- Part of the proofs of this seat's laws: L2a. No condition. -/
import Derived.Test.YtieeagobedjogaaTy
import Derived.Test.YtieeagobedjogaaTIRall
import Derived.Test.YtieeagobedjogaaL1a
set_option linter.unusedVariables false
set_option linter.unusedSimpArgs false
set_option linter.unusedSectionVars false
namespace Go.Vs
open Go.Proofs Go.IntWalk
set_option linter.unusedVariables false
set_option maxRecDepth 100000
set_option maxHeartbeats 4000000
def L_szChute (g : G) (t : TE) (a0 : Chute) (a1 : Int) : Int :=
  lP (L_szItemS g t a0.Held a1) fun x1 =>
  br (g.lt x1 0)
  (
   (-1))
  (
   x1)
theorem fit112 : codeFit Try.prog Try.f112.ntmps (Try.f112.body.getD .skip) ir112 = true := by kernel_rfl
theorem c_L_szChute {g : G} {t : TE} {a0 : Chute} {a1 : Int} {r : Int} (hg : g = G.real) (ht : t = TE.real) (h : L_szChute g t a0 a1 = r) : Fn Try.prog 112 [.g (Chute.rs t a0), .c (.v (.int .i64 a1))] (.c (.r (.v (.int .i64 r)))) := by
  obtain ⟨X, hX⟩ := hide (.c (.r (.v (.int .i64 r))) : X)
  rw [← hX]
  refine fn_of (rvs := rv112) (j := ir112) Try.func112 rfl fit112 (Nat.le_of_ble_eq_true rfl) (by kernel_rfl) prog_mixed ?_
  intro g2 F hg2 hF
  obtain rfl : g2 = g := hg2.unique.trans hg.symm
  clear hg2
  obtain ⟨wrap, lt, le, eq, quo, rem, band, bor, bxor, shl, shr, nat, int, add, sub, mul, cat, seq, slt, sub3, byte, llen, nadd, nsub, dlen, dapp, dset, drep, rd, rda, up, rsub, dsub, all, sle, slen⟩ := g2
  obtain ⟨r_Item, d_Item, r_Chute, d_Chute, r_Inlet, d_Inlet, r_I64, d_I64, r_U8, d_U8⟩ := t
  obtain ⟨a0_Cell, a0_Room, a0_Held⟩ := a0
  unfold L_szChute at h
  try dsimp only at h
  cbv
  obtain ⟨x1, hx1, h⟩ := of_lP h
  try dsimp only at h
  refine ACall.mk _ _ rfl (hF _ _ _ (c_L_szItemS hg ht hx1)) (.inl rfl) (Nat.le_of_ble_eq_true rfl) ?_
  cbv
  cases hb1 : (lt x1 0) with
  | true =>
    rw [br_true hb1] at h
    cbv
    subst h
    exact ARet.mk trivial hX.symm
  | false =>
    rw [br_false hb1] at h
    cbv
    subst h
    exact ARet.mk trivial hX.symm
end Go.Vs
namespace Go.Vs
open Go.Proofs Go.IntWalk
set_option linter.unusedVariables false
set_option maxRecDepth 100000
set_option maxHeartbeats 4000000
def L_szInlet (g : G) (t : TE) (a0 : Inlet) (a1 : Int) : Int :=
  lP (L_szItemS g t a0.Wait a1) fun x1 =>
  br (g.lt x1 0)
  (
   (-1))
  (
   x1)
theorem fit113 : codeFit Try.prog Try.f113.ntmps (Try.f113.body.getD .skip) ir113 = true := by kernel_rfl
theorem c_L_szInlet {g : G} {t : TE} {a0 : Inlet} {a1 : Int} {r : Int} (hg : g = G.real) (ht : t = TE.real) (h : L_szInlet g t a0 a1 = r) : Fn Try.prog 113 [.g (Inlet.rs t a0), .c (.v (.int .i64 a1))] (.c (.r (.v (.int .i64 r)))) := by
  obtain ⟨X, hX⟩ := hide (.c (.r (.v (.int .i64 r))) : X)
  rw [← hX]
  refine fn_of (rvs := rv113) (j := ir113) Try.func113 rfl fit113 (Nat.le_of_ble_eq_true rfl) (by kernel_rfl) prog_mixed ?_
  intro g2 F hg2 hF
  obtain rfl : g2 = g := hg2.unique.trans hg.symm
  clear hg2
  obtain ⟨wrap, lt, le, eq, quo, rem, band, bor, bxor, shl, shr, nat, int, add, sub, mul, cat, seq, slt, sub3, byte, llen, nadd, nsub, dlen, dapp, dset, drep, rd, rda, up, rsub, dsub, all, sle, slen⟩ := g2
  obtain ⟨r_Item, d_Item, r_Chute, d_Chute, r_Inlet, d_Inlet, r_I64, d_I64, r_U8, d_U8⟩ := t
  obtain ⟨a0_Cell, a0_Wait⟩ := a0
  unfold L_szInlet at h
  try dsimp only at h
  cbv
  obtain ⟨x1, hx1, h⟩ := of_lP h
  try dsimp only at h
  refine ACall.mk _ _ rfl (hF _ _ _ (c_L_szItemS hg ht hx1)) (.inl rfl) (Nat.le_of_ble_eq_true rfl) ?_
  cbv
  cases hb1 : (lt x1 0) with
  | true =>
    rw [br_true hb1] at h
    cbv
    subst h
    exact ARet.mk trivial hX.symm
  | false =>
    rw [br_false hb1] at h
    cbv
    subst h
    exact ARet.mk trivial hX.symm
end Go.Vs
namespace Go.Vs
open Go.Proofs Go.IntWalk
set_option linter.unusedVariables false
set_option maxRecDepth 100000
set_option maxHeartbeats 4000000
def L_toItemS_l1 (g : G) (t : TE) : List Item → Int → List Item → Option (List Item)
  | [], v1, w1 =>
    some w1
  | z1 :: ls1, v1, w1 =>
    lP (L_toItem g t z1) fun x1 =>
    gd ((0 ≤ v1 ∧ v1 < (((g.dlen (t.d_Item w1)) : Nat) : Int))) <|
    gt w1 (g.nat v1) fun x2 =>
    lP (List.set w1 (g.nat v1) (Item.mk x1.Id x1.Dest)) fun (l2 : List Item) =>
    L_toItemS_l1 g t ls1 (g.wrap .i64 (g.add v1 1)) l2
def L_toItemS (g : G) (t : TE) (a0 : List Item) : Option (List Item) :=
  gd ((0 ≤ (g.llen (t.r_Item a0)) ∧ 16 * (g.llen (t.r_Item a0)) ≤ 70368744177664 ∧ (g.llen (t.r_Item a0)) ≤ 4611686018427387904)) <|
  lP (List.replicate (g.nat (g.llen (t.r_Item a0))) (Item.mk 0 0)) fun (l1 : List Item) =>
  cl (L_toItemS_l1 g t a0 0 l1) fun y1 =>
  some y1
theorem fit80 : codeFit Try.prog Try.f80.ntmps (Try.f80.body.getD .skip) ir80 = true := by kernel_rfl
theorem c_L_toItemS {g : G} {t : TE} {a0 : List Item} {r : List Item} (hg : g = G.real) (ht : t = TE.real) (h : L_toItemS g t a0 = some r) : Fn Try.prog 80 [.c (.s 2 (t.r_Item a0))] (.c (.o 2 (t.d_Item r))) := by
  obtain ⟨X, hX⟩ := hide (.c (.o 2 (t.d_Item r)) : X)
  rw [← hX]
  refine fn_of (rvs := rv80) (j := ir80) Try.func80 rfl fit80 (Nat.le_of_ble_eq_true rfl) (by kernel_rfl) prog_mixed ?_
  intro g2 F hg2 hF
  obtain rfl : g2 = g := hg2.unique.trans hg.symm
  clear hg2
  obtain ⟨wrap, lt, le, eq, quo, rem, band, bor, bxor, shl, shr, nat, int, add, sub, mul, cat, seq, slt, sub3, byte, llen, nadd, nsub, dlen, dapp, dset, drep, rd, rda, up, rsub, dsub, all, sle, slen⟩ := g2
  obtain ⟨r_Item, d_Item, r_Chute, d_Chute, r_Inlet, d_Inlet, r_I64, d_I64, r_U8, d_U8⟩ := t
  unfold L_toItemS at h
  try dsimp only at h
  cbv
  obtain ⟨hc2, h⟩ := of_gd h
  refine AStep.mk (mk_ok hc2) ?_
  cbv
  obtain ⟨l1, hl1, h⟩ := of_lP h
  try dsimp only at h
  refine ANew.mk (d_Item l1) (dlen (d_Item l1)) (by rw [← hl1]; exact drep_Item hg ht _ (Item.mk 0 0)) (by rw [← hl1]; exact drepn_Item hg ht _ (Item.mk 0 0)) ?_
  cbv
  obtain ⟨o1, ho1, h⟩ := of_cl h
  try dsimp only at h
  try rw [hg] at ho1
  try rw [ht] at ho1
  refine ABL.mk { p : Nat × Int × List Item // p.1 ≤ a0.length ∧ p.2.1 = ((p.1 : Nat) : Int) ∧ L_toItemS_l1 G.real TE.real (List.drop p.1 a0) p.2.1 p.2.2 = some o1 } (fun ⟨⟨k1, v1, w1⟩, _⟩ => ({ sl := [(0, .c (.r (.s 2 (r_Item a0)))), (3, .c (.f 0 2 0 (dlen (d_Item w1)))), (4, .c (.r (.v (.int .i64 v1))))], tab := [(0, some (.arr 2 (d_Item w1)))] } : St)) 1 (fun p => a0.length - p.1.1) ⟨(0, 0, l1), Nat.zero_le _, rfl, ho1⟩ (List Item) (fun y1 => ({ sl := [(3, .c (.f 0 2 0 (dlen (d_Item y1))))], tab := [(0, some (.arr 2 (d_Item y1)))] } : St)) 1 (fun y => o1 = y) ?_ ?_ ?_
  · refine Wk.of [(0, some 48)] rfl rfl ?_ ?_
    · cbv
      all_goals exact ⟨⟨_, rfl, rfl⟩, ⟨_, rfl, rfl⟩, ⟨_, rfl, rfl⟩, trivial⟩
    · cbv
      all_goals exact ⟨⟨_, rfl, rfl⟩, trivial⟩
  · rintro ⟨⟨k1, v1, w1⟩, hk1, hi1, h_1⟩ hq1
    have hm1 := (hq1.1 0 _ _ rfl)
    try dsimp only at hk1 hi1 h_1
    clear hq1
    cbv
    by_cases hc1_ : k1 < a0.length
    · have hb1 : lt v1 (llen (r_Item a0)) = true := ltL_true_Item hg ht hi1 hc1_
      have hs1 := stepL_Item hg ht hi1 hc1_ hm1
      obtain ⟨z1, hz1⟩ := some_of_lt hc1_
      rw [drop_of_some hz1] at h_1
      rw [L_toItemS_l1] at h_1
      obtain ⟨z1_Id, z1_Dest⟩ := z1
      try rw [← hg] at h_1
      try rw [← ht] at h_1
      try dsimp only at h_1
      rw [hb1]
      cbv
      refine AStep.mk (nn_L hi1) ?_
      cbv
      refine AGet.mk _ (r_getL_Item hg ht hi1 hz1) ?_
      cbv
      obtain ⟨x1, hx1, h_1⟩ := of_lP h_1
      obtain ⟨x1_Id, x1_Dest⟩ := x1
      try dsimp only at h_1
      refine ACall.mk _ _ rfl (hF _ _ _ (c_L_toItem hg ht hx1)) (.inl rfl) (Nat.le_of_ble_eq_true rfl) ?_
      cbv
      obtain ⟨hc1, h_1⟩ := of_gd h_1
      refine AStep.mk hc1 ?_
      cbv
      obtain ⟨x2, hx2, h_1⟩ := of_gt h_1
      obtain ⟨x2_Id, x2_Dest⟩ := x2
      try dsimp only at h_1
      refine AGet.mk _ (d_get_Item hg ht hx2) ?_
      cbv
      obtain ⟨l2, hl2, h_1⟩ := of_lP h_1
      try dsimp only at h_1
      refine ANew.mk (d_Item l2) _ (by rw [← hl2]; exact dset_Item hg ht _ _ (Item.mk x1_Id x1_Dest)) rfl ?_
      have hnl2 : (dlen (d_Item w1)) = (d_Item l2).length := (by rw [← hl2, dsetl_Item ht]; exact (dlen_Item hg ht _))
      cbv
      try rw [hg] at h_1
      try rw [ht] at h_1
      refine ⟨⟨(k1 + 1, (wrap .i64 (add v1 1)), l2), hc1_, hs1, h_1⟩, Wk.of [(0, some 0)] rfl rfl ?_ ?_, meas_L hc1_⟩
      · cbv
        all_goals try rw [show (dlen (d_Item w1)) = (dlen (d_Item l2)) from (hnl2).trans (dlen_Item hg ht _).symm]
        all_goals exact ⟨⟨_, rfl, rfl⟩, ⟨_, rfl, rfl⟩, ⟨_, rfl, rfl⟩, trivial⟩
      · cbv
        all_goals try rw [show (dlen (d_Item w1)) = (dlen (d_Item l2)) from (hnl2).trans (dlen_Item hg ht _).symm]
        all_goals exact ⟨⟨_, rfl, rfl⟩, trivial⟩
    · have hb1 : lt v1 (llen (r_Item a0)) = false := ltL_false_Item hg ht hi1 hc1_
      rw [List.drop_of_length_le (Nat.le_of_not_lt hc1_)] at h_1
      rw [L_toItemS_l1] at h_1
      try rw [← hg] at h_1
      try rw [← ht] at h_1
      try dsimp only at h_1
      rw [hb1]
      cbv
      refine ⟨w1, Wk.of [(0, some 0)] rfl rfl ?_ ?_, (Option.some.inj h_1).symm⟩
      · cbv
        all_goals exact ⟨⟨_, rfl, rfl⟩, trivial⟩
      · cbv
        all_goals exact ⟨⟨_, rfl, rfl⟩, trivial⟩
  · rintro y1 hy1
    replace hy1 := hy1.symm
    subst hy1
    try dsimp only [lr, lrL, lrp, lrpL] at h
    cbv
    obtain rfl := Option.some.inj h
    exact ARet.mk ⟨rfl, (dlen_Item hg ht _)⟩ hX.symm
end Go.Vs
namespace Go.Vs
open Go.Proofs Go.IntWalk
set_option linter.unusedVariables false
set_option maxRecDepth 100000
set_option maxHeartbeats 4000000
def L_eqItemS_l1 (g : G) (t : TE) (a1 : List Item) : List Item → Int → Option (LR Bool Unit)
  | [], v1 =>
    some (LR.out ())
  | z1 :: ls1, v1 =>
    gt a1 (g.nat v1) fun x1 =>
    lP (L_eqItem g t z1 x1) fun x2 =>
    br x2
    (
     L_eqItemS_l1 g t a1 ls1 (g.wrap .i64 (g.add v1 1)))
    (
     some (LR.ret false))
def L_eqItemS (g : G) (t : TE) (a0 : List Item) (a1 : List Item) : Option Bool :=
  br (g.eq (g.llen (t.r_Item a0)) (g.llen (t.r_Item a1)))
  (
   cl (L_eqItemS_l1 g t a1 a0 0) fun o1 => lr o1 fun y1 =>
   some true)
  (
   some false)
theorem fit64 : codeFit Try.prog Try.f64.ntmps (Try.f64.body.getD .skip) ir64 = true := by kernel_rfl
theorem c_L_eqItemS {g : G} {t : TE} {a0 : List Item} {a1 : List Item} {r : Bool} (hg : g = G.real) (ht : t = TE.real) (h : L_eqItemS g t a0 a1 = some r) : Fn Try.prog 64 [.c (.s 2 (t.r_Item a0)), .c (.s 2 (t.r_Item a1))] (.c (.r (.v (.bool r)))) := by
  obtain ⟨X, hX⟩ := hide (.c (.r (.v (.bool r))) : X)
  rw [← hX]
  refine fn_of (rvs := rv64) (j := ir64) Try.func64 rfl fit64 (Nat.le_of_ble_eq_true rfl) (by kernel_rfl) prog_mixed ?_
  intro g2 F hg2 hF
  obtain rfl : g2 = g := hg2.unique.trans hg.symm
  clear hg2
  obtain ⟨wrap, lt, le, eq, quo, rem, band, bor, bxor, shl, shr, nat, int, add, sub, mul, cat, seq, slt, sub3, byte, llen, nadd, nsub, dlen, dapp, dset, drep, rd, rda, up, rsub, dsub, all, sle, slen⟩ := g2
  obtain ⟨r_Item, d_Item, r_Chute, d_Chute, r_Inlet, d_Inlet, r_I64, d_I64, r_U8, d_U8⟩ := t
  unfold L_eqItemS at h
  try dsimp only at h
  cbv
  cases hb1 : (eq (llen (r_Item a0)) (llen (r_Item a1))) with
  | true =>
    rw [br_true hb1] at h
    cbv
    obtain ⟨o1, ho1, h⟩ := of_cl h
    try dsimp only at h
    try rw [hg] at ho1
    try rw [ht] at ho1
    refine ABL.mk { p : Nat × Int // p.1 ≤ a0.length ∧ p.2 = ((p.1 : Nat) : Int) ∧ L_eqItemS_l1 G.real TE.real a1 (List.drop p.1 a0) p.2 = some o1 } (fun ⟨⟨k1, v1⟩, _⟩ => ({ sl := [(0, .c (.r (.s 2 (r_Item a0)))), (1, .c (.r (.s 2 (r_Item a1)))), (5, .c (.r (.v (.int .i64 v1))))], tab := [] } : St)) 0 (fun p => a0.length - p.1.1) ⟨(0, 0), Nat.zero_le _, rfl, ho1⟩ (Unit) (fun _ => ({ sl := [], tab := [] } : St)) 0 (fun y => o1 = LR.out y) ?_ ?_ ?_
    · refine Wk.of [] rfl rfl ?_ ?_
      · cbv
        all_goals exact ⟨⟨_, rfl, rfl⟩, ⟨_, rfl, rfl⟩, ⟨_, rfl, rfl⟩, trivial⟩
      · cbv
        all_goals exact trivial
    · rintro ⟨⟨k1, v1⟩, hk1, hi1, h_1⟩ hq1
      have hm1 := (hq1.1 0 _ _ rfl)
      try dsimp only at hk1 hi1 h_1
      clear hq1
      cbv
      by_cases hc1_ : k1 < a0.length
      · have hb2 : lt v1 (llen (r_Item a0)) = true := ltL_true_Item hg ht hi1 hc1_
        have hs1 := stepL_Item hg ht hi1 hc1_ hm1
        obtain ⟨z1, hz1⟩ := some_of_lt hc1_
        rw [drop_of_some hz1] at h_1
        rw [L_eqItemS_l1] at h_1
        obtain ⟨z1_Id, z1_Dest⟩ := z1
        try rw [← hg] at h_1
        try rw [← ht] at h_1
        try dsimp only at h_1
        rw [hb2]
        cbv
        refine AStep.mk (nn_L hi1) ?_
        cbv
        refine AGet.mk _ (r_getL_Item hg ht hi1 hz1) ?_
        cbv
        refine AStep.mk (nn_L hi1) ?_
        cbv
        obtain ⟨x1, hx1, h_1⟩ := of_gt h_1
        obtain ⟨x1_Id, x1_Dest⟩ := x1
        try dsimp only at h_1
        refine AGet.mk _ (r_get_Item hg ht hx1) ?_
        cbv
        obtain ⟨x2, hx2, h_1⟩ := of_lP h_1
        try dsimp only at h_1
        refine ACall.mk _ _ rfl (hF _ _ _ (c_L_eqItem hg ht hx2)) (.inl rfl) (Nat.le_of_ble_eq_true rfl) ?_
        cbv
        cases hb3 : x2 with
        | true =>
          rw [br_true hb3] at h_1
          cbv
          try rw [hg] at h_1
          try rw [ht] at h_1
          refine ⟨⟨(k1 + 1, (wrap .i64 (add v1 1))), hc1_, hs1, h_1⟩, Wk.of [] rfl rfl ?_ ?_, meas_L hc1_⟩
          · cbv
            all_goals exact ⟨⟨_, rfl, rfl⟩, ⟨_, rfl, rfl⟩, ⟨_, rfl, rfl⟩, trivial⟩
          · cbv
            all_goals exact trivial
        | false =>
          rw [br_false hb3] at h_1
          cbv
          obtain rfl := Option.some.inj h_1
          try dsimp only [lr, lrL, lrp, lrpL] at h
          obtain rfl := Option.some.inj h
          exact ARet.mk trivial hX.symm
      · have hb2 : lt v1 (llen (r_Item a0)) = false := ltL_false_Item hg ht hi1 hc1_
        rw [List.drop_of_length_le (Nat.le_of_not_lt hc1_)] at h_1
        rw [L_eqItemS_l1] at h_1
        try rw [← hg] at h_1
        try rw [← ht] at h_1
        try dsimp only at h_1
        rw [hb2]
        cbv
        refine ⟨(), Wk.of [] rfl rfl ?_ ?_, (Option.some.inj h_1).symm⟩
        · cbv
          all_goals exact trivial
        · cbv
          all_goals exact trivial
    · rintro _ hy1
      replace hy1 := hy1.symm
      subst hy1
      try dsimp only [lr, lrL, lrp, lrpL] at h
      cbv
      obtain rfl := Option.some.inj h
      exact ARet.mk trivial hX.symm
  | false =>
    rw [br_false hb1] at h
    cbv
    obtain rfl := Option.some.inj h
    exact ARet.mk trivial hX.symm
end Go.Vs
namespace Go.Vs
open Go.Proofs Go.IntWalk
set_option linter.unusedVariables false
set_option maxRecDepth 100000
set_option maxHeartbeats 4000000
def S_l7Parts_l5 (g : G) (t : TE) (a0 : Centre) : List Int → LR Bool Unit
  | [] =>
    (LR.out ())
  | z5 :: ls5 =>
    lP (S_l1In g t z5 0 (g.wrap .i64 (g.sub (g.llen (t.r_Chute a0.Chutes)) 1))) fun x6 =>
    br x6
    (
     S_l7Parts_l5 g t a0 ls5)
    (
     (LR.ret false))
def S_l7Parts_l4 (g : G) (t : TE) (a0 : Centre) (z3 : Inlet) : Nat → Int → Option (LR Bool Unit)
  | 0, v4 =>
    some (LR.out ())
  | n4 + 1, v4 =>
    gt a0.Inlets (g.nat v4) fun x5 =>
    br (g.eq x5.Cell z3.Cell)
    (
     some (LR.ret false))
    (
     S_l7Parts_l4 g t a0 z3 n4 (g.wrap .i64 (g.add v4 1)))
def S_l7Parts_l3 (g : G) (t : TE) (a0 : Centre) : List Inlet → Int → Option (LR Bool Unit)
  | [], v3 =>
    some (LR.out ())
  | z3 :: ls3, v3 =>
    lP (S_l1In g t z3.Cell 0 (g.wrap .i64 (g.sub (g.llen (t.r_Item a0.Belt)) 1))) fun x4 =>
    br x4
    (
     br (g.lt 20 (g.llen (t.r_Item z3.Wait)))
     (
      some (LR.ret false))
     (
      gd ((v3 ≤ 4611686018427387904)) <|
      cl (S_l7Parts_l4 g t a0 z3 (cntLt 0 v3) 0) fun o4 => lrL o4 fun y3 =>
      S_l7Parts_l3 g t a0 ls3 (g.wrap .i64 (g.add v3 1))))
    (
     some (LR.ret false))
def S_l7Parts_l2 (g : G) (t : TE) (a0 : Centre) (z1 : Chute) : Nat → Int → Option (LR Bool Unit)
  | 0, v2 =>
    some (LR.out ())
  | n2 + 1, v2 =>
    gt a0.Chutes (g.nat v2) fun x3 =>
    br (g.eq x3.Cell z1.Cell)
    (
     some (LR.ret false))
    (
     S_l7Parts_l2 g t a0 z1 n2 (g.wrap .i64 (g.add v2 1)))
def S_l7Parts_l1 (g : G) (t : TE) (a0 : Centre) : List Chute → Int → Option (LR Bool Unit)
  | [], v1 =>
    some (LR.out ())
  | z1 :: ls1, v1 =>
    lP (S_l1In g t z1.Cell 0 (g.wrap .i64 (g.sub (g.llen (t.r_Item a0.Belt)) 1))) fun x1 =>
    br x1
    (
     lP (S_l1In g t z1.Room 1 20) fun x2 =>
     br x2
     (
      br (g.lt z1.Room (g.llen (t.r_Item z1.Held)))
      (
       some (LR.ret false))
      (
       gd ((v1 ≤ 4611686018427387904)) <|
       cl (S_l7Parts_l2 g t a0 z1 (cntLt 0 v1) 0) fun o2 => lrL o2 fun y1 =>
       S_l7Parts_l1 g t a0 ls1 (g.wrap .i64 (g.add v1 1))))
     (
      some (LR.ret false)))
    (
     some (LR.ret false))
def S_l7Parts (g : G) (t : TE) (a0 : Centre) : Option Bool :=
  cl (S_l7Parts_l1 g t a0 a0.Chutes 0) fun o1 => lr o1 fun y2 =>
  cl (S_l7Parts_l3 g t a0 a0.Inlets 0) fun o3 => lr o3 fun y4 =>
  lP (S_l7Parts_l5 g t a0 a0.Plan) fun o5 => lr o5 fun y5 =>
  lP (S_l1In g t (g.llen (t.r_Chute a0.Chutes)) 1 6) fun x7 =>
  br x7
  (
   lP (S_l1In g t (g.llen (t.r_Inlet a0.Inlets)) 1 4) fun x8 =>
   br x8
   (
    lP (S_l1In g t (g.llen (t.r_I64 a0.Plan)) 1 8) fun x9 =>
    some x9)
   (
    some false))
  (
   some false)
theorem fit86 : codeFit Try.prog Try.f86.ntmps (Try.f86.body.getD .skip) ir86 = true := by kernel_rfl
theorem c_S_l7Parts {g : G} {t : TE} {a0 : Centre} {r : Bool} (hg : g = G.real) (ht : t = TE.real) (h : S_l7Parts g t a0 = some r) : Fn Try.prog 86 [.g (Centre.rs t a0)] (.c (.r (.v (.bool r)))) := by
  obtain ⟨X, hX⟩ := hide (.c (.r (.v (.bool r))) : X)
  rw [← hX]
  refine fn_of (rvs := rv86) (j := ir86) Try.func86 rfl fit86 (Nat.le_of_ble_eq_true rfl) (by kernel_rfl) prog_mixed ?_
  intro g2 F hg2 hF
  obtain rfl : g2 = g := hg2.unique.trans hg.symm
  clear hg2
  obtain ⟨wrap, lt, le, eq, quo, rem, band, bor, bxor, shl, shr, nat, int, add, sub, mul, cat, seq, slt, sub3, byte, llen, nadd, nsub, dlen, dapp, dset, drep, rd, rda, up, rsub, dsub, all, sle, slen⟩ := g2
  obtain ⟨r_Item, d_Item, r_Chute, d_Chute, r_Inlet, d_Inlet, r_I64, d_I64, r_U8, d_U8⟩ := t
  obtain ⟨a0_Belt, a0_Chutes, a0_Inlets, a0_Plan, a0_Now⟩ := a0
  unfold S_l7Parts at h
  try dsimp only at h
  cbv
  obtain ⟨o1, ho1, h⟩ := of_cl h
  try dsimp only at h
  try rw [hg] at ho1
  try rw [ht] at ho1
  refine ABL.mk { p : Nat × Int // p.1 ≤ a0_Chutes.length ∧ p.2 = ((p.1 : Nat) : Int) ∧ S_l7Parts_l1 G.real TE.real (Centre.mk a0_Belt a0_Chutes a0_Inlets a0_Plan a0_Now) (List.drop p.1 a0_Chutes) p.2 = some o1 } (fun ⟨⟨k1, v1⟩, _⟩ => ({ sl := [(1, .c (.p 0 5 0 0)), (3, .c (.r (.v (.int .i64 v1))))], tab := [(0, some (.foc 5 [] [.r (.s 2 (r_Item a0_Belt)), .r (.s 3 (r_Chute a0_Chutes)), .r (.s 2 (r_Inlet a0_Inlets)), .r (.s 1 (r_I64 a0_Plan)), .r (.v (.int .i64 a0_Now))] []))] } : St)) 1 (fun p => a0_Chutes.length - p.1.1) ⟨(0, 0), Nat.zero_le _, rfl, ho1⟩ (Unit) (fun _ => ({ sl := [(1, .c (.p 0 5 0 0))], tab := [(0, some (.foc 5 [] [.r (.s 2 (r_Item a0_Belt)), .r (.s 3 (r_Chute a0_Chutes)), .r (.s 2 (r_Inlet a0_Inlets)), .r (.s 1 (r_I64 a0_Plan)), .r (.v (.int .i64 a0_Now))] []))] } : St)) 1 (fun y => o1 = LR.out y) ?_ ?_ ?_
  · refine Wk.of [(0, some 0)] rfl rfl ?_ ?_
    · cbv
      all_goals exact ⟨⟨_, rfl, rfl⟩, ⟨_, rfl, rfl⟩, trivial⟩
    · cbv
      all_goals exact ⟨⟨_, rfl, _, rfl, rfl, rfl, rfl, rfl, rfl, trivial⟩, trivial⟩
  · rintro ⟨⟨k1, v1⟩, hk1, hi1, h_1⟩ hq1
    have hm1 := (hq1.2.2.1 0 _ _ _ _ 1 _ _ rfl rfl)
    try dsimp only at hk1 hi1 h_1
    clear hq1
    cbv
    by_cases hc1_ : k1 < a0_Chutes.length
    · have hb1 : lt v1 (llen (r_Chute a0_Chutes)) = true := ltL_true_Chute hg ht hi1 hc1_
      have hs1 := stepL_Chute hg ht hi1 hc1_ hm1
      obtain ⟨z1, hz1⟩ := some_of_lt hc1_
      rw [drop_of_some hz1] at h_1
      rw [S_l7Parts_l1] at h_1
      obtain ⟨z1_Cell, z1_Room, z1_Held⟩ := z1
      try rw [← hg] at h_1
      try rw [← ht] at h_1
      try dsimp only at h_1
      rw [hb1]
      cbv
      refine AStep.mk (nn_L hi1) ?_
      cbv
      refine AGet.mk _ (r_getL_Chute hg ht hi1 hz1) ?_
      cbv
      obtain ⟨x1, hx1, h_1⟩ := of_lP h_1
      try dsimp only at h_1
      refine ACall.mk _ _ rfl (hF _ _ _ (c_S_l1In hg ht hx1)) (.inl rfl) (Nat.le_of_ble_eq_true rfl) ?_
      cbv
      cases hb2 : x1 with
      | true =>
        rw [br_true hb2] at h_1
        cbv
        try (rw [hb2]; cbv)
        try (rw [hb2]; cbv)
        obtain ⟨x2, hx2, h_1⟩ := of_lP h_1
        try dsimp only at h_1
        refine ACall.mk _ _ rfl (hF _ _ _ (c_S_l1In hg ht hx2)) (.inl rfl) (Nat.le_of_ble_eq_true rfl) ?_
        cbv
        try (rw [hb2]; cbv)
        try (rw [hb2]; cbv)
        cases hb3 : x2 with
        | true =>
          rw [br_true hb3] at h_1
          cbv
          try (rw [hb3]; cbv)
          try (rw [hb3]; cbv)
          try (rw [hb3]; cbv)
          try (rw [hb3]; cbv)
          try (rw [hb3]; cbv)
          try (rw [hb3]; cbv)
          cases hb4 : (lt z1_Room (llen (r_Item z1_Held))) with
          | true =>
            rw [br_true hb4] at h_1
            cbv
            obtain rfl := Option.some.inj h_1
            try dsimp only [lr, lrL, lrp, lrpL] at h
            obtain rfl := Option.some.inj h
            exact ARet.mk trivial hX.symm
          | false =>
            rw [br_false hb4] at h_1
            cbv
            obtain ⟨hB2, h_1⟩ := of_gd h_1
            obtain ⟨o2, ho2, h_1⟩ := of_cl h_1
            try dsimp only at h_1
            try rw [hg] at ho2
            try rw [ht] at ho2
            refine ABL.mk { p : Nat × Int // p.1 = cntLt p.2 v1 ∧ 0 ≤ p.2 ∧ S_l7Parts_l2 G.real TE.real (Centre.mk a0_Belt a0_Chutes a0_Inlets a0_Plan a0_Now) (Chute.mk z1_Cell z1_Room z1_Held) p.1 p.2 = some o2 } (fun ⟨⟨n2, v2⟩, _⟩ => ({ sl := [(1, .c (.p 0 5 0 0)), (3, .c (.r (.v (.int .i64 v1)))), (4, .c (.p 1 3 0 0)), (5, .c (.r (.v (.int .i64 v2))))], tab := [(0, some (.foc 5 [] [.r (.s 2 (r_Item a0_Belt)), .r (.s 3 (r_Chute a0_Chutes)), .r (.s 2 (r_Inlet a0_Inlets)), .r (.s 1 (r_I64 a0_Plan)), .r (.v (.int .i64 a0_Now))] [])), (1, some (.foc 3 [] [.r (.v (.int .i64 z1_Cell)), .r (.v (.int .i64 z1_Room)), .r (.s 2 (r_Item z1_Held))] []))] } : St)) 2 (fun p => p.1.1) ⟨(cntLt 0 v1, 0), rfl, Int.le_refl _, ho2⟩ (Unit) (fun _ => ({ sl := [(1, .c (.p 0 5 0 0)), (3, .c (.r (.v (.int .i64 v1))))], tab := [(0, some (.foc 5 [] [.r (.s 2 (r_Item a0_Belt)), .r (.s 3 (r_Chute a0_Chutes)), .r (.s 2 (r_Inlet a0_Inlets)), .r (.s 1 (r_I64 a0_Plan)), .r (.v (.int .i64 a0_Now))] []))] } : St)) 1 (fun y => o2 = LR.out y) ?_ ?_ ?_
            · refine Wk.of [(0, some 0), (1, some 161)] rfl rfl ?_ ?_
              · cbv
                all_goals exact ⟨⟨_, rfl, rfl⟩, ⟨_, rfl, rfl⟩, ⟨_, rfl, rfl⟩, ⟨_, rfl, rfl⟩, trivial⟩
              · cbv
                all_goals exact ⟨⟨_, rfl, _, rfl, rfl, rfl, rfl, rfl, rfl, trivial⟩, ⟨_, rfl, _, rfl, rfl, rfl, rfl, trivial⟩, trivial⟩
            · rintro ⟨⟨n2, v2⟩, hn2, hi2, h_2⟩ hq2
              try dsimp only at hn2 hi2 h_2
              clear hq2
              cbv
              rcases n2 with _ | n2
              · have hb5 : lt v2 v1 = false := ltC_false hg hn2
                rw [S_l7Parts_l2] at h_2
                try rw [← hg] at h_2
                try rw [← ht] at h_2
                try dsimp only at h_2
                rw [hb5]
                cbv
                refine ⟨(), Wk.of [(0, some 0)] rfl rfl ?_ ?_, (Option.some.inj h_2).symm⟩
                · cbv
                  all_goals exact ⟨⟨_, rfl, rfl⟩, ⟨_, rfl, rfl⟩, trivial⟩
                · cbv
                  all_goals exact ⟨⟨_, rfl, _, rfl, rfl, rfl, rfl, rfl, rfl, trivial⟩, trivial⟩
              · have hb5 : lt v2 v1 = true := ltC_true hg hn2
                have hl2 := ltC_le hn2
                have hs2 := stepltC hg hn2 hi2 hB2 (by decide)
                rw [S_l7Parts_l2] at h_2
                try rw [← hg] at h_2
                try rw [← ht] at h_2
                try dsimp only at h_2
                rw [hb5]
                cbv
                refine AStep.mk (nn_C hi2) ?_
                cbv
                obtain ⟨x3, hx3, h_2⟩ := of_gt h_2
                obtain ⟨x3_Cell, x3_Room, x3_Held⟩ := x3
                try dsimp only at h_2
                refine AGet.mk _ (r_get_Chute hg ht hx3) ?_
                cbv
                cases hb6 : (eq x3_Cell z1_Cell) with
                | true =>
                  rw [br_true hb6] at h_2
                  cbv
                  obtain rfl := Option.some.inj h_2
                  try dsimp only [lr, lrL, lrp, lrpL] at h_1
                  obtain rfl := Option.some.inj h_1
                  try dsimp only [lr, lrL, lrp, lrpL] at h
                  obtain rfl := Option.some.inj h
                  exact ARet.mk trivial hX.symm
                | false =>
                  rw [br_false hb6] at h_2
                  cbv
                  try rw [hg] at h_2
                  try rw [ht] at h_2
                  refine ⟨⟨(n2, (wrap .i64 (add v2 1))), hs2.1, hs2.2, h_2⟩, Wk.of [(0, some 0), (1, some 1)] rfl rfl ?_ ?_, Nat.lt_succ_self _⟩
                  · cbv
                    all_goals exact ⟨⟨_, rfl, rfl⟩, ⟨_, rfl, rfl⟩, ⟨_, rfl, rfl⟩, ⟨_, rfl, rfl⟩, trivial⟩
                  · cbv
                    all_goals exact ⟨⟨_, rfl, _, rfl, rfl, rfl, rfl, rfl, rfl, trivial⟩, ⟨_, rfl, _, rfl, rfl, rfl, rfl, trivial⟩, trivial⟩
            · rintro _ hy2
              replace hy2 := hy2.symm
              subst hy2
              try dsimp only [lr, lrL, lrp, lrpL] at h_1
              cbv
              try rw [hg] at h_1
              try rw [ht] at h_1
              refine ⟨⟨(k1 + 1, (wrap .i64 (add v1 1))), hc1_, hs1, h_1⟩, Wk.of [(0, some 0)] rfl rfl ?_ ?_, meas_L hc1_⟩
              · cbv
                all_goals exact ⟨⟨_, rfl, rfl⟩, ⟨_, rfl, rfl⟩, trivial⟩
              · cbv
                all_goals exact ⟨⟨_, rfl, _, rfl, rfl, rfl, rfl, rfl, rfl, trivial⟩, trivial⟩
        | false =>
          rw [br_false hb3] at h_1
          cbv
          try (rw [hb3]; cbv)
          try (rw [hb3]; cbv)
          try (rw [hb3]; cbv)
          try (rw [hb3]; cbv)
          try (rw [hb3]; cbv)
          try (rw [hb3]; cbv)
          obtain rfl := Option.some.inj h_1
          try dsimp only [lr, lrL, lrp, lrpL] at h
          obtain rfl := Option.some.inj h
          exact ARet.mk trivial hX.symm
      | false =>
        rw [br_false hb2] at h_1
        cbv
        try (rw [hb2]; cbv)
        try (rw [hb2]; cbv)
        try (rw [hb2]; cbv)
        try (rw [hb2]; cbv)
        obtain rfl := Option.some.inj h_1
        try dsimp only [lr, lrL, lrp, lrpL] at h
        obtain rfl := Option.some.inj h
        exact ARet.mk trivial hX.symm
    · have hb1 : lt v1 (llen (r_Chute a0_Chutes)) = false := ltL_false_Chute hg ht hi1 hc1_
      rw [List.drop_of_length_le (Nat.le_of_not_lt hc1_)] at h_1
      rw [S_l7Parts_l1] at h_1
      try rw [← hg] at h_1
      try rw [← ht] at h_1
      try dsimp only at h_1
      rw [hb1]
      cbv
      refine ⟨(), Wk.of [(0, some 0)] rfl rfl ?_ ?_, (Option.some.inj h_1).symm⟩
      · cbv
        all_goals exact ⟨⟨_, rfl, rfl⟩, trivial⟩
      · cbv
        all_goals exact ⟨⟨_, rfl, _, rfl, rfl, rfl, rfl, rfl, rfl, trivial⟩, trivial⟩
  · rintro _ hy1
    replace hy1 := hy1.symm
    subst hy1
    try dsimp only [lr, lrL, lrp, lrpL] at h
    cbv
    obtain ⟨o3, ho3, h⟩ := of_cl h
    try dsimp only at h
    try rw [hg] at ho3
    try rw [ht] at ho3
    refine ABL.mk { p : Nat × Int // p.1 ≤ a0_Inlets.length ∧ p.2 = ((p.1 : Nat) : Int) ∧ S_l7Parts_l3 G.real TE.real (Centre.mk a0_Belt a0_Chutes a0_Inlets a0_Plan a0_Now) (List.drop p.1 a0_Inlets) p.2 = some o3 } (fun ⟨⟨k3, v3⟩, _⟩ => ({ sl := [(1, .c (.p 0 5 0 0)), (6, .c (.r (.v (.int .i64 v3))))], tab := [(0, some (.foc 5 [] [.r (.s 2 (r_Item a0_Belt)), .r (.s 3 (r_Chute a0_Chutes)), .r (.s 2 (r_Inlet a0_Inlets)), .r (.s 1 (r_I64 a0_Plan)), .r (.v (.int .i64 a0_Now))] []))] } : St)) 1 (fun p => a0_Inlets.length - p.1.1) ⟨(0, 0), Nat.zero_le _, rfl, ho3⟩ (Unit) (fun _ => ({ sl := [(1, .c (.p 0 5 0 0))], tab := [(0, some (.foc 5 [] [.r (.s 2 (r_Item a0_Belt)), .r (.s 3 (r_Chute a0_Chutes)), .r (.s 2 (r_Inlet a0_Inlets)), .r (.s 1 (r_I64 a0_Plan)), .r (.v (.int .i64 a0_Now))] []))] } : St)) 1 (fun y => o3 = LR.out y) ?_ ?_ ?_
    · refine Wk.of [(0, some 0)] rfl rfl ?_ ?_
      · cbv
        all_goals exact ⟨⟨_, rfl, rfl⟩, ⟨_, rfl, rfl⟩, trivial⟩
      · cbv
        all_goals exact ⟨⟨_, rfl, _, rfl, rfl, rfl, rfl, rfl, rfl, trivial⟩, trivial⟩
    · rintro ⟨⟨k3, v3⟩, hk3, hi3, h_3⟩ hq3
      have hm3 := (hq3.2.2.1 0 _ _ _ _ 2 _ _ rfl rfl)
      try dsimp only at hk3 hi3 h_3
      clear hq3
      cbv
      by_cases hc3_ : k3 < a0_Inlets.length
      · have hb7 : lt v3 (llen (r_Inlet a0_Inlets)) = true := ltL_true_Inlet hg ht hi3 hc3_
        have hs3 := stepL_Inlet hg ht hi3 hc3_ hm3
        obtain ⟨z3, hz3⟩ := some_of_lt hc3_
        rw [drop_of_some hz3] at h_3
        rw [S_l7Parts_l3] at h_3
        obtain ⟨z3_Cell, z3_Wait⟩ := z3
        try rw [← hg] at h_3
        try rw [← ht] at h_3
        try dsimp only at h_3
        rw [hb7]
        cbv
        refine AStep.mk (nn_L hi3) ?_
        cbv
        refine AGet.mk _ (r_getL_Inlet hg ht hi3 hz3) ?_
        cbv
        obtain ⟨x4, hx4, h_3⟩ := of_lP h_3
        try dsimp only at h_3
        refine ACall.mk _ _ rfl (hF _ _ _ (c_S_l1In hg ht hx4)) (.inl rfl) (Nat.le_of_ble_eq_true rfl) ?_
        cbv
        cases hb8 : x4 with
        | true =>
          rw [br_true hb8] at h_3
          cbv
          try (rw [hb8]; cbv)
          try (rw [hb8]; cbv)
          try (rw [hb8]; cbv)
          try (rw [hb8]; cbv)
          cases hb9 : (lt 20 (llen (r_Item z3_Wait))) with
          | true =>
            rw [br_true hb9] at h_3
            cbv
            obtain rfl := Option.some.inj h_3
            try dsimp only [lr, lrL, lrp, lrpL] at h
            obtain rfl := Option.some.inj h
            exact ARet.mk trivial hX.symm
          | false =>
            rw [br_false hb9] at h_3
            cbv
            obtain ⟨hB4, h_3⟩ := of_gd h_3
            obtain ⟨o4, ho4, h_3⟩ := of_cl h_3
            try dsimp only at h_3
            try rw [hg] at ho4
            try rw [ht] at ho4
            refine ABL.mk { p : Nat × Int // p.1 = cntLt p.2 v3 ∧ 0 ≤ p.2 ∧ S_l7Parts_l4 G.real TE.real (Centre.mk a0_Belt a0_Chutes a0_Inlets a0_Plan a0_Now) (Inlet.mk z3_Cell z3_Wait) p.1 p.2 = some o4 } (fun ⟨⟨n4, v4⟩, _⟩ => ({ sl := [(1, .c (.p 0 5 0 0)), (6, .c (.r (.v (.int .i64 v3)))), (7, .c (.p 1 2 0 0)), (8, .c (.r (.v (.int .i64 v4))))], tab := [(0, some (.foc 5 [] [.r (.s 2 (r_Item a0_Belt)), .r (.s 3 (r_Chute a0_Chutes)), .r (.s 2 (r_Inlet a0_Inlets)), .r (.s 1 (r_I64 a0_Plan)), .r (.v (.int .i64 a0_Now))] [])), (1, some (.foc 2 [] [.r (.v (.int .i64 z3_Cell)), .r (.s 2 (r_Item z3_Wait))] []))] } : St)) 2 (fun p => p.1.1) ⟨(cntLt 0 v3, 0), rfl, Int.le_refl _, ho4⟩ (Unit) (fun _ => ({ sl := [(1, .c (.p 0 5 0 0)), (6, .c (.r (.v (.int .i64 v3))))], tab := [(0, some (.foc 5 [] [.r (.s 2 (r_Item a0_Belt)), .r (.s 3 (r_Chute a0_Chutes)), .r (.s 2 (r_Inlet a0_Inlets)), .r (.s 1 (r_I64 a0_Plan)), .r (.v (.int .i64 a0_Now))] []))] } : St)) 1 (fun y => o4 = LR.out y) ?_ ?_ ?_
            · refine Wk.of [(0, some 0), (1, some 161)] rfl rfl ?_ ?_
              · cbv
                all_goals exact ⟨⟨_, rfl, rfl⟩, ⟨_, rfl, rfl⟩, ⟨_, rfl, rfl⟩, ⟨_, rfl, rfl⟩, trivial⟩
              · cbv
                all_goals exact ⟨⟨_, rfl, _, rfl, rfl, rfl, rfl, rfl, rfl, trivial⟩, ⟨_, rfl, _, rfl, rfl, rfl, trivial⟩, trivial⟩
            · rintro ⟨⟨n4, v4⟩, hn4, hi4, h_4⟩ hq4
              try dsimp only at hn4 hi4 h_4
              clear hq4
              cbv
              rcases n4 with _ | n4
              · have hb10 : lt v4 v3 = false := ltC_false hg hn4
                rw [S_l7Parts_l4] at h_4
                try rw [← hg] at h_4
                try rw [← ht] at h_4
                try dsimp only at h_4
                rw [hb10]
                cbv
                refine ⟨(), Wk.of [(0, some 0)] rfl rfl ?_ ?_, (Option.some.inj h_4).symm⟩
                · cbv
                  all_goals exact ⟨⟨_, rfl, rfl⟩, ⟨_, rfl, rfl⟩, trivial⟩
                · cbv
                  all_goals exact ⟨⟨_, rfl, _, rfl, rfl, rfl, rfl, rfl, rfl, trivial⟩, trivial⟩
              · have hb10 : lt v4 v3 = true := ltC_true hg hn4
                have hl4 := ltC_le hn4
                have hs4 := stepltC hg hn4 hi4 hB4 (by decide)
                rw [S_l7Parts_l4] at h_4
                try rw [← hg] at h_4
                try rw [← ht] at h_4
                try dsimp only at h_4
                rw [hb10]
                cbv
                refine AStep.mk (nn_C hi4) ?_
                cbv
                obtain ⟨x5, hx5, h_4⟩ := of_gt h_4
                obtain ⟨x5_Cell, x5_Wait⟩ := x5
                try dsimp only at h_4
                refine AGet.mk _ (r_get_Inlet hg ht hx5) ?_
                cbv
                cases hb11 : (eq x5_Cell z3_Cell) with
                | true =>
                  rw [br_true hb11] at h_4
                  cbv
                  obtain rfl := Option.some.inj h_4
                  try dsimp only [lr, lrL, lrp, lrpL] at h_3
                  obtain rfl := Option.some.inj h_3
                  try dsimp only [lr, lrL, lrp, lrpL] at h
                  obtain rfl := Option.some.inj h
                  exact ARet.mk trivial hX.symm
                | false =>
                  rw [br_false hb11] at h_4
                  cbv
                  try rw [hg] at h_4
                  try rw [ht] at h_4
                  refine ⟨⟨(n4, (wrap .i64 (add v4 1))), hs4.1, hs4.2, h_4⟩, Wk.of [(0, some 0), (1, some 1)] rfl rfl ?_ ?_, Nat.lt_succ_self _⟩
                  · cbv
                    all_goals exact ⟨⟨_, rfl, rfl⟩, ⟨_, rfl, rfl⟩, ⟨_, rfl, rfl⟩, ⟨_, rfl, rfl⟩, trivial⟩
                  · cbv
                    all_goals exact ⟨⟨_, rfl, _, rfl, rfl, rfl, rfl, rfl, rfl, trivial⟩, ⟨_, rfl, _, rfl, rfl, rfl, trivial⟩, trivial⟩
            · rintro _ hy4
              replace hy4 := hy4.symm
              subst hy4
              try dsimp only [lr, lrL, lrp, lrpL] at h_3
              cbv
              try rw [hg] at h_3
              try rw [ht] at h_3
              refine ⟨⟨(k3 + 1, (wrap .i64 (add v3 1))), hc3_, hs3, h_3⟩, Wk.of [(0, some 0)] rfl rfl ?_ ?_, meas_L hc3_⟩
              · cbv
                all_goals exact ⟨⟨_, rfl, rfl⟩, ⟨_, rfl, rfl⟩, trivial⟩
              · cbv
                all_goals exact ⟨⟨_, rfl, _, rfl, rfl, rfl, rfl, rfl, rfl, trivial⟩, trivial⟩
        | false =>
          rw [br_false hb8] at h_3
          cbv
          try (rw [hb8]; cbv)
          try (rw [hb8]; cbv)
          try (rw [hb8]; cbv)
          try (rw [hb8]; cbv)
          obtain rfl := Option.some.inj h_3
          try dsimp only [lr, lrL, lrp, lrpL] at h
          obtain rfl := Option.some.inj h
          exact ARet.mk trivial hX.symm
      · have hb7 : lt v3 (llen (r_Inlet a0_Inlets)) = false := ltL_false_Inlet hg ht hi3 hc3_
        rw [List.drop_of_length_le (Nat.le_of_not_lt hc3_)] at h_3
        rw [S_l7Parts_l3] at h_3
        try rw [← hg] at h_3
        try rw [← ht] at h_3
        try dsimp only at h_3
        rw [hb7]
        cbv
        refine ⟨(), Wk.of [(0, some 0)] rfl rfl ?_ ?_, (Option.some.inj h_3).symm⟩
        · cbv
          all_goals exact ⟨⟨_, rfl, rfl⟩, trivial⟩
        · cbv
          all_goals exact ⟨⟨_, rfl, _, rfl, rfl, rfl, rfl, rfl, rfl, trivial⟩, trivial⟩
    · rintro _ hy3
      replace hy3 := hy3.symm
      subst hy3
      try dsimp only [lr, lrL, lrp, lrpL] at h
      cbv
      obtain ⟨o5, ho5, h⟩ := of_lP h
      try dsimp only at h
      try rw [hg] at ho5
      try rw [ht] at ho5
      refine ABL.mk { p : Nat × Int // p.1 ≤ a0_Plan.length ∧ p.2 = ((p.1 : Nat) : Int) ∧ S_l7Parts_l5 G.real TE.real (Centre.mk a0_Belt a0_Chutes a0_Inlets a0_Plan a0_Now) (List.drop p.1 a0_Plan) = o5 } (fun ⟨⟨k5, v5⟩, _⟩ => ({ sl := [(1, .c (.p 0 5 0 0)), (9, .c (.r (.v (.int .i64 v5))))], tab := [(0, some (.foc 5 [] [.r (.s 2 (r_Item a0_Belt)), .r (.s 3 (r_Chute a0_Chutes)), .r (.s 2 (r_Inlet a0_Inlets)), .r (.s 1 (r_I64 a0_Plan)), .r (.v (.int .i64 a0_Now))] []))] } : St)) 1 (fun p => a0_Plan.length - p.1.1) ⟨(0, 0), Nat.zero_le _, rfl, ho5⟩ (Unit) (fun _ => ({ sl := [(1, .c (.p 0 5 0 0))], tab := [(0, some (.foc 5 [] [.r (.s 2 (r_Item a0_Belt)), .r (.s 3 (r_Chute a0_Chutes)), .r (.s 2 (r_Inlet a0_Inlets)), .r (.s 1 (r_I64 a0_Plan)), .r (.v (.int .i64 a0_Now))] []))] } : St)) 1 (fun y => o5 = LR.out y) ?_ ?_ ?_
      · refine Wk.of [(0, some 0)] rfl rfl ?_ ?_
        · cbv
          all_goals exact ⟨⟨_, rfl, rfl⟩, ⟨_, rfl, rfl⟩, trivial⟩
        · cbv
          all_goals exact ⟨⟨_, rfl, _, rfl, rfl, rfl, rfl, rfl, rfl, trivial⟩, trivial⟩
      · rintro ⟨⟨k5, v5⟩, hk5, hi5, h_5⟩ hq5
        have hm5 := (hq5.2.2.1 0 _ _ _ _ 3 _ _ rfl rfl)
        try dsimp only at hk5 hi5 h_5
        clear hq5
        cbv
        by_cases hc5_ : k5 < a0_Plan.length
        · have hb12 : lt v5 (llen (r_I64 a0_Plan)) = true := ltL_true_I64 hg ht hi5 hc5_
          have hs5 := stepL_I64 hg ht hi5 hc5_ hm5
          obtain ⟨z5, hz5⟩ := some_of_lt hc5_
          rw [drop_of_some hz5] at h_5
          rw [S_l7Parts_l5] at h_5
          try rw [← hg] at h_5
          try rw [← ht] at h_5
          try dsimp only at h_5
          rw [hb12]
          cbv
          refine AStep.mk (nn_L hi5) ?_
          cbv
          refine AGet.mk _ (r_getL_I64 hg ht hi5 hz5) ?_
          cbv
          obtain ⟨x6, hx6, h_5⟩ := of_lP h_5
          try dsimp only at h_5
          refine ACall.mk _ _ rfl (hF _ _ _ (c_S_l1In hg ht hx6)) (.inl rfl) (Nat.le_of_ble_eq_true rfl) ?_
          cbv
          cases hb13 : x6 with
          | true =>
            rw [br_true hb13] at h_5
            cbv
            try rw [hg] at h_5
            try rw [ht] at h_5
            refine ⟨⟨(k5 + 1, (wrap .i64 (add v5 1))), hc5_, hs5, h_5⟩, Wk.of [(0, some 0)] rfl rfl ?_ ?_, meas_L hc5_⟩
            · cbv
              all_goals exact ⟨⟨_, rfl, rfl⟩, ⟨_, rfl, rfl⟩, trivial⟩
            · cbv
              all_goals exact ⟨⟨_, rfl, _, rfl, rfl, rfl, rfl, rfl, rfl, trivial⟩, trivial⟩
          | false =>
            rw [br_false hb13] at h_5
            cbv
            subst h_5
            try dsimp only [lr, lrL, lrp, lrpL] at h
            obtain rfl := Option.some.inj h
            exact ARet.mk trivial hX.symm
        · have hb12 : lt v5 (llen (r_I64 a0_Plan)) = false := ltL_false_I64 hg ht hi5 hc5_
          rw [List.drop_of_length_le (Nat.le_of_not_lt hc5_)] at h_5
          rw [S_l7Parts_l5] at h_5
          try rw [← hg] at h_5
          try rw [← ht] at h_5
          try dsimp only at h_5
          rw [hb12]
          cbv
          refine ⟨(), Wk.of [(0, some 0)] rfl rfl ?_ ?_, h_5.symm⟩
          · cbv
            all_goals exact ⟨⟨_, rfl, rfl⟩, trivial⟩
          · cbv
            all_goals exact ⟨⟨_, rfl, _, rfl, rfl, rfl, rfl, rfl, rfl, trivial⟩, trivial⟩
      · rintro _ hy5
        replace hy5 := hy5.symm
        subst hy5
        try dsimp only [lr, lrL, lrp, lrpL] at h
        cbv
        obtain ⟨x7, hx7, h⟩ := of_lP h
        try dsimp only at h
        refine ACall.mk _ _ rfl (hF _ _ _ (c_S_l1In hg ht hx7)) (.inl rfl) (Nat.le_of_ble_eq_true rfl) ?_
        cbv
        cases hb14 : x7 with
        | true =>
          rw [br_true hb14] at h
          cbv
          try (rw [hb14]; cbv)
          try (rw [hb14]; cbv)
          try (rw [hb14]; cbv)
          obtain ⟨x8, hx8, h⟩ := of_lP h
          try dsimp only at h
          refine ACall.mk _ _ rfl (hF _ _ _ (c_S_l1In hg ht hx8)) (.inl rfl) (Nat.le_of_ble_eq_true rfl) ?_
          cbv
          try (rw [hb14]; cbv)
          cases hb15 : x8 with
          | true =>
            rw [br_true hb15] at h
            cbv
            try (rw [hb15]; cbv)
            try (rw [hb15]; cbv)
            try (rw [hb15]; cbv)
            obtain ⟨x9, hx9, h⟩ := of_lP h
            try dsimp only at h
            refine ACall.mk _ _ rfl (hF _ _ _ (c_S_l1In hg ht hx9)) (.inl rfl) (Nat.le_of_ble_eq_true rfl) ?_
            cbv
            try (rw [hb15]; cbv)
            obtain rfl := Option.some.inj h
            exact ARet.mk trivial hX.symm
          | false =>
            rw [br_false hb15] at h
            cbv
            try (rw [hb15]; cbv)
            try (rw [hb15]; cbv)
            try (rw [hb15]; cbv)
            try (rw [hb15]; cbv)
            obtain rfl := Option.some.inj h
            exact ARet.mk trivial hX.symm
        | false =>
          rw [br_false hb14] at h
          cbv
          try (rw [hb14]; cbv)
          try (rw [hb14]; cbv)
          try (rw [hb14]; cbv)
          try (rw [hb14]; cbv)
          obtain rfl := Option.some.inj h
          exact ARet.mk trivial hX.symm
end Go.Vs
namespace Go.Vs
open Go.Proofs Go.IntWalk
set_option linter.unusedVariables false
set_option maxRecDepth 100000
set_option maxHeartbeats 4000000
def S_l7Item (g : G) (t : TE) (a0 : Item) (a1 : List Int) : Bool :=
  lP (S_l1In g t a0.Id 1 9999) fun x1 =>
  br x1
  (
   lP (S_l1In g t a0.Dest 0 (g.wrap .i64 (g.sub (g.llen (t.r_I64 a1)) 1))) fun x2 =>
   x2)
  (
   false)
theorem fit88 : codeFit Try.prog Try.f88.ntmps (Try.f88.body.getD .skip) ir88 = true := by kernel_rfl
theorem c_S_l7Item {g : G} {t : TE} {a0 : Item} {a1 : List Int} {r : Bool} (hg : g = G.real) (ht : t = TE.real) (h : S_l7Item g t a0 a1 = r) : Fn Try.prog 88 [.g (Item.rs t a0), .c (.s 1 (t.r_I64 a1))] (.c (.r (.v (.bool r)))) := by
  obtain ⟨X, hX⟩ := hide (.c (.r (.v (.bool r))) : X)
  rw [← hX]
  refine fn_of (rvs := rv88) (j := ir88) Try.func88 rfl fit88 (Nat.le_of_ble_eq_true rfl) (by kernel_rfl) prog_mixed ?_
  intro g2 F hg2 hF
  obtain rfl : g2 = g := hg2.unique.trans hg.symm
  clear hg2
  obtain ⟨wrap, lt, le, eq, quo, rem, band, bor, bxor, shl, shr, nat, int, add, sub, mul, cat, seq, slt, sub3, byte, llen, nadd, nsub, dlen, dapp, dset, drep, rd, rda, up, rsub, dsub, all, sle, slen⟩ := g2
  obtain ⟨r_Item, d_Item, r_Chute, d_Chute, r_Inlet, d_Inlet, r_I64, d_I64, r_U8, d_U8⟩ := t
  obtain ⟨a0_Id, a0_Dest⟩ := a0
  unfold S_l7Item at h
  try dsimp only at h
  cbv
  obtain ⟨x1, hx1, h⟩ := of_lP h
  try dsimp only at h
  refine ACall.mk _ _ rfl (hF _ _ _ (c_S_l1In hg ht hx1)) (.inl rfl) (Nat.le_of_ble_eq_true rfl) ?_
  cbv
  cases hb1 : x1 with
  | true =>
    rw [br_true hb1] at h
    cbv
    try (rw [hb1]; cbv)
    try (rw [hb1]; cbv)
    try (rw [hb1]; cbv)
    try (rw [hb1]; cbv)
    try (rw [hb1]; cbv)
    obtain ⟨x2, hx2, h⟩ := of_lP h
    try dsimp only at h
    refine ACall.mk _ _ rfl (hF _ _ _ (c_S_l1In hg ht hx2)) (.inl rfl) (Nat.le_of_ble_eq_true rfl) ?_
    cbv
    try (rw [hb1]; cbv)
    subst h
    exact ARet.mk trivial hX.symm
  | false =>
    rw [br_false hb1] at h
    cbv
    try (rw [hb1]; cbv)
    try (rw [hb1]; cbv)
    try (rw [hb1]; cbv)
    try (rw [hb1]; cbv)
    try (rw [hb1]; cbv)
    try (rw [hb1]; cbv)
    subst h
    exact ARet.mk trivial hX.symm
end Go.Vs
namespace Go.Vs
open Go.Proofs Go.IntWalk
set_option linter.unusedVariables false
set_option maxRecDepth 100000
set_option maxHeartbeats 4000000
def L_centres_l2 (g : G) (t : TE) (a1 : Centre) : List Inlet → Int → Option (LR Bool Unit)
  | [], v2 =>
    some (LR.out ())
  | z2 :: ls2, v2 =>
    gt a1.Inlets (g.nat v2) fun x5 =>
    br (g.eq z2.Cell x5.Cell)
    (
     cl (L_items g t z2.Wait x5.Wait) fun x6 =>
     br x6
     (
      L_centres_l2 g t a1 ls2 (g.wrap .i64 (g.add v2 1)))
     (
      some (LR.ret false)))
    (
     some (LR.ret false))
def L_centres_l1 (g : G) (t : TE) (a1 : Centre) : List Chute → Int → Option (LR Bool Unit)
  | [], v1 =>
    some (LR.out ())
  | z1 :: ls1, v1 =>
    gt a1.Chutes (g.nat v1) fun x3 =>
    br (g.eq z1.Cell x3.Cell)
    (
     br (g.eq z1.Room x3.Room)
     (
      cl (L_items g t z1.Held x3.Held) fun x4 =>
      br x4
      (
       L_centres_l1 g t a1 ls1 (g.wrap .i64 (g.add v1 1)))
      (
       some (LR.ret false)))
     (
      some (LR.ret false)))
    (
     some (LR.ret false))
def L_centres (g : G) (t : TE) (a0 : Centre) (a1 : Centre) : Option Bool :=
  cl (L_items g t a0.Belt a1.Belt) fun x1 =>
  br x1
  (
   br (g.eq (g.llen (t.r_Chute a0.Chutes)) (g.llen (t.r_Chute a1.Chutes)))
   (
    br (g.eq (g.llen (t.r_Inlet a0.Inlets)) (g.llen (t.r_Inlet a1.Inlets)))
    (
     cl (L_ints g t a0.Plan a1.Plan) fun x2 =>
     br x2
     (
      br (g.eq a0.Now a1.Now)
      (
       cl (L_centres_l1 g t a1 a0.Chutes 0) fun o1 => lr o1 fun y1 =>
       cl (L_centres_l2 g t a1 a0.Inlets 0) fun o2 => lr o2 fun y2 =>
       some true)
      (
       some false))
     (
      some false))
    (
     some false))
   (
    some false))
  (
   some false)
theorem fit35 : codeFit Try.prog Try.f35.ntmps (Try.f35.body.getD .skip) ir35 = true := by kernel_rfl
theorem c_L_centres {g : G} {t : TE} {a0 : Centre} {a1 : Centre} {r : Bool} (hg : g = G.real) (ht : t = TE.real) (h : L_centres g t a0 a1 = some r) : Fn Try.prog 35 [.g (Centre.rs t a0), .g (Centre.rs t a1)] (.c (.r (.v (.bool r)))) := by
  obtain ⟨X, hX⟩ := hide (.c (.r (.v (.bool r))) : X)
  rw [← hX]
  refine fn_of (rvs := rv35) (j := ir35) Try.func35 rfl fit35 (Nat.le_of_ble_eq_true rfl) (by kernel_rfl) prog_mixed ?_
  intro g2 F hg2 hF
  obtain rfl : g2 = g := hg2.unique.trans hg.symm
  clear hg2
  obtain ⟨wrap, lt, le, eq, quo, rem, band, bor, bxor, shl, shr, nat, int, add, sub, mul, cat, seq, slt, sub3, byte, llen, nadd, nsub, dlen, dapp, dset, drep, rd, rda, up, rsub, dsub, all, sle, slen⟩ := g2
  obtain ⟨r_Item, d_Item, r_Chute, d_Chute, r_Inlet, d_Inlet, r_I64, d_I64, r_U8, d_U8⟩ := t
  obtain ⟨a0_Belt, a0_Chutes, a0_Inlets, a0_Plan, a0_Now⟩ := a0
  obtain ⟨a1_Belt, a1_Chutes, a1_Inlets, a1_Plan, a1_Now⟩ := a1
  unfold L_centres at h
  try dsimp only at h
  cbv
  obtain ⟨x1, hx1, h⟩ := of_cl h
  try dsimp only at h
  refine ACall.mk _ _ rfl (hF _ _ _ (c_L_items hg ht hx1)) (.inl rfl) (Nat.le_of_ble_eq_true rfl) ?_
  cbv
  cases hb1 : x1 with
  | true =>
    rw [br_true hb1] at h
    cbv
    try (rw [hb1]; cbv)
    try (rw [hb1]; cbv)
    try (rw [hb1]; cbv)
    try (rw [hb1]; cbv)
    try (rw [hb1]; cbv)
    try (rw [hb1]; cbv)
    try (rw [hb1]; cbv)
    cases hb2 : (eq (llen (r_Chute a0_Chutes)) (llen (r_Chute a1_Chutes))) with
    | true =>
      rw [br_true hb2] at h
      cbv
      try (rw [hb2]; cbv)
      try (rw [hb2]; cbv)
      try (rw [hb2]; cbv)
      try (rw [hb2]; cbv)
      try (rw [hb2]; cbv)
      try (rw [hb2]; cbv)
      try (rw [hb2]; cbv)
      cases hb3 : (eq (llen (r_Inlet a0_Inlets)) (llen (r_Inlet a1_Inlets))) with
      | true =>
        rw [br_true hb3] at h
        cbv
        try (rw [hb3]; cbv)
        try (rw [hb3]; cbv)
        try (rw [hb3]; cbv)
        try (rw [hb3]; cbv)
        obtain ⟨x2, hx2, h⟩ := of_cl h
        try dsimp only at h
        refine ACall.mk _ _ rfl (hF _ _ _ (c_L_ints hg ht hx2)) (.inl rfl) (Nat.le_of_ble_eq_true rfl) ?_
        cbv
        try (rw [hb3]; cbv)
        try (rw [hb3]; cbv)
        cases hb4 : x2 with
        | true =>
          rw [br_true hb4] at h
          cbv
          try (rw [hb4]; cbv)
          try (rw [hb4]; cbv)
          try (rw [hb4]; cbv)
          try (rw [hb4]; cbv)
          try (rw [hb4]; cbv)
          cases hb5 : (eq a0_Now a1_Now) with
          | true =>
            rw [br_true hb5] at h
            cbv
            obtain ⟨o1, ho1, h⟩ := of_cl h
            try dsimp only at h
            try rw [hg] at ho1
            try rw [ht] at ho1
            refine ABL.mk { p : Nat × Int // p.1 ≤ a0_Chutes.length ∧ p.2 = ((p.1 : Nat) : Int) ∧ L_centres_l1 G.real TE.real (Centre.mk a1_Belt a1_Chutes a1_Inlets a1_Plan a1_Now) (List.drop p.1 a0_Chutes) p.2 = some o1 } (fun ⟨⟨k1, v1⟩, _⟩ => ({ sl := [(2, .c (.p 0 5 0 0)), (3, .c (.p 1 5 0 0)), (5, .c (.r (.v (.int .i64 v1))))], tab := [(0, some (.foc 5 [] [.r (.s 2 (r_Item a0_Belt)), .r (.s 3 (r_Chute a0_Chutes)), .r (.s 2 (r_Inlet a0_Inlets)), .r (.s 1 (r_I64 a0_Plan)), .r (.v (.int .i64 a0_Now))] [])), (1, some (.foc 5 [] [.r (.s 2 (r_Item a1_Belt)), .r (.s 3 (r_Chute a1_Chutes)), .r (.s 2 (r_Inlet a1_Inlets)), .r (.s 1 (r_I64 a1_Plan)), .r (.v (.int .i64 a1_Now))] []))] } : St)) 2 (fun p => a0_Chutes.length - p.1.1) ⟨(0, 0), Nat.zero_le _, rfl, ho1⟩ (Unit) (fun _ => ({ sl := [(2, .c (.p 0 5 0 0)), (3, .c (.p 1 5 0 0))], tab := [(0, some (.foc 5 [] [.r (.s 2 (r_Item a0_Belt)), .r (.s 3 (r_Chute a0_Chutes)), .r (.s 2 (r_Inlet a0_Inlets)), .r (.s 1 (r_I64 a0_Plan)), .r (.v (.int .i64 a0_Now))] [])), (1, some (.foc 5 [] [.r (.s 2 (r_Item a1_Belt)), .r (.s 3 (r_Chute a1_Chutes)), .r (.s 2 (r_Inlet a1_Inlets)), .r (.s 1 (r_I64 a1_Plan)), .r (.v (.int .i64 a1_Now))] []))] } : St)) 2 (fun y => o1 = LR.out y) ?_ ?_ ?_
            · refine Wk.of [(0, some 0), (1, some 16)] rfl rfl ?_ ?_
              · cbv
                all_goals exact ⟨⟨_, rfl, rfl⟩, ⟨_, rfl, rfl⟩, ⟨_, rfl, rfl⟩, trivial⟩
              · cbv
                all_goals exact ⟨⟨_, rfl, _, rfl, rfl, rfl, rfl, rfl, rfl, trivial⟩, ⟨_, rfl, _, rfl, rfl, rfl, rfl, rfl, rfl, trivial⟩, trivial⟩
            · rintro ⟨⟨k1, v1⟩, hk1, hi1, h_1⟩ hq1
              have hm1 := (hq1.2.2.1 0 _ _ _ _ 1 _ _ rfl rfl)
              try dsimp only at hk1 hi1 h_1
              clear hq1
              cbv
              by_cases hc1_ : k1 < a0_Chutes.length
              · have hb6 : lt v1 (llen (r_Chute a0_Chutes)) = true := ltL_true_Chute hg ht hi1 hc1_
                have hs1 := stepL_Chute hg ht hi1 hc1_ hm1
                obtain ⟨z1, hz1⟩ := some_of_lt hc1_
                rw [drop_of_some hz1] at h_1
                rw [L_centres_l1] at h_1
                obtain ⟨z1_Cell, z1_Room, z1_Held⟩ := z1
                try rw [← hg] at h_1
                try rw [← ht] at h_1
                try dsimp only at h_1
                rw [hb6]
                cbv
                refine AStep.mk (nn_L hi1) ?_
                cbv
                refine AGet.mk _ (r_getL_Chute hg ht hi1 hz1) ?_
                cbv
                refine AStep.mk (nn_L hi1) ?_
                cbv
                obtain ⟨x3, hx3, h_1⟩ := of_gt h_1
                obtain ⟨x3_Cell, x3_Room, x3_Held⟩ := x3
                try dsimp only at h_1
                refine AGet.mk _ (r_get_Chute hg ht hx3) ?_
                cbv
                cases hb7 : (eq z1_Cell x3_Cell) with
                | true =>
                  rw [br_true hb7] at h_1
                  cbv
                  try (rw [hb7]; cbv)
                  try (rw [hb7]; cbv)
                  try (rw [hb7]; cbv)
                  refine AStep.mk (nn_L hi1) ?_
                  cbv
                  refine AGet.mk _ (r_getL_Chute hg ht hi1 hz1) ?_
                  cbv
                  try (rw [hb7]; cbv)
                  try (rw [hb7]; cbv)
                  try (rw [hb7]; cbv)
                  try (rw [hb7]; cbv)
                  try (rw [hb7]; cbv)
                  try (rw [hb7]; cbv)
                  refine AStep.mk (nn_L hi1) ?_
                  cbv
                  refine AGet.mk _ (r_get_Chute hg ht hx3) ?_
                  cbv
                  try (rw [hb7]; cbv)
                  try (rw [hb7]; cbv)
                  try (rw [hb7]; cbv)
                  try (rw [hb7]; cbv)
                  cases hb8 : (eq z1_Room x3_Room) with
                  | true =>
                    rw [br_true hb8] at h_1
                    cbv
                    try (rw [hb8]; cbv)
                    try (rw [hb8]; cbv)
                    try (rw [hb8]; cbv)
                    refine AStep.mk (nn_L hi1) ?_
                    cbv
                    refine AGet.mk _ (r_getL_Chute hg ht hi1 hz1) ?_
                    cbv
                    try (rw [hb8]; cbv)
                    try (rw [hb8]; cbv)
                    try (rw [hb8]; cbv)
                    try (rw [hb8]; cbv)
                    try (rw [hb8]; cbv)
                    try (rw [hb8]; cbv)
                    refine AStep.mk (nn_L hi1) ?_
                    cbv
                    refine AGet.mk _ (r_get_Chute hg ht hx3) ?_
                    cbv
                    try (rw [hb8]; cbv)
                    try (rw [hb8]; cbv)
                    try (rw [hb8]; cbv)
                    obtain ⟨x4, hx4, h_1⟩ := of_cl h_1
                    try dsimp only at h_1
                    refine ACall.mk _ _ rfl (hF _ _ _ (c_L_items hg ht hx4)) (.inl rfl) (Nat.le_of_ble_eq_true rfl) ?_
                    cbv
                    try (rw [hb8]; cbv)
                    try (rw [hb8]; cbv)
                    cases hb9 : x4 with
                    | true =>
                      rw [br_true hb9] at h_1
                      cbv
                      try rw [hg] at h_1
                      try rw [ht] at h_1
                      refine ⟨⟨(k1 + 1, (wrap .i64 (add v1 1))), hc1_, hs1, h_1⟩, Wk.of [(0, some 0), (1, some 1)] rfl rfl ?_ ?_, meas_L hc1_⟩
                      · cbv
                        all_goals exact ⟨⟨_, rfl, rfl⟩, ⟨_, rfl, rfl⟩, ⟨_, rfl, rfl⟩, trivial⟩
                      · cbv
                        all_goals exact ⟨⟨_, rfl, _, rfl, rfl, rfl, rfl, rfl, rfl, trivial⟩, ⟨_, rfl, _, rfl, rfl, rfl, rfl, rfl, rfl, trivial⟩, trivial⟩
                    | false =>
                      rw [br_false hb9] at h_1
                      cbv
                      obtain rfl := Option.some.inj h_1
                      try dsimp only [lr, lrL, lrp, lrpL] at h
                      obtain rfl := Option.some.inj h
                      exact ARet.mk trivial hX.symm
                  | false =>
                    rw [br_false hb8] at h_1
                    cbv
                    try (rw [hb8]; cbv)
                    try (rw [hb8]; cbv)
                    try (rw [hb8]; cbv)
                    try (rw [hb8]; cbv)
                    try (rw [hb8]; cbv)
                    try (rw [hb8]; cbv)
                    try (rw [hb8]; cbv)
                    try (rw [hb8]; cbv)
                    try (rw [hb8]; cbv)
                    try (rw [hb8]; cbv)
                    try (rw [hb8]; cbv)
                    try (rw [hb8]; cbv)
                    try (rw [hb8]; cbv)
                    try (rw [hb8]; cbv)
                    obtain rfl := Option.some.inj h_1
                    try dsimp only [lr, lrL, lrp, lrpL] at h
                    obtain rfl := Option.some.inj h
                    exact ARet.mk trivial hX.symm
                | false =>
                  rw [br_false hb7] at h_1
                  cbv
                  try (rw [hb7]; cbv)
                  try (rw [hb7]; cbv)
                  try (rw [hb7]; cbv)
                  try (rw [hb7]; cbv)
                  try (rw [hb7]; cbv)
                  try (rw [hb7]; cbv)
                  try (rw [hb7]; cbv)
                  try (rw [hb7]; cbv)
                  try (rw [hb7]; cbv)
                  try (rw [hb7]; cbv)
                  try (rw [hb7]; cbv)
                  try (rw [hb7]; cbv)
                  try (rw [hb7]; cbv)
                  obtain rfl := Option.some.inj h_1
                  try dsimp only [lr, lrL, lrp, lrpL] at h
                  obtain rfl := Option.some.inj h
                  exact ARet.mk trivial hX.symm
              · have hb6 : lt v1 (llen (r_Chute a0_Chutes)) = false := ltL_false_Chute hg ht hi1 hc1_
                rw [List.drop_of_length_le (Nat.le_of_not_lt hc1_)] at h_1
                rw [L_centres_l1] at h_1
                try rw [← hg] at h_1
                try rw [← ht] at h_1
                try dsimp only at h_1
                rw [hb6]
                cbv
                refine ⟨(), Wk.of [(0, some 0), (1, some 1)] rfl rfl ?_ ?_, (Option.some.inj h_1).symm⟩
                · cbv
                  all_goals exact ⟨⟨_, rfl, rfl⟩, ⟨_, rfl, rfl⟩, trivial⟩
                · cbv
                  all_goals exact ⟨⟨_, rfl, _, rfl, rfl, rfl, rfl, rfl, rfl, trivial⟩, ⟨_, rfl, _, rfl, rfl, rfl, rfl, rfl, rfl, trivial⟩, trivial⟩
            · rintro _ hy1
              replace hy1 := hy1.symm
              subst hy1
              try dsimp only [lr, lrL, lrp, lrpL] at h
              cbv
              obtain ⟨o2, ho2, h⟩ := of_cl h
              try dsimp only at h
              try rw [hg] at ho2
              try rw [ht] at ho2
              refine ABL.mk { p : Nat × Int // p.1 ≤ a0_Inlets.length ∧ p.2 = ((p.1 : Nat) : Int) ∧ L_centres_l2 G.real TE.real (Centre.mk a1_Belt a1_Chutes a1_Inlets a1_Plan a1_Now) (List.drop p.1 a0_Inlets) p.2 = some o2 } (fun ⟨⟨k2, v2⟩, _⟩ => ({ sl := [(2, .c (.p 0 5 0 0)), (3, .c (.p 1 5 0 0)), (6, .c (.r (.v (.int .i64 v2))))], tab := [(0, some (.foc 5 [] [.r (.s 2 (r_Item a0_Belt)), .r (.s 3 (r_Chute a0_Chutes)), .r (.s 2 (r_Inlet a0_Inlets)), .r (.s 1 (r_I64 a0_Plan)), .r (.v (.int .i64 a0_Now))] [])), (1, some (.foc 5 [] [.r (.s 2 (r_Item a1_Belt)), .r (.s 3 (r_Chute a1_Chutes)), .r (.s 2 (r_Inlet a1_Inlets)), .r (.s 1 (r_I64 a1_Plan)), .r (.v (.int .i64 a1_Now))] []))] } : St)) 2 (fun p => a0_Inlets.length - p.1.1) ⟨(0, 0), Nat.zero_le _, rfl, ho2⟩ (Unit) (fun _ => ({ sl := [], tab := [] } : St)) 0 (fun y => o2 = LR.out y) ?_ ?_ ?_
              · refine Wk.of [(0, some 0), (1, some 1)] rfl rfl ?_ ?_
                · cbv
                  all_goals exact ⟨⟨_, rfl, rfl⟩, ⟨_, rfl, rfl⟩, ⟨_, rfl, rfl⟩, trivial⟩
                · cbv
                  all_goals exact ⟨⟨_, rfl, _, rfl, rfl, rfl, rfl, rfl, rfl, trivial⟩, ⟨_, rfl, _, rfl, rfl, rfl, rfl, rfl, rfl, trivial⟩, trivial⟩
              · rintro ⟨⟨k2, v2⟩, hk2, hi2, h_2⟩ hq2
                have hm2 := (hq2.2.2.1 0 _ _ _ _ 2 _ _ rfl rfl)
                try dsimp only at hk2 hi2 h_2
                clear hq2
                cbv
                by_cases hc2_ : k2 < a0_Inlets.length
                · have hb10 : lt v2 (llen (r_Inlet a0_Inlets)) = true := ltL_true_Inlet hg ht hi2 hc2_
                  have hs2 := stepL_Inlet hg ht hi2 hc2_ hm2
                  obtain ⟨z2, hz2⟩ := some_of_lt hc2_
                  rw [drop_of_some hz2] at h_2
                  rw [L_centres_l2] at h_2
                  obtain ⟨z2_Cell, z2_Wait⟩ := z2
                  try rw [← hg] at h_2
                  try rw [← ht] at h_2
                  try dsimp only at h_2
                  rw [hb10]
                  cbv
                  refine AStep.mk (nn_L hi2) ?_
                  cbv
                  refine AGet.mk _ (r_getL_Inlet hg ht hi2 hz2) ?_
                  cbv
                  refine AStep.mk (nn_L hi2) ?_
                  cbv
                  obtain ⟨x5, hx5, h_2⟩ := of_gt h_2
                  obtain ⟨x5_Cell, x5_Wait⟩ := x5
                  try dsimp only at h_2
                  refine AGet.mk _ (r_get_Inlet hg ht hx5) ?_
                  cbv
                  cases hb11 : (eq z2_Cell x5_Cell) with
                  | true =>
                    rw [br_true hb11] at h_2
                    cbv
                    try (rw [hb11]; cbv)
                    try (rw [hb11]; cbv)
                    try (rw [hb11]; cbv)
                    refine AStep.mk (nn_L hi2) ?_
                    cbv
                    refine AGet.mk _ (r_getL_Inlet hg ht hi2 hz2) ?_
                    cbv
                    try (rw [hb11]; cbv)
                    try (rw [hb11]; cbv)
                    try (rw [hb11]; cbv)
                    try (rw [hb11]; cbv)
                    try (rw [hb11]; cbv)
                    try (rw [hb11]; cbv)
                    refine AStep.mk (nn_L hi2) ?_
                    cbv
                    refine AGet.mk _ (r_get_Inlet hg ht hx5) ?_
                    cbv
                    try (rw [hb11]; cbv)
                    try (rw [hb11]; cbv)
                    try (rw [hb11]; cbv)
                    obtain ⟨x6, hx6, h_2⟩ := of_cl h_2
                    try dsimp only at h_2
                    refine ACall.mk _ _ rfl (hF _ _ _ (c_L_items hg ht hx6)) (.inl rfl) (Nat.le_of_ble_eq_true rfl) ?_
                    cbv
                    try (rw [hb11]; cbv)
                    try (rw [hb11]; cbv)
                    cases hb12 : x6 with
                    | true =>
                      rw [br_true hb12] at h_2
                      cbv
                      try rw [hg] at h_2
                      try rw [ht] at h_2
                      refine ⟨⟨(k2 + 1, (wrap .i64 (add v2 1))), hc2_, hs2, h_2⟩, Wk.of [(0, some 0), (1, some 1)] rfl rfl ?_ ?_, meas_L hc2_⟩
                      · cbv
                        all_goals exact ⟨⟨_, rfl, rfl⟩, ⟨_, rfl, rfl⟩, ⟨_, rfl, rfl⟩, trivial⟩
                      · cbv
                        all_goals exact ⟨⟨_, rfl, _, rfl, rfl, rfl, rfl, rfl, rfl, trivial⟩, ⟨_, rfl, _, rfl, rfl, rfl, rfl, rfl, rfl, trivial⟩, trivial⟩
                    | false =>
                      rw [br_false hb12] at h_2
                      cbv
                      obtain rfl := Option.some.inj h_2
                      try dsimp only [lr, lrL, lrp, lrpL] at h
                      obtain rfl := Option.some.inj h
                      exact ARet.mk trivial hX.symm
                  | false =>
                    rw [br_false hb11] at h_2
                    cbv
                    try (rw [hb11]; cbv)
                    try (rw [hb11]; cbv)
                    try (rw [hb11]; cbv)
                    try (rw [hb11]; cbv)
                    try (rw [hb11]; cbv)
                    try (rw [hb11]; cbv)
                    try (rw [hb11]; cbv)
                    try (rw [hb11]; cbv)
                    try (rw [hb11]; cbv)
                    try (rw [hb11]; cbv)
                    try (rw [hb11]; cbv)
                    try (rw [hb11]; cbv)
                    try (rw [hb11]; cbv)
                    try (rw [hb11]; cbv)
                    obtain rfl := Option.some.inj h_2
                    try dsimp only [lr, lrL, lrp, lrpL] at h
                    obtain rfl := Option.some.inj h
                    exact ARet.mk trivial hX.symm
                · have hb10 : lt v2 (llen (r_Inlet a0_Inlets)) = false := ltL_false_Inlet hg ht hi2 hc2_
                  rw [List.drop_of_length_le (Nat.le_of_not_lt hc2_)] at h_2
                  rw [L_centres_l2] at h_2
                  try rw [← hg] at h_2
                  try rw [← ht] at h_2
                  try dsimp only at h_2
                  rw [hb10]
                  cbv
                  refine ⟨(), Wk.of [] rfl rfl ?_ ?_, (Option.some.inj h_2).symm⟩
                  · cbv
                    all_goals exact trivial
                  · cbv
                    all_goals exact trivial
              · rintro _ hy2
                replace hy2 := hy2.symm
                subst hy2
                try dsimp only [lr, lrL, lrp, lrpL] at h
                cbv
                obtain rfl := Option.some.inj h
                exact ARet.mk trivial hX.symm
          | false =>
            rw [br_false hb5] at h
            cbv
            obtain rfl := Option.some.inj h
            exact ARet.mk trivial hX.symm
        | false =>
          rw [br_false hb4] at h
          cbv
          try (rw [hb4]; cbv)
          try (rw [hb4]; cbv)
          try (rw [hb4]; cbv)
          try (rw [hb4]; cbv)
          try (rw [hb4]; cbv)
          obtain rfl := Option.some.inj h
          exact ARet.mk trivial hX.symm
      | false =>
        rw [br_false hb3] at h
        cbv
        try (rw [hb3]; cbv)
        try (rw [hb3]; cbv)
        try (rw [hb3]; cbv)
        try (rw [hb3]; cbv)
        try (rw [hb3]; cbv)
        try (rw [hb3]; cbv)
        obtain rfl := Option.some.inj h
        exact ARet.mk trivial hX.symm
    | false =>
      rw [br_false hb2] at h
      cbv
      try (rw [hb2]; cbv)
      try (rw [hb2]; cbv)
      try (rw [hb2]; cbv)
      try (rw [hb2]; cbv)
      try (rw [hb2]; cbv)
      try (rw [hb2]; cbv)
      try (rw [hb2]; cbv)
      obtain rfl := Option.some.inj h
      exact ARet.mk trivial hX.symm
  | false =>
    rw [br_false hb1] at h
    cbv
    try (rw [hb1]; cbv)
    try (rw [hb1]; cbv)
    try (rw [hb1]; cbv)
    try (rw [hb1]; cbv)
    try (rw [hb1]; cbv)
    try (rw [hb1]; cbv)
    try (rw [hb1]; cbv)
    obtain rfl := Option.some.inj h
    exact ARet.mk trivial hX.symm
end Go.Vs
