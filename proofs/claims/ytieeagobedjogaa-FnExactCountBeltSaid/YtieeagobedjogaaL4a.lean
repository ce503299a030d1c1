/- Part of the proofs of this seat's laws: L4a. No condition. -/
import Derived.Test.YtieeagobedjogaaTy
import Derived.Test.YtieeagobedjogaaTIRall
import Derived.Test.YtieeagobedjogaaL1a
import Derived.Test.YtieeagobedjogaaL3a
import Derived.Test.YtieeagobedjogaaL1b
set_option linter.unusedVariables false
set_option linter.unusedSimpArgs false
set_option linter.unusedSectionVars false
namespace Go.Vs
open Go.Proofs Go.IntWalk
set_option linter.unusedVariables false
set_option maxRecDepth 100000
set_option maxHeartbeats 4000000
def L_szCentre (g : G) (t : TE) (a0 : Centre) (a1 : Int) : Int :=
  lP (L_szItemS g t a0.Belt a1) fun x1 =>
  br (g.lt x1 0)
  (
   (-1))
  (
   lP (L_szChuteS g t a0.Chutes x1) fun x2 =>
   br (g.lt x2 0)
   (
    (-1))
   (
    lP (L_szInletS g t a0.Inlets x2) fun x3 =>
    br (g.lt x3 0)
    (
     (-1))
    (
     lP (L_szIntS g t a0.Plan x3) fun x4 =>
     br (g.lt x4 0)
     (
      (-1))
     (
      x4))))
theorem fit24 : codeFit Try.prog Try.f24.ntmps (Try.f24.body.getD .skip) ir24 = true := by kernel_rfl
theorem c_L_szCentre {g : G} {t : TE} {a0 : Centre} {a1 : Int} {r : Int} (hg : g = G.real) (ht : t = TE.real) (h : L_szCentre g t a0 a1 = r) : Fn Try.prog 24 [.g (Centre.rs t a0), .c (.v (.int .i64 a1))] (.c (.r (.v (.int .i64 r)))) := by
  obtain ⟨X, hX⟩ := hide (.c (.r (.v (.int .i64 r))) : X)
  rw [← hX]
  refine fn_of (rvs := rv24) (j := ir24) Try.func24 rfl fit24 (Nat.le_of_ble_eq_true rfl) (by kernel_rfl) prog_mixed ?_
  intro g2 F hg2 hF
  obtain rfl : g2 = g := hg2.unique.trans hg.symm
  clear hg2
  obtain ⟨wrap, lt, le, eq, quo, rem, band, bor, bxor, shl, shr, nat, int, add, sub, mul, cat, seq, slt, sub3, byte, llen, nadd, nsub, dlen, dapp, dset, drep, rd, rda, up, rsub, dsub, all, sle, slen⟩ := g2
  obtain ⟨r_Item, d_Item, r_Chute, d_Chute, r_Inlet, d_Inlet, r_I64, d_I64, r_U8, d_U8⟩ := t
  obtain ⟨a0_Belt, a0_Chutes, a0_Inlets, a0_Plan, a0_Now⟩ := a0
  unfold L_szCentre at h
  try dsimp only at h
  cbv
  obtain ⟨x1, hx1, h⟩ := of_lP h
  try dsimp only at h
  refine ACall.mk _ _ rfl (hF _ _ _ (c_L_szItemS hg ht hx1)) (.inl rfl) (Nat.le_of_ble_eq_true rfl) ?_
  cbv
  cases hb1 : (lt x1 0) with
  | true =>
    rw [br_true hb1] at h
    cbv
    subst h
    exact ARet.mk trivial hX.symm
  | false =>
    rw [br_false hb1] at h
    cbv
    obtain ⟨x2, hx2, h⟩ := of_lP h
    try dsimp only at h
    refine ACall.mk _ _ rfl (hF _ _ _ (c_L_szChuteS hg ht hx2)) (.inl rfl) (Nat.le_of_ble_eq_true rfl) ?_
    cbv
    cases hb2 : (lt x2 0) with
    | true =>
      rw [br_true hb2] at h
      cbv
      subst h
      exact ARet.mk trivial hX.symm
    | false =>
      rw [br_false hb2] at h
      cbv
      obtain ⟨x3, hx3, h⟩ := of_lP h
      try dsimp only at h
      refine ACall.mk _ _ rfl (hF _ _ _ (c_L_szInletS hg ht hx3)) (.inl rfl) (Nat.le_of_ble_eq_true rfl) ?_
      cbv
      cases hb3 : (lt x3 0) with
      | true =>
        rw [br_true hb3] at h
        cbv
        subst h
        exact ARet.mk trivial hX.symm
      | false =>
        rw [br_false hb3] at h
        cbv
        obtain ⟨x4, hx4, h⟩ := of_lP h
        try dsimp only at h
        refine ACall.mk _ _ rfl (hF _ _ _ (c_L_szIntS hg ht hx4)) (.inl rfl) (Nat.le_of_ble_eq_true rfl) ?_
        cbv
        cases hb4 : (lt x4 0) with
        | true =>
          rw [br_true hb4] at h
          cbv
          subst h
          exact ARet.mk trivial hX.symm
        | false =>
          rw [br_false hb4] at h
          cbv
          subst h
          exact ARet.mk trivial hX.symm
end Go.Vs
namespace Go.Vs
open Go.Proofs Go.IntWalk
set_option linter.unusedVariables false
set_option maxRecDepth 100000
set_option maxHeartbeats 4000000
def L_toChuteS_l1 (g : G) (t : TE) : List Chute → Int → List Chute → Option (List Chute)
  | [], v1, w1 =>
    some w1
  | z1 :: ls1, v1, w1 =>
    cl (L_toChute g t z1) fun x1 =>
    gd ((0 ≤ v1 ∧ v1 < (((g.dlen (t.d_Chute w1)) : Nat) : Int))) <|
    gt w1 (g.nat v1) fun x2 =>
    lP (List.set w1 (g.nat v1) (Chute.mk x1.Cell x1.Room x1.Held)) fun (l2 : List Chute) =>
    L_toChuteS_l1 g t ls1 (g.wrap .i64 (g.add v1 1)) l2
def L_toChuteS (g : G) (t : TE) (a0 : List Chute) : Option (List Chute) :=
  gd ((0 ≤ (g.llen (t.r_Chute a0)) ∧ 40 * (g.llen (t.r_Chute a0)) ≤ 70368744177664 ∧ (g.llen (t.r_Chute a0)) ≤ 4611686018427387904)) <|
  lP (List.replicate (g.nat (g.llen (t.r_Chute a0))) (Chute.mk 0 0 [])) fun (l1 : List Chute) =>
  cl (L_toChuteS_l1 g t a0 0 l1) fun y1 =>
  some y1
theorem fit81 : codeFit Try.prog Try.f81.ntmps (Try.f81.body.getD .skip) ir81 = true := by kernel_rfl
theorem c_L_toChuteS {g : G} {t : TE} {a0 : List Chute} {r : List Chute} (hg : g = G.real) (ht : t = TE.real) (h : L_toChuteS g t a0 = some r) : Fn Try.prog 81 [.c (.s 3 (t.r_Chute a0))] (.c (.o 3 (t.d_Chute r))) := by
  obtain ⟨X, hX⟩ := hide (.c (.o 3 (t.d_Chute r)) : X)
  rw [← hX]
  refine fn_of (rvs := rv81) (j := ir81) Try.func81 rfl fit81 (Nat.le_of_ble_eq_true rfl) (by kernel_rfl) prog_mixed ?_
  intro g2 F hg2 hF
  obtain rfl : g2 = g := hg2.unique.trans hg.symm
  clear hg2
  obtain ⟨wrap, lt, le, eq, quo, rem, band, bor, bxor, shl, shr, nat, int, add, sub, mul, cat, seq, slt, sub3, byte, llen, nadd, nsub, dlen, dapp, dset, drep, rd, rda, up, rsub, dsub, all, sle, slen⟩ := g2
  obtain ⟨r_Item, d_Item, r_Chute, d_Chute, r_Inlet, d_Inlet, r_I64, d_I64, r_U8, d_U8⟩ := t
  have hnil_Item : d_Item [] = [] := d_nil_Item ht
  have hnil_Chute : d_Chute [] = [] := d_nil_Chute ht
  have hnil_Inlet : d_Inlet [] = [] := d_nil_Inlet ht
  have hnil_I64 : d_I64 [] = [] := d_nil_I64 ht
  have hnil_U8 : d_U8 [] = [] := d_nil_U8 ht
  unfold L_toChuteS at h
  try dsimp only at h
  cbv
  obtain ⟨hc2, h⟩ := of_gd h
  refine AStep.mk (mk_ok hc2) ?_
  cbv
  obtain ⟨l1, hl1, h⟩ := of_lP h
  try dsimp only at h
  refine ANew.mk (d_Chute l1) (dlen (d_Chute l1)) (by rw [← hl1]; have e := drep_Chute hg ht (llen (r_Chute a0)) (Chute.mk 0 0 []); dsimp only [Chute.ds] at e; (try simp only [hnil_Item, hnil_Chute, hnil_Inlet, hnil_I64, hnil_U8] at e); exact e) (by rw [← hl1]; exact drepn_Chute hg ht _ (Chute.mk 0 0 [])) ?_
  cbv
  obtain ⟨o1, ho1, h⟩ := of_cl h
  try dsimp only at h
  try rw [hg] at ho1
  try rw [ht] at ho1
  refine ABL.mk { p : Nat × Int × List Chute // p.1 ≤ a0.length ∧ p.2.1 = ((p.1 : Nat) : Int) ∧ L_toChuteS_l1 G.real TE.real (List.drop p.1 a0) p.2.1 p.2.2 = some o1 } (fun ⟨⟨k1, v1, w1⟩, _⟩ => ({ sl := [(0, .c (.r (.s 3 (r_Chute a0)))), (3, .c (.f 0 3 0 (dlen (d_Chute w1)))), (4, .c (.r (.v (.int .i64 v1))))], tab := [(0, some (.arr 3 (d_Chute w1)))] } : St)) 1 (fun p => a0.length - p.1.1) ⟨(0, 0, l1), Nat.zero_le _, rfl, ho1⟩ (List Chute) (fun y1 => ({ sl := [(3, .c (.f 0 3 0 (dlen (d_Chute y1))))], tab := [(0, some (.arr 3 (d_Chute y1)))] } : St)) 1 (fun y => o1 = y) ?_ ?_ ?_
  · refine Wk.of [(0, some 48)] rfl rfl ?_ ?_
    · cbv
      all_goals exact ⟨⟨_, rfl, rfl⟩, ⟨_, rfl, rfl⟩, ⟨_, rfl, rfl⟩, trivial⟩
    · cbv
      all_goals exact ⟨⟨_, rfl, rfl⟩, trivial⟩
  · rintro ⟨⟨k1, v1, w1⟩, hk1, hi1, h_1⟩ hq1
    have hm1 := (hq1.1 0 _ _ rfl)
    try dsimp only at hk1 hi1 h_1
    clear hq1
    cbv
    by_cases hc1_ : k1 < a0.length
    · have hb1 : lt v1 (llen (r_Chute a0)) = true := ltL_true_Chute hg ht hi1 hc1_
      have hs1 := stepL_Chute hg ht hi1 hc1_ hm1
      obtain ⟨z1, hz1⟩ := some_of_lt hc1_
      rw [drop_of_some hz1] at h_1
      rw [L_toChuteS_l1] at h_1
      obtain ⟨z1_Cell, z1_Room, z1_Held⟩ := z1
      try rw [← hg] at h_1
      try rw [← ht] at h_1
      try dsimp only at h_1
      rw [hb1]
      cbv
      refine AStep.mk (nn_L hi1) ?_
      cbv
      refine AGet.mk _ (r_getL_Chute hg ht hi1 hz1) ?_
      cbv
      obtain ⟨x1, hx1, h_1⟩ := of_cl h_1
      obtain ⟨x1_Cell, x1_Room, x1_Held⟩ := x1
      try dsimp only at h_1
      refine ACall.mk _ _ rfl (hF _ _ _ (c_L_toChute hg ht hx1)) (.inl rfl) (Nat.le_of_ble_eq_true rfl) ?_
      cbv
      obtain ⟨hc1, h_1⟩ := of_gd h_1
      refine AStep.mk hc1 ?_
      cbv
      refine AStep.mk ⟨rfl, (dlen_Item hg ht _)⟩ ?_
      cbv
      obtain ⟨x2, hx2, h_1⟩ := of_gt h_1
      obtain ⟨x2_Cell, x2_Room, x2_Held⟩ := x2
      try dsimp only at h_1
      refine AGet.mk _ (d_get_Chute hg ht hx2) ?_
      cbv
      obtain ⟨l2, hl2, h_1⟩ := of_lP h_1
      try dsimp only at h_1
      refine ANew.mk (d_Chute l2) _ (by rw [← hl2]; exact dset_Chute hg ht _ _ (Chute.mk x1_Cell x1_Room x1_Held)) rfl ?_
      have hnl2 : (dlen (d_Chute w1)) = (d_Chute l2).length := (by rw [← hl2, dsetl_Chute ht]; exact (dlen_Chute hg ht _))
      cbv
      try rw [hg] at h_1
      try rw [ht] at h_1
      refine ⟨⟨(k1 + 1, (wrap .i64 (add v1 1)), l2), hc1_, hs1, h_1⟩, Wk.of [(0, some 0)] rfl rfl ?_ ?_, meas_L hc1_⟩
      · cbv
        all_goals try rw [show (dlen (d_Chute w1)) = (dlen (d_Chute l2)) from (hnl2).trans (dlen_Chute hg ht _).symm]
        all_goals exact ⟨⟨_, rfl, rfl⟩, ⟨_, rfl, rfl⟩, ⟨_, rfl, rfl⟩, trivial⟩
      · cbv
        all_goals try rw [show (dlen (d_Chute w1)) = (dlen (d_Chute l2)) from (hnl2).trans (dlen_Chute hg ht _).symm]
        all_goals exact ⟨⟨_, rfl, rfl⟩, trivial⟩
    · have hb1 : lt v1 (llen (r_Chute a0)) = false := ltL_false_Chute hg ht hi1 hc1_
      rw [List.drop_of_length_le (Nat.le_of_not_lt hc1_)] at h_1
      rw [L_toChuteS_l1] at h_1
      try rw [← hg] at h_1
      try rw [← ht] at h_1
      try dsimp only at h_1
      rw [hb1]
      cbv
      refine ⟨w1, Wk.of [(0, some 0)] rfl rfl ?_ ?_, (Option.some.inj h_1).symm⟩
      · cbv
        all_goals exact ⟨⟨_, rfl, rfl⟩, trivial⟩
      · cbv
        all_goals exact ⟨⟨_, rfl, rfl⟩, trivial⟩
  · rintro y1 hy1
    replace hy1 := hy1.symm
    subst hy1
    try dsimp only [lr, lrL, lrp, lrpL] at h
    cbv
    obtain rfl := Option.some.inj h
    exact ARet.mk ⟨rfl, (dlen_Chute hg ht _)⟩ hX.symm
end Go.Vs
namespace Go.Vs
open Go.Proofs Go.IntWalk
set_option linter.unusedVariables false
set_option maxRecDepth 100000
set_option maxHeartbeats 4000000
def L_toInletS_l1 (g : G) (t : TE) : List Inlet → Int → List Inlet → Option (List Inlet)
  | [], v1, w1 =>
    some w1
  | z1 :: ls1, v1, w1 =>
    cl (L_toInlet g t z1) fun x1 =>
    gd ((0 ≤ v1 ∧ v1 < (((g.dlen (t.d_Inlet w1)) : Nat) : Int))) <|
    gt w1 (g.nat v1) fun x2 =>
    lP (List.set w1 (g.nat v1) (Inlet.mk x1.Cell x1.Wait)) fun (l2 : List Inlet) =>
    L_toInletS_l1 g t ls1 (g.wrap .i64 (g.add v1 1)) l2
def L_toInletS (g : G) (t : TE) (a0 : List Inlet) : Option (List Inlet) :=
  gd ((0 ≤ (g.llen (t.r_Inlet a0)) ∧ 32 * (g.llen (t.r_Inlet a0)) ≤ 70368744177664 ∧ (g.llen (t.r_Inlet a0)) ≤ 4611686018427387904)) <|
  lP (List.replicate (g.nat (g.llen (t.r_Inlet a0))) (Inlet.mk 0 [])) fun (l1 : List Inlet) =>
  cl (L_toInletS_l1 g t a0 0 l1) fun y1 =>
  some y1
theorem fit82 : codeFit Try.prog Try.f82.ntmps (Try.f82.body.getD .skip) ir82 = true := by kernel_rfl
theorem c_L_toInletS {g : G} {t : TE} {a0 : List Inlet} {r : List Inlet} (hg : g = G.real) (ht : t = TE.real) (h : L_toInletS g t a0 = some r) : Fn Try.prog 82 [.c (.s 2 (t.r_Inlet a0))] (.c (.o 2 (t.d_Inlet r))) := by
  obtain ⟨X, hX⟩ := hide (.c (.o 2 (t.d_Inlet r)) : X)
  rw [← hX]
  refine fn_of (rvs := rv82) (j := ir82) Try.func82 rfl fit82 (Nat.le_of_ble_eq_true rfl) (by kernel_rfl) prog_mixed ?_
  intro g2 F hg2 hF
  obtain rfl : g2 = g := hg2.unique.trans hg.symm
  clear hg2
  obtain ⟨wrap, lt, le, eq, quo, rem, band, bor, bxor, shl, shr, nat, int, add, sub, mul, cat, seq, slt, sub3, byte, llen, nadd, nsub, dlen, dapp, dset, drep, rd, rda, up, rsub, dsub, all, sle, slen⟩ := g2
  obtain ⟨r_Item, d_Item, r_Chute, d_Chute, r_Inlet, d_Inlet, r_I64, d_I64, r_U8, d_U8⟩ := t
  have hnil_Item : d_Item [] = [] := d_nil_Item ht
  have hnil_Chute : d_Chute [] = [] := d_nil_Chute ht
  have hnil_Inlet : d_Inlet [] = [] := d_nil_Inlet ht
  have hnil_I64 : d_I64 [] = [] := d_nil_I64 ht
  have hnil_U8 : d_U8 [] = [] := d_nil_U8 ht
  unfold L_toInletS at h
  try dsimp only at h
  cbv
  obtain ⟨hc2, h⟩ := of_gd h
  refine AStep.mk (mk_ok hc2) ?_
  cbv
  obtain ⟨l1, hl1, h⟩ := of_lP h
  try dsimp only at h
  refine ANew.mk (d_Inlet l1) (dlen (d_Inlet l1)) (by rw [← hl1]; have e := drep_Inlet hg ht (llen (r_Inlet a0)) (Inlet.mk 0 []); dsimp only [Inlet.ds] at e; (try simp only [hnil_Item, hnil_Chute, hnil_Inlet, hnil_I64, hnil_U8] at e); exact e) (by rw [← hl1]; exact drepn_Inlet hg ht _ (Inlet.mk 0 [])) ?_
  cbv
  obtain ⟨o1, ho1, h⟩ := of_cl h
  try dsimp only at h
  try rw [hg] at ho1
  try rw [ht] at ho1
  refine ABL.mk { p : Nat × Int × List Inlet // p.1 ≤ a0.length ∧ p.2.1 = ((p.1 : Nat) : Int) ∧ L_toInletS_l1 G.real TE.real (List.drop p.1 a0) p.2.1 p.2.2 = some o1 } (fun ⟨⟨k1, v1, w1⟩, _⟩ => ({ sl := [(0, .c (.r (.s 2 (r_Inlet a0)))), (3, .c (.f 0 2 0 (dlen (d_Inlet w1)))), (4, .c (.r (.v (.int .i64 v1))))], tab := [(0, some (.arr 2 (d_Inlet w1)))] } : St)) 1 (fun p => a0.length - p.1.1) ⟨(0, 0, l1), Nat.zero_le _, rfl, ho1⟩ (List Inlet) (fun y1 => ({ sl := [(3, .c (.f 0 2 0 (dlen (d_Inlet y1))))], tab := [(0, some (.arr 2 (d_Inlet y1)))] } : St)) 1 (fun y => o1 = y) ?_ ?_ ?_
  · refine Wk.of [(0, some 48)] rfl rfl ?_ ?_
    · cbv
      all_goals exact ⟨⟨_, rfl, rfl⟩, ⟨_, rfl, rfl⟩, ⟨_, rfl, rfl⟩, trivial⟩
    · cbv
      all_goals exact ⟨⟨_, rfl, rfl⟩, trivial⟩
  · rintro ⟨⟨k1, v1, w1⟩, hk1, hi1, h_1⟩ hq1
    have hm1 := (hq1.1 0 _ _ rfl)
    try dsimp only at hk1 hi1 h_1
    clear hq1
    cbv
    by_cases hc1_ : k1 < a0.length
    · have hb1 : lt v1 (llen (r_Inlet a0)) = true := ltL_true_Inlet hg ht hi1 hc1_
      have hs1 := stepL_Inlet hg ht hi1 hc1_ hm1
      obtain ⟨z1, hz1⟩ := some_of_lt hc1_
      rw [drop_of_some hz1] at h_1
      rw [L_toInletS_l1] at h_1
      obtain ⟨z1_Cell, z1_Wait⟩ := z1
      try rw [← hg] at h_1
      try rw [← ht] at h_1
      try dsimp only at h_1
      rw [hb1]
      cbv
      refine AStep.mk (nn_L hi1) ?_
      cbv
      refine AGet.mk _ (r_getL_Inlet hg ht hi1 hz1) ?_
      cbv
      obtain ⟨x1, hx1, h_1⟩ := of_cl h_1
      obtain ⟨x1_Cell, x1_Wait⟩ := x1
      try dsimp only at h_1
      refine ACall.mk _ _ rfl (hF _ _ _ (c_L_toInlet hg ht hx1)) (.inl rfl) (Nat.le_of_ble_eq_true rfl) ?_
      cbv
      obtain ⟨hc1, h_1⟩ := of_gd h_1
      refine AStep.mk hc1 ?_
      cbv
      refine AStep.mk ⟨rfl, (dlen_Item hg ht _)⟩ ?_
      cbv
      obtain ⟨x2, hx2, h_1⟩ := of_gt h_1
      obtain ⟨x2_Cell, x2_Wait⟩ := x2
      try dsimp only at h_1
      refine AGet.mk _ (d_get_Inlet hg ht hx2) ?_
      cbv
      obtain ⟨l2, hl2, h_1⟩ := of_lP h_1
      try dsimp only at h_1
      refine ANew.mk (d_Inlet l2) _ (by rw [← hl2]; exact dset_Inlet hg ht _ _ (Inlet.mk x1_Cell x1_Wait)) rfl ?_
      have hnl2 : (dlen (d_Inlet w1)) = (d_Inlet l2).length := (by rw [← hl2, dsetl_Inlet ht]; exact (dlen_Inlet hg ht _))
      cbv
      try rw [hg] at h_1
      try rw [ht] at h_1
      refine ⟨⟨(k1 + 1, (wrap .i64 (add v1 1)), l2), hc1_, hs1, h_1⟩, Wk.of [(0, some 0)] rfl rfl ?_ ?_, meas_L hc1_⟩
      · cbv
        all_goals try rw [show (dlen (d_Inlet w1)) = (dlen (d_Inlet l2)) from (hnl2).trans (dlen_Inlet hg ht _).symm]
        all_goals exact ⟨⟨_, rfl, rfl⟩, ⟨_, rfl, rfl⟩, ⟨_, rfl, rfl⟩, trivial⟩
      · cbv
        all_goals try rw [show (dlen (d_Inlet w1)) = (dlen (d_Inlet l2)) from (hnl2).trans (dlen_Inlet hg ht _).symm]
        all_goals exact ⟨⟨_, rfl, rfl⟩, trivial⟩
    · have hb1 : lt v1 (llen (r_Inlet a0)) = false := ltL_false_Inlet hg ht hi1 hc1_
      rw [List.drop_of_length_le (Nat.le_of_not_lt hc1_)] at h_1
      rw [L_toInletS_l1] at h_1
      try rw [← hg] at h_1
      try rw [← ht] at h_1
      try dsimp only at h_1
      rw [hb1]
      cbv
      refine ⟨w1, Wk.of [(0, some 0)] rfl rfl ?_ ?_, (Option.some.inj h_1).symm⟩
      · cbv
        all_goals exact ⟨⟨_, rfl, rfl⟩, trivial⟩
      · cbv
        all_goals exact ⟨⟨_, rfl, rfl⟩, trivial⟩
  · rintro y1 hy1
    replace hy1 := hy1.symm
    subst hy1
    try dsimp only [lr, lrL, lrp, lrpL] at h
    cbv
    obtain rfl := Option.some.inj h
    exact ARet.mk ⟨rfl, (dlen_Inlet hg ht _)⟩ hX.symm
end Go.Vs
namespace Go.Vs
open Go.Proofs Go.IntWalk
set_option linter.unusedVariables false
set_option maxRecDepth 100000
set_option maxHeartbeats 4000000
def L_eqChuteS_l1 (g : G) (t : TE) (a1 : List Chute) : List Chute → Int → Option (LR Bool Unit)
  | [], v1 =>
    some (LR.out ())
  | z1 :: ls1, v1 =>
    gt a1 (g.nat v1) fun x1 =>
    cl (L_eqChute g t z1 x1) fun x2 =>
    br x2
    (
     L_eqChuteS_l1 g t a1 ls1 (g.wrap .i64 (g.add v1 1)))
    (
     some (LR.ret false))
def L_eqChuteS (g : G) (t : TE) (a0 : List Chute) (a1 : List Chute) : Option Bool :=
  br (g.eq (g.llen (t.r_Chute a0)) (g.llen (t.r_Chute a1)))
  (
   cl (L_eqChuteS_l1 g t a1 a0 0) fun o1 => lr o1 fun y1 =>
   some true)
  (
   some false)
theorem fit83 : codeFit Try.prog Try.f83.ntmps (Try.f83.body.getD .skip) ir83 = true := by kernel_rfl
theorem c_L_eqChuteS {g : G} {t : TE} {a0 : List Chute} {a1 : List Chute} {r : Bool} (hg : g = G.real) (ht : t = TE.real) (h : L_eqChuteS g t a0 a1 = some r) : Fn Try.prog 83 [.c (.s 3 (t.r_Chute a0)), .c (.s 3 (t.r_Chute a1))] (.c (.r (.v (.bool r)))) := by
  obtain ⟨X, hX⟩ := hide (.c (.r (.v (.bool r))) : X)
  rw [← hX]
  refine fn_of (rvs := rv83) (j := ir83) Try.func83 rfl fit83 (Nat.le_of_ble_eq_true rfl) (by kernel_rfl) prog_mixed ?_
  intro g2 F hg2 hF
  obtain rfl : g2 = g := hg2.unique.trans hg.symm
  clear hg2
  obtain ⟨wrap, lt, le, eq, quo, rem, band, bor, bxor, shl, shr, nat, int, add, sub, mul, cat, seq, slt, sub3, byte, llen, nadd, nsub, dlen, dapp, dset, drep, rd, rda, up, rsub, dsub, all, sle, slen⟩ := g2
  obtain ⟨r_Item, d_Item, r_Chute, d_Chute, r_Inlet, d_Inlet, r_I64, d_I64, r_U8, d_U8⟩ := t
  unfold L_eqChuteS at h
  try dsimp only at h
  cbv
  cases hb1 : (eq (llen (r_Chute a0)) (llen (r_Chute a1))) with
  | true =>
    rw [br_true hb1] at h
    cbv
    obtain ⟨o1, ho1, h⟩ := of_cl h
    try dsimp only at h
    try rw [hg] at ho1
    try rw [ht] at ho1
    refine ABL.mk { p : Nat × Int // p.1 ≤ a0.length ∧ p.2 = ((p.1 : Nat) : Int) ∧ L_eqChuteS_l1 G.real TE.real a1 (List.drop p.1 a0) p.2 = some o1 } (fun ⟨⟨k1, v1⟩, _⟩ => ({ sl := [(0, .c (.r (.s 3 (r_Chute a0)))), (1, .c (.r (.s 3 (r_Chute a1)))), (5, .c (.r (.v (.int .i64 v1))))], tab := [] } : St)) 0 (fun p => a0.length - p.1.1) ⟨(0, 0), Nat.zero_le _, rfl, ho1⟩ (Unit) (fun _ => ({ sl := [], tab := [] } : St)) 0 (fun y => o1 = LR.out y) ?_ ?_ ?_
    · refine Wk.of [] rfl rfl ?_ ?_
      · cbv
        all_goals exact ⟨⟨_, rfl, rfl⟩, ⟨_, rfl, rfl⟩, ⟨_, rfl, rfl⟩, trivial⟩
      · cbv
        all_goals exact trivial
    · rintro ⟨⟨k1, v1⟩, hk1, hi1, h_1⟩ hq1
      have hm1 := (hq1.1 0 _ _ rfl)
      try dsimp only at hk1 hi1 h_1
      clear hq1
      cbv
      by_cases hc1_ : k1 < a0.length
      · have hb2 : lt v1 (llen (r_Chute a0)) = true := ltL_true_Chute hg ht hi1 hc1_
        have hs1 := stepL_Chute hg ht hi1 hc1_ hm1
        obtain ⟨z1, hz1⟩ := some_of_lt hc1_
        rw [drop_of_some hz1] at h_1
        rw [L_eqChuteS_l1] at h_1
        obtain ⟨z1_Cell, z1_Room, z1_Held⟩ := z1
        try rw [← hg] at h_1
        try rw [← ht] at h_1
        try dsimp only at h_1
        rw [hb2]
        cbv
        refine AStep.mk (nn_L hi1) ?_
        cbv
        refine AGet.mk _ (r_getL_Chute hg ht hi1 hz1) ?_
        cbv
        refine AStep.mk (nn_L hi1) ?_
        cbv
        obtain ⟨x1, hx1, h_1⟩ := of_gt h_1
        obtain ⟨x1_Cell, x1_Room, x1_Held⟩ := x1
        try dsimp only at h_1
        refine AGet.mk _ (r_get_Chute hg ht hx1) ?_
        cbv
        obtain ⟨x2, hx2, h_1⟩ := of_cl h_1
        try dsimp only at h_1
        refine ACall.mk _ _ rfl (hF _ _ _ (c_L_eqChute hg ht hx2)) (.inl rfl) (Nat.le_of_ble_eq_true rfl) ?_
        cbv
        cases hb3 : x2 with
        | true =>
          rw [br_true hb3] at h_1
          cbv
          try rw [hg] at h_1
          try rw [ht] at h_1
          refine ⟨⟨(k1 + 1, (wrap .i64 (add v1 1))), hc1_, hs1, h_1⟩, Wk.of [] rfl rfl ?_ ?_, meas_L hc1_⟩
          · cbv
            all_goals exact ⟨⟨_, rfl, rfl⟩, ⟨_, rfl, rfl⟩, ⟨_, rfl, rfl⟩, trivial⟩
          · cbv
            all_goals exact trivial
        | false =>
          rw [br_false hb3] at h_1
          cbv
          obtain rfl := Option.some.inj h_1
          try dsimp only [lr, lrL, lrp, lrpL] at h
          obtain rfl := Option.some.inj h
          exact ARet.mk trivial hX.symm
      · have hb2 : lt v1 (llen (r_Chute a0)) = false := ltL_false_Chute hg ht hi1 hc1_
        rw [List.drop_of_length_le (Nat.le_of_not_lt hc1_)] at h_1
        rw [L_eqChuteS_l1] at h_1
        try rw [← hg] at h_1
        try rw [← ht] at h_1
        try dsimp only at h_1
        rw [hb2]
        cbv
        refine ⟨(), Wk.of [] rfl rfl ?_ ?_, (Option.some.inj h_1).symm⟩
        · cbv
          all_goals exact trivial
        · cbv
          all_goals exact trivial
    · rintro _ hy1
      replace hy1 := hy1.symm
      subst hy1
      try dsimp only [lr, lrL, lrp, lrpL] at h
      cbv
      obtain rfl := Option.some.inj h
      exact ARet.mk trivial hX.symm
  | false =>
    rw [br_false hb1] at h
    cbv
    obtain rfl := Option.some.inj h
    exact ARet.mk trivial hX.symm
end Go.Vs
namespace Go.Vs
open Go.Proofs Go.IntWalk
set_option linter.unusedVariables false
set_option maxRecDepth 100000
set_option maxHeartbeats 4000000
def L_eqInletS_l1 (g : G) (t : TE) (a1 : List Inlet) : List Inlet → Int → Option (LR Bool Unit)
  | [], v1 =>
    some (LR.out ())
  | z1 :: ls1, v1 =>
    gt a1 (g.nat v1) fun x1 =>
    cl (L_eqInlet g t z1 x1) fun x2 =>
    br x2
    (
     L_eqInletS_l1 g t a1 ls1 (g.wrap .i64 (g.add v1 1)))
    (
     some (LR.ret false))
def L_eqInletS (g : G) (t : TE) (a0 : List Inlet) (a1 : List Inlet) : Option Bool :=
  br (g.eq (g.llen (t.r_Inlet a0)) (g.llen (t.r_Inlet a1)))
  (
   cl (L_eqInletS_l1 g t a1 a0 0) fun o1 => lr o1 fun y1 =>
   some true)
  (
   some false)
theorem fit84 : codeFit Try.prog Try.f84.ntmps (Try.f84.body.getD .skip) ir84 = true := by kernel_rfl
theorem c_L_eqInletS {g : G} {t : TE} {a0 : List Inlet} {a1 : List Inlet} {r : Bool} (hg : g = G.real) (ht : t = TE.real) (h : L_eqInletS g t a0 a1 = some r) : Fn Try.prog 84 [.c (.s 2 (t.r_Inlet a0)), .c (.s 2 (t.r_Inlet a1))] (.c (.r (.v (.bool r)))) := by
  obtain ⟨X, hX⟩ := hide (.c (.r (.v (.bool r))) : X)
  rw [← hX]
  refine fn_of (rvs := rv84) (j := ir84) Try.func84 rfl fit84 (Nat.le_of_ble_eq_true rfl) (by kernel_rfl) prog_mixed ?_
  intro g2 F hg2 hF
  obtain rfl : g2 = g := hg2.unique.trans hg.symm
  clear hg2
  obtain ⟨wrap, lt, le, eq, quo, rem, band, bor, bxor, shl, shr, nat, int, add, sub, mul, cat, seq, slt, sub3, byte, llen, nadd, nsub, dlen, dapp, dset, drep, rd, rda, up, rsub, dsub, all, sle, slen⟩ := g2
  obtain ⟨r_Item, d_Item, r_Chute, d_Chute, r_Inlet, d_Inlet, r_I64, d_I64, r_U8, d_U8⟩ := t
  unfold L_eqInletS at h
  try dsimp only at h
  cbv
  cases hb1 : (eq (llen (r_Inlet a0)) (llen (r_Inlet a1))) with
  | true =>
    rw [br_true hb1] at h
    cbv
    obtain ⟨o1, ho1, h⟩ := of_cl h
    try dsimp only at h
    try rw [hg] at ho1
    try rw [ht] at ho1
    refine ABL.mk { p : Nat × Int // p.1 ≤ a0.length ∧ p.2 = ((p.1 : Nat) : Int) ∧ L_eqInletS_l1 G.real TE.real a1 (List.drop p.1 a0) p.2 = some o1 } (fun ⟨⟨k1, v1⟩, _⟩ => ({ sl := [(0, .c (.r (.s 2 (r_Inlet a0)))), (1, .c (.r (.s 2 (r_Inlet a1)))), (5, .c (.r (.v (.int .i64 v1))))], tab := [] } : St)) 0 (fun p => a0.length - p.1.1) ⟨(0, 0), Nat.zero_le _, rfl, ho1⟩ (Unit) (fun _ => ({ sl := [], tab := [] } : St)) 0 (fun y => o1 = LR.out y) ?_ ?_ ?_
    · refine Wk.of [] rfl rfl ?_ ?_
      · cbv
        all_goals exact ⟨⟨_, rfl, rfl⟩, ⟨_, rfl, rfl⟩, ⟨_, rfl, rfl⟩, trivial⟩
      · cbv
        all_goals exact trivial
    · rintro ⟨⟨k1, v1⟩, hk1, hi1, h_1⟩ hq1
      have hm1 := (hq1.1 0 _ _ rfl)
      try dsimp only at hk1 hi1 h_1
      clear hq1
      cbv
      by_cases hc1_ : k1 < a0.length
      · have hb2 : lt v1 (llen (r_Inlet a0)) = true := ltL_true_Inlet hg ht hi1 hc1_
        have hs1 := stepL_Inlet hg ht hi1 hc1_ hm1
        obtain ⟨z1, hz1⟩ := some_of_lt hc1_
        rw [drop_of_some hz1] at h_1
        rw [L_eqInletS_l1] at h_1
        obtain ⟨z1_Cell, z1_Wait⟩ := z1
        try rw [← hg] at h_1
        try rw [← ht] at h_1
        try dsimp only at h_1
        rw [hb2]
        cbv
        refine AStep.mk (nn_L hi1) ?_
        cbv
        refine AGet.mk _ (r_getL_Inlet hg ht hi1 hz1) ?_
        cbv
        refine AStep.mk (nn_L hi1) ?_
        cbv
        obtain ⟨x1, hx1, h_1⟩ := of_gt h_1
        obtain ⟨x1_Cell, x1_Wait⟩ := x1
        try dsimp only at h_1
        refine AGet.mk _ (r_get_Inlet hg ht hx1) ?_
        cbv
        obtain ⟨x2, hx2, h_1⟩ := of_cl h_1
        try dsimp only at h_1
        refine ACall.mk _ _ rfl (hF _ _ _ (c_L_eqInlet hg ht hx2)) (.inl rfl) (Nat.le_of_ble_eq_true rfl) ?_
        cbv
        cases hb3 : x2 with
        | true =>
          rw [br_true hb3] at h_1
          cbv
          try rw [hg] at h_1
          try rw [ht] at h_1
          refine ⟨⟨(k1 + 1, (wrap .i64 (add v1 1))), hc1_, hs1, h_1⟩, Wk.of [] rfl rfl ?_ ?_, meas_L hc1_⟩
          · cbv
            all_goals exact ⟨⟨_, rfl, rfl⟩, ⟨_, rfl, rfl⟩, ⟨_, rfl, rfl⟩, trivial⟩
          · cbv
            all_goals exact trivial
        | false =>
          rw [br_false hb3] at h_1
          cbv
          obtain rfl := Option.some.inj h_1
          try dsimp only [lr, lrL, lrp, lrpL] at h
          obtain rfl := Option.some.inj h
          exact ARet.mk trivial hX.symm
      · have hb2 : lt v1 (llen (r_Inlet a0)) = false := ltL_false_Inlet hg ht hi1 hc1_
        rw [List.drop_of_length_le (Nat.le_of_not_lt hc1_)] at h_1
        rw [L_eqInletS_l1] at h_1
        try rw [← hg] at h_1
        try rw [← ht] at h_1
        try dsimp only at h_1
        rw [hb2]
        cbv
        refine ⟨(), Wk.of [] rfl rfl ?_ ?_, (Option.some.inj h_1).symm⟩
        · cbv
          all_goals exact trivial
        · cbv
          all_goals exact trivial
    · rintro _ hy1
      replace hy1 := hy1.symm
      subst hy1
      try dsimp only [lr, lrL, lrp, lrpL] at h
      cbv
      obtain rfl := Option.some.inj h
      exact ARet.mk trivial hX.symm
  | false =>
    rw [br_false hb1] at h
    cbv
    obtain rfl := Option.some.inj h
    exact ARet.mk trivial hX.symm
end Go.Vs
namespace Go.Vs
open Go.Proofs Go.IntWalk
set_option linter.unusedVariables false
set_option maxRecDepth 100000
set_option maxHeartbeats 4000000
def S_CellsTo (g : G) (t : TE) (a0 : Centre) (a1 : Int) (a2 : Int) : Option Int :=
  cl (S_IsCentre g t a0) fun x1 =>
  br x1
  (
   lP (S_l1In g t a1 0 (g.wrap .i64 (g.sub (g.llen (t.r_Item a0.Belt)) 1))) fun x2 =>
   br x2
   (
    lP (S_l1In g t a2 0 (g.wrap .i64 (g.sub (g.llen (t.r_Chute a0.Chutes)) 1))) fun x3 =>
    br x3
    (
     gd ((0 ≤ a2)) <|
     gt a0.Chutes (g.nat a2) fun x4 =>
     br (g.le (g.wrap .i64 (g.sub x4.Cell a1)) 0)
     (
      some (g.wrap .i64 (g.add (g.wrap .i64 (g.sub x4.Cell a1)) (g.llen (t.r_Item a0.Belt)))))
     (
      some (g.wrap .i64 (g.sub x4.Cell a1))))
    (
     some (-1)))
   (
    some (-1)))
  (
   some (-1))
theorem fit42 : codeFit Try.prog Try.f42.ntmps (Try.f42.body.getD .skip) ir42 = true := by kernel_rfl
theorem c_S_CellsTo {g : G} {t : TE} {a0 : Centre} {a1 : Int} {a2 : Int} {r : Int} (hg : g = G.real) (ht : t = TE.real) (h : S_CellsTo g t a0 a1 a2 = some r) : Fn Try.prog 42 [.g (Centre.rs t a0), .c (.v (.int .i64 a1)), .c (.v (.int .i64 a2))] (.c (.r (.v (.int .i64 r)))) := by
  obtain ⟨X, hX⟩ := hide (.c (.r (.v (.int .i64 r))) : X)
  rw [← hX]
  refine fn_of (rvs := rv42) (j := ir42) Try.func42 rfl fit42 (Nat.le_of_ble_eq_true rfl) (by kernel_rfl) prog_mixed ?_
  intro g2 F hg2 hF
  obtain rfl : g2 = g := hg2.unique.trans hg.symm
  clear hg2
  obtain ⟨wrap, lt, le, eq, quo, rem, band, bor, bxor, shl, shr, nat, int, add, sub, mul, cat, seq, slt, sub3, byte, llen, nadd, nsub, dlen, dapp, dset, drep, rd, rda, up, rsub, dsub, all, sle, slen⟩ := g2
  obtain ⟨r_Item, d_Item, r_Chute, d_Chute, r_Inlet, d_Inlet, r_I64, d_I64, r_U8, d_U8⟩ := t
  obtain ⟨a0_Belt, a0_Chutes, a0_Inlets, a0_Plan, a0_Now⟩ := a0
  unfold S_CellsTo at h
  try dsimp only at h
  cbv
  obtain ⟨x1, hx1, h⟩ := of_cl h
  try dsimp only at h
  refine ACall.mk _ _ rfl (hF _ _ _ (c_S_IsCentre hg ht hx1)) (.inl rfl) (Nat.le_of_ble_eq_true rfl) ?_
  cbv
  cases hb1 : x1 with
  | true =>
    rw [br_true hb1] at h
    cbv
    try (rw [hb1]; cbv)
    try (rw [hb1]; cbv)
    try (rw [hb1]; cbv)
    try (rw [hb1]; cbv)
    try (rw [hb1]; cbv)
    obtain ⟨x2, hx2, h⟩ := of_lP h
    try dsimp only at h
    refine ACall.mk _ _ rfl (hF _ _ _ (c_S_l1In hg ht hx2)) (.inl rfl) (Nat.le_of_ble_eq_true rfl) ?_
    cbv
    try (rw [hb1]; cbv)
    try (rw [hb1]; cbv)
    cases hb2 : x2 with
    | true =>
      rw [br_true hb2] at h
      cbv
      try (rw [hb2]; cbv)
      try (rw [hb2]; cbv)
      try (rw [hb2]; cbv)
      try (rw [hb2]; cbv)
      try (rw [hb2]; cbv)
      obtain ⟨x3, hx3, h⟩ := of_lP h
      try dsimp only at h
      refine ACall.mk _ _ rfl (hF _ _ _ (c_S_l1In hg ht hx3)) (.inl rfl) (Nat.le_of_ble_eq_true rfl) ?_
      cbv
      try (rw [hb2]; cbv)
      try (rw [hb2]; cbv)
      cases hb3 : x3 with
      | true =>
        rw [br_true hb3] at h
        cbv
        obtain ⟨hc1, h⟩ := of_gd h
        refine AStep.mk hc1 ?_
        cbv
        obtain ⟨x4, hx4, h⟩ := of_gt h
        obtain ⟨x4_Cell, x4_Room, x4_Held⟩ := x4
        try dsimp only at h
        refine AGet.mk _ (r_get_Chute hg ht hx4) ?_
        cbv
        cases hb4 : (le (wrap .i64 (sub x4_Cell a1)) 0) with
        | true =>
          rw [br_true hb4] at h
          cbv
          obtain rfl := Option.some.inj h
          exact ARet.mk trivial hX.symm
        | false =>
          rw [br_false hb4] at h
          cbv
          obtain rfl := Option.some.inj h
          exact ARet.mk trivial hX.symm
      | false =>
        rw [br_false hb3] at h
        cbv
        obtain rfl := Option.some.inj h
        exact ARet.mk trivial hX.symm
    | false =>
      rw [br_false hb2] at h
      cbv
      try (rw [hb2]; cbv)
      try (rw [hb2]; cbv)
      try (rw [hb2]; cbv)
      try (rw [hb2]; cbv)
      try (rw [hb2]; cbv)
      try (rw [hb2]; cbv)
      try (rw [hb2]; cbv)
      obtain rfl := Option.some.inj h
      exact ARet.mk trivial hX.symm
  | false =>
    rw [br_false hb1] at h
    cbv
    try (rw [hb1]; cbv)
    try (rw [hb1]; cbv)
    try (rw [hb1]; cbv)
    try (rw [hb1]; cbv)
    try (rw [hb1]; cbv)
    try (rw [hb1]; cbv)
    try (rw [hb1]; cbv)
    obtain rfl := Option.some.inj h
    exact ARet.mk trivial hX.symm
end Go.Vs
namespace Go.Vs
open Go.Proofs Go.IntWalk
set_option linter.unusedVariables false
set_option maxRecDepth 100000
set_option maxHeartbeats 4000000
def S_NewCentre_l2 (g : G) (t : TE) : List Int → List Inlet → Option (List Inlet)
  | [], w2 =>
    some w2
  | z2 :: ls2, w2 =>
    lP ([(Inlet.mk z2 [])]) fun (l4 : List Inlet) =>
    gd (((w2.length + l4.length) * 32 ≤ 70368744177664)) <|
    lP (w2 ++ l4) fun (l5 : List Inlet) =>
    S_NewCentre_l2 g t ls2 l5
def S_NewCentre_l1 (g : G) (t : TE) (a2 : Int) : List Int → List Chute → Option (List Chute)
  | [], w1 =>
    some w1
  | z1 :: ls1, w1 =>
    lP ([(Chute.mk z1 a2 [])]) fun (l2 : List Chute) =>
    gd (((w1.length + l2.length) * 40 ≤ 70368744177664)) <|
    lP (w1 ++ l2) fun (l3 : List Chute) =>
    S_NewCentre_l1 g t a2 ls1 l3
def S_NewCentre (g : G) (t : TE) (a0 : Int) (a1 : List Int) (a2 : Int) (a3 : List Int) (a4 : List Int) : Option (Centre × Bool) :=
  lP (S_l1In g t a0 2 24) fun x1 =>
  br x1
  (
   gd ((0 ≤ a0 ∧ 16 * a0 ≤ 70368744177664 ∧ a0 ≤ 4611686018427387904)) <|
   lP (List.replicate (g.nat a0) (Item.mk 0 0)) fun (l1 : List Item) =>
   cl (S_l1Ints g t a4) fun x2 =>
   cl (S_NewCentre_l1 g t a2 a1 []) fun y1 =>
   cl (S_NewCentre_l2 g t a3 []) fun y2 =>
   cl (S_IsCentre g t (Centre.mk l1 y1 y2 x2 0)) fun x3 =>
   br x3
   (
    some (((Centre.mk l1 y1 y2 x2 0), true)))
   (
    some (((Centre.mk [] [] [] [] 0), false))))
  (
   some (((Centre.mk [] [] [] [] 0), false)))
theorem fit44 : codeFit Try.prog Try.f44.ntmps (Try.f44.body.getD .skip) ir44 = true := by kernel_rfl
theorem c_S_NewCentre {g : G} {t : TE} {a0 : Int} {a1 : List Int} {a2 : Int} {a3 : List Int} {a4 : List Int} {r : Centre × Bool} (hg : g = G.real) (ht : t = TE.real) (h : S_NewCentre g t a0 a1 a2 a3 a4 = some r) : Fn Try.prog 44 [.c (.v (.int .i64 a0)), .c (.s 1 (t.r_I64 a1)), .c (.v (.int .i64 a2)), .c (.s 1 (t.r_I64 a3)), .c (.s 1 (t.r_I64 a4))] (.u [.g (Centre.ds t r.1), .c (.r (.v (.bool r.2)))]) := by
  obtain ⟨X, hX⟩ := hide (.u [.g (Centre.ds t r.1), .c (.r (.v (.bool r.2)))] : X)
  rw [← hX]
  refine fn_of (rvs := rv44) (j := ir44) Try.func44 rfl fit44 (Nat.le_of_ble_eq_true rfl) (by kernel_rfl) prog_mixed ?_
  intro g2 F hg2 hF
  obtain rfl : g2 = g := hg2.unique.trans hg.symm
  clear hg2
  obtain ⟨wrap, lt, le, eq, quo, rem, band, bor, bxor, shl, shr, nat, int, add, sub, mul, cat, seq, slt, sub3, byte, llen, nadd, nsub, dlen, dapp, dset, drep, rd, rda, up, rsub, dsub, all, sle, slen⟩ := g2
  obtain ⟨r_Item, d_Item, r_Chute, d_Chute, r_Inlet, d_Inlet, r_I64, d_I64, r_U8, d_U8⟩ := t
  have hnil_Item : d_Item [] = [] := d_nil_Item ht
  have hnil_Chute : d_Chute [] = [] := d_nil_Chute ht
  have hnil_Inlet : d_Inlet [] = [] := d_nil_Inlet ht
  have hnil_I64 : d_I64 [] = [] := d_nil_I64 ht
  have hnil_U8 : d_U8 [] = [] := d_nil_U8 ht
  unfold S_NewCentre at h
  try dsimp only at h
  cbv
  obtain ⟨x1, hx1, h⟩ := of_lP h
  try dsimp only at h
  refine ACall.mk _ _ rfl (hF _ _ _ (c_S_l1In hg ht hx1)) (.inl rfl) (Nat.le_of_ble_eq_true rfl) ?_
  cbv
  cases hb1 : x1 with
  | true =>
    rw [br_true hb1] at h
    cbv
    obtain ⟨hc3, h⟩ := of_gd h
    refine AStep.mk (mk_ok hc3) ?_
    cbv
    obtain ⟨l1, hl1, h⟩ := of_lP h
    try dsimp only at h
    refine ANew.mk (d_Item l1) (dlen (d_Item l1)) (by rw [← hl1]; exact drep_Item hg ht _ (Item.mk 0 0)) (by rw [← hl1]; exact drepn_Item hg ht _ (Item.mk 0 0)) ?_
    cbv
    obtain ⟨x2, hx2, h⟩ := of_cl h
    try dsimp only at h
    refine ACall.mk _ _ rfl (hF _ _ _ (c_S_l1Ints hg ht hx2)) (.inl rfl) (Nat.le_of_ble_eq_true rfl) ?_
    cbv
    obtain ⟨o1, ho1, h⟩ := of_cl h
    try dsimp only at h
    try rw [hg] at ho1
    try rw [ht] at ho1
    refine ABL.mk { p : Nat × Int × List Chute // p.1 ≤ a1.length ∧ p.2.1 = ((p.1 : Nat) : Int) ∧ S_NewCentre_l1 G.real TE.real a2 (List.drop p.1 a1) p.2.2 = some o1 } (fun ⟨⟨k1, v1, w1⟩, _⟩ => ({ sl := [(1, .c (.r (.s 1 (r_I64 a1)))), (2, .c (.r (.v (.int .i64 a2)))), (3, .c (.r (.s 1 (r_I64 a3)))), (10, .c (.p 0 5 0 0)), (12, .c (.p 1 5 0 0)), (13, .c (.r (.v (.int .i64 v1))))], tab := [(0, some (.foc 5 [] [.n 2, .n 3, .n 2, .n 1, .r (.v (.int .i64 0))] [])), (1, some (.foc 5 [] [.f 2 2 0 (dlen (d_Item l1)), .f 3 3 0 (dlen (d_Chute w1)), .n 2, .f 4 1 0 (dlen (d_I64 x2)), .r (.v (.int .i64 0))] [])), (2, some (.arr 2 (d_Item l1))), (3, some (.arr 3 (d_Chute w1))), (4, some (.arr 1 (d_I64 x2)))] } : St)) 5 (fun p => a1.length - p.1.1) ⟨(0, 0, []), Nat.zero_le _, rfl, ho1⟩ (List Chute) (fun y1 => ({ sl := [(3, .c (.r (.s 1 (r_I64 a3)))), (10, .c (.p 0 5 0 0)), (12, .c (.p 1 5 0 0))], tab := [(0, some (.foc 5 [] [.n 2, .n 3, .n 2, .n 1, .r (.v (.int .i64 0))] [])), (1, some (.foc 5 [] [.f 2 2 0 (dlen (d_Item l1)), .f 3 3 0 (dlen (d_Chute y1)), .n 2, .f 4 1 0 (dlen (d_I64 x2)), .r (.v (.int .i64 0))] [])), (2, some (.arr 2 (d_Item l1))), (3, some (.arr 3 (d_Chute y1))), (4, some (.arr 1 (d_I64 x2)))] } : St)) 5 (fun y => o1 = y) ?_ ?_ ?_
    · refine Wk.of [(0, some 0), (1, some 160), (2, some 96), (3, none), (4, some 128)] rfl rfl ?_ ?_
      · cbv
        all_goals try rw [show dlen (d_Chute []) = 0 from dlen_nil_Chute hg ht]
        all_goals try rw [hnil_Chute]
        all_goals exact ⟨⟨_, rfl, rfl⟩, ⟨_, rfl, rfl⟩, ⟨_, rfl, rfl⟩, ⟨_, rfl, rfl⟩, ⟨_, rfl, rfl⟩, ⟨_, rfl, rfl⟩, trivial⟩
      · cbv
        all_goals try rw [show dlen (d_Chute []) = 0 from dlen_nil_Chute hg ht]
        all_goals try rw [hnil_Chute]
        all_goals exact ⟨⟨_, rfl, _, rfl, rfl, rfl, rfl, rfl, rfl, trivial⟩, ⟨_, rfl, _, rfl, rfl, ⟨⟨_, rfl⟩, rfl, rfl⟩, rfl, rfl, rfl, trivial⟩, ⟨_, rfl, rfl⟩, ⟨_, rfl⟩, ⟨_, rfl, rfl⟩, trivial⟩
    · rintro ⟨⟨k1, v1, w1⟩, hk1, hi1, h_1⟩ hq1
      have hm1 := (hq1.1 1 _ _ rfl)
      try dsimp only at hk1 hi1 h_1
      clear hq1
      cbv
      by_cases hc1_ : k1 < a1.length
      · have hb2 : lt v1 (llen (r_I64 a1)) = true := ltL_true_I64 hg ht hi1 hc1_
        have hs1 := stepL_I64 hg ht hi1 hc1_ hm1
        obtain ⟨z1, hz1⟩ := some_of_lt hc1_
        rw [drop_of_some hz1] at h_1
        rw [S_NewCentre_l1] at h_1
        try rw [← hg] at h_1
        try rw [← ht] at h_1
        try dsimp only at h_1
        rw [hb2]
        cbv
        refine AStep.mk (nn_L hi1) ?_
        cbv
        refine AGet.mk _ (r_getL_I64 hg ht hi1 hz1) ?_
        cbv
        obtain ⟨l2, hl2, h_1⟩ := of_lP h_1
        try dsimp only at h_1
        refine ANew.mk (d_Chute l2) (dlen (d_Chute l2)) (by rw [← hl2]; have e := lit_Chute hg ht [(Chute.mk z1 a2 [])]; dsimp only [List.map, Chute.ds] at e; (try simp only [hnil_Item, hnil_Chute, hnil_Inlet, hnil_I64, hnil_U8] at e); exact e) (by rw [← hl2]; exact litn_Chute hg ht [(Chute.mk z1 a2 [])]) ?_
        cbv
        obtain ⟨hc1, h_1⟩ := of_gd h_1
        refine AStep.mk ⟨⟨rfl, (dlen_Chute hg ht _)⟩, (app_ok_Chute hg ht (dlen_Chute hg ht _) rfl hc1)⟩ ?_
        cbv
        obtain ⟨l3, hl3, h_1⟩ := of_lP h_1
        try dsimp only at h_1
        refine ANew.mk (d_Chute l3) (dlen (d_Chute l3)) (by rw [← hl3]; exact app_Chute hg ht (dlen_Chute hg ht _) rfl) (by rw [← hl3]; exact appl_Chute hg ht (dlen_Chute hg ht _) rfl) ?_
        cbv
        try rw [hg] at h_1
        try rw [ht] at h_1
        refine ⟨⟨(k1 + 1, (wrap .i64 (add v1 1)), l3), hc1_, hs1, h_1⟩, Wk.of [(0, some 0), (1, some 1), (2, some 2), (3, some 213), (4, some 4)] rfl rfl ?_ ?_, meas_L hc1_⟩
        · cbv
          all_goals exact ⟨⟨_, rfl, rfl⟩, ⟨_, rfl, rfl⟩, ⟨_, rfl, rfl⟩, ⟨_, rfl, rfl⟩, ⟨_, rfl, rfl⟩, ⟨_, rfl, rfl⟩, trivial⟩
        · cbv
          all_goals exact ⟨⟨_, rfl, _, rfl, rfl, rfl, rfl, rfl, rfl, trivial⟩, ⟨_, rfl, _, rfl, rfl, rfl, rfl, rfl, rfl, trivial⟩, ⟨_, rfl, rfl⟩, ⟨_, rfl, rfl⟩, ⟨_, rfl, rfl⟩, trivial⟩
      · have hb2 : lt v1 (llen (r_I64 a1)) = false := ltL_false_I64 hg ht hi1 hc1_
        rw [List.drop_of_length_le (Nat.le_of_not_lt hc1_)] at h_1
        rw [S_NewCentre_l1] at h_1
        try rw [← hg] at h_1
        try rw [← ht] at h_1
        try dsimp only at h_1
        rw [hb2]
        cbv
        refine ⟨w1, Wk.of [(0, some 0), (1, some 1), (2, some 2), (3, some 3), (4, some 4)] rfl rfl ?_ ?_, (Option.some.inj h_1).symm⟩
        · cbv
          all_goals exact ⟨⟨_, rfl, rfl⟩, ⟨_, rfl, rfl⟩, ⟨_, rfl, rfl⟩, trivial⟩
        · cbv
          all_goals exact ⟨⟨_, rfl, _, rfl, rfl, rfl, rfl, rfl, rfl, trivial⟩, ⟨_, rfl, _, rfl, rfl, rfl, rfl, rfl, rfl, trivial⟩, ⟨_, rfl, rfl⟩, ⟨_, rfl, rfl⟩, ⟨_, rfl, rfl⟩, trivial⟩
    · rintro y1 hy1
      replace hy1 := hy1.symm
      subst hy1
      try dsimp only [lr, lrL, lrp, lrpL] at h
      cbv
      obtain ⟨o2, ho2, h⟩ := of_cl h
      try dsimp only at h
      try rw [hg] at ho2
      try rw [ht] at ho2
      refine ABL.mk { p : Nat × Int × List Inlet // p.1 ≤ a3.length ∧ p.2.1 = ((p.1 : Nat) : Int) ∧ S_NewCentre_l2 G.real TE.real (List.drop p.1 a3) p.2.2 = some o2 } (fun ⟨⟨k2, v2, w2⟩, _⟩ => ({ sl := [(3, .c (.r (.s 1 (r_I64 a3)))), (10, .c (.p 0 5 0 0)), (12, .c (.p 1 5 0 0)), (14, .c (.r (.v (.int .i64 v2))))], tab := [(0, some (.foc 5 [] [.n 2, .n 3, .n 2, .n 1, .r (.v (.int .i64 0))] [])), (1, some (.foc 5 [] [.f 2 2 0 (dlen (d_Item l1)), .f 3 3 0 (dlen (d_Chute y1)), .f 4 2 0 (dlen (d_Inlet w2)), .f 5 1 0 (dlen (d_I64 x2)), .r (.v (.int .i64 0))] [])), (2, some (.arr 2 (d_Item l1))), (3, some (.arr 3 (d_Chute y1))), (4, some (.arr 2 (d_Inlet w2))), (5, some (.arr 1 (d_I64 x2)))] } : St)) 6 (fun p => a3.length - p.1.1) ⟨(0, 0, []), Nat.zero_le _, rfl, ho2⟩ (List Inlet) (fun y2 => ({ sl := [(10, .c (.p 0 5 0 0)), (12, .c (.p 1 5 0 0))], tab := [(0, some (.foc 5 [] [.n 2, .n 3, .n 2, .n 1, .r (.v (.int .i64 0))] [])), (1, some (.foc 5 [] [.f 2 2 0 (dlen (d_Item l1)), .f 3 3 0 (dlen (d_Chute y1)), .f 4 2 0 (dlen (d_Inlet y2)), .f 5 1 0 (dlen (d_I64 x2)), .r (.v (.int .i64 0))] [])), (2, some (.arr 2 (d_Item l1))), (3, some (.arr 3 (d_Chute y1))), (4, some (.arr 2 (d_Inlet y2))), (5, some (.arr 1 (d_I64 x2)))] } : St)) 6 (fun y => o2 = y) ?_ ?_ ?_
      · refine Wk.of [(0, some 0), (1, some 1), (2, some 2), (3, some 3), (4, none), (5, some 4)] rfl rfl ?_ ?_
        · cbv
          all_goals try rw [show dlen (d_Inlet []) = 0 from dlen_nil_Inlet hg ht]
          all_goals try rw [hnil_Inlet]
          all_goals exact ⟨⟨_, rfl, rfl⟩, ⟨_, rfl, rfl⟩, ⟨_, rfl, rfl⟩, ⟨_, rfl, rfl⟩, trivial⟩
        · cbv
          all_goals try rw [show dlen (d_Inlet []) = 0 from dlen_nil_Inlet hg ht]
          all_goals try rw [hnil_Inlet]
          all_goals exact ⟨⟨_, rfl, _, rfl, rfl, rfl, rfl, rfl, rfl, trivial⟩, ⟨_, rfl, _, rfl, rfl, rfl, ⟨⟨_, rfl⟩, rfl, rfl⟩, rfl, rfl, trivial⟩, ⟨_, rfl, rfl⟩, ⟨_, rfl, rfl⟩, ⟨_, rfl⟩, ⟨_, rfl, rfl⟩, trivial⟩
      · rintro ⟨⟨k2, v2, w2⟩, hk2, hi2, h_2⟩ hq2
        have hm2 := (hq2.1 3 _ _ rfl)
        try dsimp only at hk2 hi2 h_2
        clear hq2
        cbv
        by_cases hc2_ : k2 < a3.length
        · have hb3 : lt v2 (llen (r_I64 a3)) = true := ltL_true_I64 hg ht hi2 hc2_
          have hs2 := stepL_I64 hg ht hi2 hc2_ hm2
          obtain ⟨z2, hz2⟩ := some_of_lt hc2_
          rw [drop_of_some hz2] at h_2
          rw [S_NewCentre_l2] at h_2
          try rw [← hg] at h_2
          try rw [← ht] at h_2
          try dsimp only at h_2
          rw [hb3]
          cbv
          refine AStep.mk (nn_L hi2) ?_
          cbv
          refine AGet.mk _ (r_getL_I64 hg ht hi2 hz2) ?_
          cbv
          obtain ⟨l4, hl4, h_2⟩ := of_lP h_2
          try dsimp only at h_2
          refine ANew.mk (d_Inlet l4) (dlen (d_Inlet l4)) (by rw [← hl4]; have e := lit_Inlet hg ht [(Inlet.mk z2 [])]; dsimp only [List.map, Inlet.ds] at e; (try simp only [hnil_Item, hnil_Chute, hnil_Inlet, hnil_I64, hnil_U8] at e); exact e) (by rw [← hl4]; exact litn_Inlet hg ht [(Inlet.mk z2 [])]) ?_
          cbv
          obtain ⟨hc2, h_2⟩ := of_gd h_2
          refine AStep.mk ⟨⟨rfl, (dlen_Inlet hg ht _)⟩, (app_ok_Inlet hg ht (dlen_Inlet hg ht _) rfl hc2)⟩ ?_
          cbv
          obtain ⟨l5, hl5, h_2⟩ := of_lP h_2
          try dsimp only at h_2
          refine ANew.mk (d_Inlet l5) (dlen (d_Inlet l5)) (by rw [← hl5]; exact app_Inlet hg ht (dlen_Inlet hg ht _) rfl) (by rw [← hl5]; exact appl_Inlet hg ht (dlen_Inlet hg ht _) rfl) ?_
          cbv
          try rw [hg] at h_2
          try rw [ht] at h_2
          refine ⟨⟨(k2 + 1, (wrap .i64 (add v2 1)), l5), hc2_, hs2, h_2⟩, Wk.of [(0, some 0), (1, some 1), (2, some 2), (3, some 3), (4, some 198), (5, some 5)] rfl rfl ?_ ?_, meas_L hc2_⟩
          · cbv
            all_goals exact ⟨⟨_, rfl, rfl⟩, ⟨_, rfl, rfl⟩, ⟨_, rfl, rfl⟩, ⟨_, rfl, rfl⟩, trivial⟩
          · cbv
            all_goals exact ⟨⟨_, rfl, _, rfl, rfl, rfl, rfl, rfl, rfl, trivial⟩, ⟨_, rfl, _, rfl, rfl, rfl, rfl, rfl, rfl, trivial⟩, ⟨_, rfl, rfl⟩, ⟨_, rfl, rfl⟩, ⟨_, rfl, rfl⟩, ⟨_, rfl, rfl⟩, trivial⟩
        · have hb3 : lt v2 (llen (r_I64 a3)) = false := ltL_false_I64 hg ht hi2 hc2_
          rw [List.drop_of_length_le (Nat.le_of_not_lt hc2_)] at h_2
          rw [S_NewCentre_l2] at h_2
          try rw [← hg] at h_2
          try rw [← ht] at h_2
          try dsimp only at h_2
          rw [hb3]
          cbv
          refine ⟨w2, Wk.of [(0, some 0), (1, some 1), (2, some 2), (3, some 3), (4, some 4), (5, some 5)] rfl rfl ?_ ?_, (Option.some.inj h_2).symm⟩
          · cbv
            all_goals exact ⟨⟨_, rfl, rfl⟩, ⟨_, rfl, rfl⟩, trivial⟩
          · cbv
            all_goals exact ⟨⟨_, rfl, _, rfl, rfl, rfl, rfl, rfl, rfl, trivial⟩, ⟨_, rfl, _, rfl, rfl, rfl, rfl, rfl, rfl, trivial⟩, ⟨_, rfl, rfl⟩, ⟨_, rfl, rfl⟩, ⟨_, rfl, rfl⟩, ⟨_, rfl, rfl⟩, trivial⟩
      · rintro y2 hy2
        replace hy2 := hy2.symm
        subst hy2
        try dsimp only [lr, lrL, lrp, lrpL] at h
        cbv
        refine AStep.mk ⟨(lend_Item ht (dlen_Item hg ht _)), ⟨(lend_Chute ht (dlen_Chute hg ht _)), ⟨(lend_Inlet ht (dlen_Inlet hg ht _)), (lend_I64 ht (dlen_I64 hg ht _))⟩⟩⟩ ?_
        cbv
        obtain ⟨x3, hx3, h⟩ := of_cl h
        try dsimp only at h
        refine ACall.mk _ _ (by rw [show rd (d_Item l1) 0 (dlen (d_Item l1)) = r_Item l1 from rdw_Item hg ht (dlen_Item hg ht _), show rd (d_Chute y1) 0 (dlen (d_Chute y1)) = r_Chute y1 from rdw_Chute hg ht (dlen_Chute hg ht _), show rd (d_Inlet y2) 0 (dlen (d_Inlet y2)) = r_Inlet y2 from rdw_Inlet hg ht (dlen_Inlet hg ht _), show rd (d_I64 x2) 0 (dlen (d_I64 x2)) = r_I64 x2 from rdw_I64 hg ht (dlen_I64 hg ht _)]; try rfl) (hF _ _ _ (c_S_IsCentre hg ht hx3)) (.inr rfl) (Nat.le_of_ble_eq_true rfl) ?_
        cbv
        cases hb4 : x3 with
        | true =>
          rw [br_true hb4] at h
          cbv
          obtain rfl := Option.some.inj h
          exact ARet.mk ⟨⟨rfl, (dlen_Item hg ht _)⟩, ⟨⟨rfl, (dlen_Chute hg ht _)⟩, ⟨⟨rfl, (dlen_Inlet hg ht _)⟩, ⟨rfl, (dlen_I64 hg ht _)⟩⟩⟩⟩ hX.symm
        | false =>
          rw [br_false hb4] at h
          cbv
          obtain rfl := Option.some.inj h
          exact ARet.mk trivial (by rw [hX]; first | rfl | (simp only [Item.ds, Chute.ds, Inlet.ds, Centre.ds, hnil_Chute, hnil_I64, hnil_Inlet, hnil_Item]; try rfl))
  | false =>
    rw [br_false hb1] at h
    cbv
    obtain rfl := Option.some.inj h
    exact ARet.mk trivial (by rw [hX]; first | rfl | (simp only [Item.ds, Chute.ds, Inlet.ds, Centre.ds, hnil_Chute, hnil_I64, hnil_Inlet, hnil_Item]; try rfl))
end Go.Vs
namespace Go.Vs
open Go.Proofs Go.IntWalk
set_option linter.unusedVariables false
set_option maxRecDepth 100000
set_option maxHeartbeats 4000000
def S_IsDrained (g : G) (t : TE) (a0 : Centre) : Option Bool :=
  cl (S_IsCentre g t a0) fun x1 =>
  br x1
  (
   lP (S_CountBelt g t a0) fun x2 =>
   br (g.eq x2 0)
   (
    lP (S_CountWait g t a0) fun x3 =>
    some (g.eq x3 0))
   (
    some false))
  (
   some false)
theorem fit57 : codeFit Try.prog Try.f57.ntmps (Try.f57.body.getD .skip) ir57 = true := by kernel_rfl
theorem c_S_IsDrained {g : G} {t : TE} {a0 : Centre} {r : Bool} (hg : g = G.real) (ht : t = TE.real) (h : S_IsDrained g t a0 = some r) : Fn Try.prog 57 [.g (Centre.rs t a0)] (.c (.r (.v (.bool r)))) := by
  obtain ⟨X, hX⟩ := hide (.c (.r (.v (.bool r))) : X)
  rw [← hX]
  refine fn_of (rvs := rv57) (j := ir57) Try.func57 rfl fit57 (Nat.le_of_ble_eq_true rfl) (by kernel_rfl) prog_mixed ?_
  intro g2 F hg2 hF
  obtain rfl : g2 = g := hg2.unique.trans hg.symm
  clear hg2
  obtain ⟨wrap, lt, le, eq, quo, rem, band, bor, bxor, shl, shr, nat, int, add, sub, mul, cat, seq, slt, sub3, byte, llen, nadd, nsub, dlen, dapp, dset, drep, rd, rda, up, rsub, dsub, all, sle, slen⟩ := g2
  obtain ⟨r_Item, d_Item, r_Chute, d_Chute, r_Inlet, d_Inlet, r_I64, d_I64, r_U8, d_U8⟩ := t
  obtain ⟨a0_Belt, a0_Chutes, a0_Inlets, a0_Plan, a0_Now⟩ := a0
  unfold S_IsDrained at h
  try dsimp only at h
  cbv
  obtain ⟨x1, hx1, h⟩ := of_cl h
  try dsimp only at h
  refine ACall.mk _ _ rfl (hF _ _ _ (c_S_IsCentre hg ht hx1)) (.inl rfl) (Nat.le_of_ble_eq_true rfl) ?_
  cbv
  cases hb1 : x1 with
  | true =>
    rw [br_true hb1] at h
    cbv
    try (rw [hb1]; cbv)
    obtain ⟨x2, hx2, h⟩ := of_lP h
    try dsimp only at h
    refine ACall.mk _ _ rfl (hF _ _ _ (c_S_CountBelt hg ht hx2)) (.inl rfl) (Nat.le_of_ble_eq_true rfl) ?_
    cbv
    try (rw [hb1]; cbv)
    try (rw [hb1]; cbv)
    cases hb2 : (eq x2 0) with
    | true =>
      rw [br_true hb2] at h
      cbv
      try (rw [hb2]; cbv)
      obtain ⟨x3, hx3, h⟩ := of_lP h
      try dsimp only at h
      refine ACall.mk _ _ rfl (hF _ _ _ (c_S_CountWait hg ht hx3)) (.inl rfl) (Nat.le_of_ble_eq_true rfl) ?_
      cbv
      try (rw [hb2]; cbv)
      try (rw [hb2]; cbv)
      obtain rfl := Option.some.inj h
      exact ARet.mk trivial hX.symm
    | false =>
      rw [br_false hb2] at h
      cbv
      try (rw [hb2]; cbv)
      try (rw [hb2]; cbv)
      try (rw [hb2]; cbv)
      obtain rfl := Option.some.inj h
      exact ARet.mk trivial hX.symm
  | false =>
    rw [br_false hb1] at h
    cbv
    try (rw [hb1]; cbv)
    try (rw [hb1]; cbv)
    try (rw [hb1]; cbv)
    obtain rfl := Option.some.inj h
    exact ARet.mk trivial hX.symm
end Go.Vs
namespace Go.Vs
open Go.Proofs Go.IntWalk
set_option linter.unusedVariables false
set_option maxRecDepth 100000
set_option maxHeartbeats 4000000
def S_WhereIs_l3 (g : G) (t : TE) (a1 : Int) : List Inlet → Int → LR (Int × Int) Unit
  | [], v3 =>
    (LR.out ())
  | z3 :: ls3, v3 =>
    lP (S_l7Find g t z3.Wait a1) fun x3 =>
    br x3
    (
     (LR.ret ((3, v3))))
    (
     S_WhereIs_l3 g t a1 ls3 (g.wrap .i64 (g.add v3 1)))
def S_WhereIs_l2 (g : G) (t : TE) (a1 : Int) : List Chute → Int → LR (Int × Int) Unit
  | [], v2 =>
    (LR.out ())
  | z2 :: ls2, v2 =>
    lP (S_l7Find g t z2.Held a1) fun x2 =>
    br x2
    (
     (LR.ret ((2, v2))))
    (
     S_WhereIs_l2 g t a1 ls2 (g.wrap .i64 (g.add v2 1)))
def S_WhereIs_l1 (g : G) (t : TE) (a1 : Int) : List Item → Int → LR (Int × Int) Unit
  | [], v1 =>
    (LR.out ())
  | z1 :: ls1, v1 =>
    br (g.eq z1.Id a1)
    (
     (LR.ret ((1, v1))))
    (
     S_WhereIs_l1 g t a1 ls1 (g.wrap .i64 (g.add v1 1)))
def S_WhereIs (g : G) (t : TE) (a0 : Centre) (a1 : Int) : Option (Int × Int) :=
  cl (S_IsCentre g t a0) fun x1 =>
  br x1
  (
   br (g.eq a1 0)
   (
    some ((0, 0)))
   (
    lP (S_WhereIs_l1 g t a1 a0.Belt 0) fun o1 => lr o1 fun y1 =>
    lP (S_WhereIs_l2 g t a1 a0.Chutes 0) fun o2 => lr o2 fun y2 =>
    lP (S_WhereIs_l3 g t a1 a0.Inlets 0) fun o3 => lr o3 fun y3 =>
    some ((0, 0))))
  (
   some ((0, 0)))
theorem fit59 : codeFit Try.prog Try.f59.ntmps (Try.f59.body.getD .skip) ir59 = true := by kernel_rfl
theorem c_S_WhereIs {g : G} {t : TE} {a0 : Centre} {a1 : Int} {r : Int × Int} (hg : g = G.real) (ht : t = TE.real) (h : S_WhereIs g t a0 a1 = some r) : Fn Try.prog 59 [.g (Centre.rs t a0), .c (.v (.int .i64 a1))] (.u [.c (.r (.v (.int .i64 r.1))), .c (.r (.v (.int .i64 r.2)))]) := by
  obtain ⟨X, hX⟩ := hide (.u [.c (.r (.v (.int .i64 r.1))), .c (.r (.v (.int .i64 r.2)))] : X)
  rw [← hX]
  refine fn_of (rvs := rv59) (j := ir59) Try.func59 rfl fit59 (Nat.le_of_ble_eq_true rfl) (by kernel_rfl) prog_mixed ?_
  intro g2 F hg2 hF
  obtain rfl : g2 = g := hg2.unique.trans hg.symm
  clear hg2
  obtain ⟨wrap, lt, le, eq, quo, rem, band, bor, bxor, shl, shr, nat, int, add, sub, mul, cat, seq, slt, sub3, byte, llen, nadd, nsub, dlen, dapp, dset, drep, rd, rda, up, rsub, dsub, all, sle, slen⟩ := g2
  obtain ⟨r_Item, d_Item, r_Chute, d_Chute, r_Inlet, d_Inlet, r_I64, d_I64, r_U8, d_U8⟩ := t
  obtain ⟨a0_Belt, a0_Chutes, a0_Inlets, a0_Plan, a0_Now⟩ := a0
  unfold S_WhereIs at h
  try dsimp only at h
  cbv
  obtain ⟨x1, hx1, h⟩ := of_cl h
  try dsimp only at h
  refine ACall.mk _ _ rfl (hF _ _ _ (c_S_IsCentre hg ht hx1)) (.inl rfl) (Nat.le_of_ble_eq_true rfl) ?_
  cbv
  cases hb1 : x1 with
  | true =>
    rw [br_true hb1] at h
    cbv
    try (rw [hb1]; cbv)
    try (rw [hb1]; cbv)
    cases hb2 : (eq a1 0) with
    | true =>
      rw [br_true hb2] at h
      cbv
      obtain rfl := Option.some.inj h
      exact ARet.mk trivial hX.symm
    | false =>
      rw [br_false hb2] at h
      cbv
      obtain ⟨o1, ho1, h⟩ := of_lP h
      try dsimp only at h
      try rw [hg] at ho1
      try rw [ht] at ho1
      refine ABL.mk { p : Nat × Int // p.1 ≤ a0_Belt.length ∧ p.2 = ((p.1 : Nat) : Int) ∧ S_WhereIs_l1 G.real TE.real a1 (List.drop p.1 a0_Belt) p.2 = o1 } (fun ⟨⟨k1, v1⟩, _⟩ => ({ sl := [(1, .c (.r (.v (.int .i64 a1)))), (2, .c (.p 0 5 0 0)), (6, .c (.r (.v (.int .i64 v1))))], tab := [(0, some (.foc 5 [] [.r (.s 2 (r_Item a0_Belt)), .r (.s 3 (r_Chute a0_Chutes)), .r (.s 2 (r_Inlet a0_Inlets)), .r (.s 1 (r_I64 a0_Plan)), .r (.v (.int .i64 a0_Now))] []))] } : St)) 1 (fun p => a0_Belt.length - p.1.1) ⟨(0, 0), Nat.zero_le _, rfl, ho1⟩ (Unit) (fun _ => ({ sl := [(1, .c (.r (.v (.int .i64 a1)))), (2, .c (.p 0 5 0 0))], tab := [(0, some (.foc 5 [] [.r (.s 2 (r_Item a0_Belt)), .r (.s 3 (r_Chute a0_Chutes)), .r (.s 2 (r_Inlet a0_Inlets)), .r (.s 1 (r_I64 a0_Plan)), .r (.v (.int .i64 a0_Now))] []))] } : St)) 1 (fun y => o1 = LR.out y) ?_ ?_ ?_
      · refine Wk.of [(0, some 0)] rfl rfl ?_ ?_
        · cbv
          all_goals exact ⟨⟨_, rfl, rfl⟩, ⟨_, rfl, rfl⟩, ⟨_, rfl, rfl⟩, trivial⟩
        · cbv
          all_goals exact ⟨⟨_, rfl, _, rfl, rfl, rfl, rfl, rfl, rfl, trivial⟩, trivial⟩
      · rintro ⟨⟨k1, v1⟩, hk1, hi1, h_1⟩ hq1
        have hm1 := (hq1.2.2.1 0 _ _ _ _ 0 _ _ rfl rfl)
        try dsimp only at hk1 hi1 h_1
        clear hq1
        cbv
        by_cases hc1_ : k1 < a0_Belt.length
        · have hb3 : lt v1 (llen (r_Item a0_Belt)) = true := ltL_true_Item hg ht hi1 hc1_
          have hs1 := stepL_Item hg ht hi1 hc1_ hm1
          obtain ⟨z1, hz1⟩ := some_of_lt hc1_
          rw [drop_of_some hz1] at h_1
          rw [S_WhereIs_l1] at h_1
          obtain ⟨z1_Id, z1_Dest⟩ := z1
          try rw [← hg] at h_1
          try rw [← ht] at h_1
          try dsimp only at h_1
          rw [hb3]
          cbv
          refine AStep.mk (nn_L hi1) ?_
          cbv
          refine AGet.mk _ (r_getL_Item hg ht hi1 hz1) ?_
          cbv
          cases hb4 : (eq z1_Id a1) with
          | true =>
            rw [br_true hb4] at h_1
            cbv
            subst h_1
            try dsimp only [lr, lrL, lrp, lrpL] at h
            obtain rfl := Option.some.inj h
            exact ARet.mk trivial hX.symm
          | false =>
            rw [br_false hb4] at h_1
            cbv
            try rw [hg] at h_1
            try rw [ht] at h_1
            refine ⟨⟨(k1 + 1, (wrap .i64 (add v1 1))), hc1_, hs1, h_1⟩, Wk.of [(0, some 0)] rfl rfl ?_ ?_, meas_L hc1_⟩
            · cbv
              all_goals exact ⟨⟨_, rfl, rfl⟩, ⟨_, rfl, rfl⟩, ⟨_, rfl, rfl⟩, trivial⟩
            · cbv
              all_goals exact ⟨⟨_, rfl, _, rfl, rfl, rfl, rfl, rfl, rfl, trivial⟩, trivial⟩
        · have hb3 : lt v1 (llen (r_Item a0_Belt)) = false := ltL_false_Item hg ht hi1 hc1_
          rw [List.drop_of_length_le (Nat.le_of_not_lt hc1_)] at h_1
          rw [S_WhereIs_l1] at h_1
          try rw [← hg] at h_1
          try rw [← ht] at h_1
          try dsimp only at h_1
          rw [hb3]
          cbv
          refine ⟨(), Wk.of [(0, some 0)] rfl rfl ?_ ?_, h_1.symm⟩
          · cbv
            all_goals exact ⟨⟨_, rfl, rfl⟩, ⟨_, rfl, rfl⟩, trivial⟩
          · cbv
            all_goals exact ⟨⟨_, rfl, _, rfl, rfl, rfl, rfl, rfl, rfl, trivial⟩, trivial⟩
      · rintro _ hy1
        replace hy1 := hy1.symm
        subst hy1
        try dsimp only [lr, lrL, lrp, lrpL] at h
        cbv
        obtain ⟨o2, ho2, h⟩ := of_lP h
        try dsimp only at h
        try rw [hg] at ho2
        try rw [ht] at ho2
        refine ABL.mk { p : Nat × Int // p.1 ≤ a0_Chutes.length ∧ p.2 = ((p.1 : Nat) : Int) ∧ S_WhereIs_l2 G.real TE.real a1 (List.drop p.1 a0_Chutes) p.2 = o2 } (fun ⟨⟨k2, v2⟩, _⟩ => ({ sl := [(1, .c (.r (.v (.int .i64 a1)))), (2, .c (.p 0 5 0 0)), (7, .c (.r (.v (.int .i64 v2))))], tab := [(0, some (.foc 5 [] [.r (.s 2 (r_Item a0_Belt)), .r (.s 3 (r_Chute a0_Chutes)), .r (.s 2 (r_Inlet a0_Inlets)), .r (.s 1 (r_I64 a0_Plan)), .r (.v (.int .i64 a0_Now))] []))] } : St)) 1 (fun p => a0_Chutes.length - p.1.1) ⟨(0, 0), Nat.zero_le _, rfl, ho2⟩ (Unit) (fun _ => ({ sl := [(1, .c (.r (.v (.int .i64 a1)))), (2, .c (.p 0 5 0 0))], tab := [(0, some (.foc 5 [] [.r (.s 2 (r_Item a0_Belt)), .r (.s 3 (r_Chute a0_Chutes)), .r (.s 2 (r_Inlet a0_Inlets)), .r (.s 1 (r_I64 a0_Plan)), .r (.v (.int .i64 a0_Now))] []))] } : St)) 1 (fun y => o2 = LR.out y) ?_ ?_ ?_
        · refine Wk.of [(0, some 0)] rfl rfl ?_ ?_
          · cbv
            all_goals exact ⟨⟨_, rfl, rfl⟩, ⟨_, rfl, rfl⟩, ⟨_, rfl, rfl⟩, trivial⟩
          · cbv
            all_goals exact ⟨⟨_, rfl, _, rfl, rfl, rfl, rfl, rfl, rfl, trivial⟩, trivial⟩
        · rintro ⟨⟨k2, v2⟩, hk2, hi2, h_2⟩ hq2
          have hm2 := (hq2.2.2.1 0 _ _ _ _ 1 _ _ rfl rfl)
          try dsimp only at hk2 hi2 h_2
          clear hq2
          cbv
          by_cases hc2_ : k2 < a0_Chutes.length
          · have hb5 : lt v2 (llen (r_Chute a0_Chutes)) = true := ltL_true_Chute hg ht hi2 hc2_
            have hs2 := stepL_Chute hg ht hi2 hc2_ hm2
            obtain ⟨z2, hz2⟩ := some_of_lt hc2_
            rw [drop_of_some hz2] at h_2
            rw [S_WhereIs_l2] at h_2
            obtain ⟨z2_Cell, z2_Room, z2_Held⟩ := z2
            try rw [← hg] at h_2
            try rw [← ht] at h_2
            try dsimp only at h_2
            rw [hb5]
            cbv
            refine AStep.mk (nn_L hi2) ?_
            cbv
            refine AGet.mk _ (r_getL_Chute hg ht hi2 hz2) ?_
            cbv
            obtain ⟨x2, hx2, h_2⟩ := of_lP h_2
            try dsimp only at h_2
            refine ACall.mk _ _ rfl (hF _ _ _ (c_S_l7Find hg ht hx2)) (.inl rfl) (Nat.le_of_ble_eq_true rfl) ?_
            cbv
            cases hb6 : x2 with
            | true =>
              rw [br_true hb6] at h_2
              cbv
              subst h_2
              try dsimp only [lr, lrL, lrp, lrpL] at h
              obtain rfl := Option.some.inj h
              exact ARet.mk trivial hX.symm
            | false =>
              rw [br_false hb6] at h_2
              cbv
              try rw [hg] at h_2
              try rw [ht] at h_2
              refine ⟨⟨(k2 + 1, (wrap .i64 (add v2 1))), hc2_, hs2, h_2⟩, Wk.of [(0, some 0)] rfl rfl ?_ ?_, meas_L hc2_⟩
              · cbv
                all_goals exact ⟨⟨_, rfl, rfl⟩, ⟨_, rfl, rfl⟩, ⟨_, rfl, rfl⟩, trivial⟩
              · cbv
                all_goals exact ⟨⟨_, rfl, _, rfl, rfl, rfl, rfl, rfl, rfl, trivial⟩, trivial⟩
          · have hb5 : lt v2 (llen (r_Chute a0_Chutes)) = false := ltL_false_Chute hg ht hi2 hc2_
            rw [List.drop_of_length_le (Nat.le_of_not_lt hc2_)] at h_2
            rw [S_WhereIs_l2] at h_2
            try rw [← hg] at h_2
            try rw [← ht] at h_2
            try dsimp only at h_2
            rw [hb5]
            cbv
            refine ⟨(), Wk.of [(0, some 0)] rfl rfl ?_ ?_, h_2.symm⟩
            · cbv
              all_goals exact ⟨⟨_, rfl, rfl⟩, ⟨_, rfl, rfl⟩, trivial⟩
            · cbv
              all_goals exact ⟨⟨_, rfl, _, rfl, rfl, rfl, rfl, rfl, rfl, trivial⟩, trivial⟩
        · rintro _ hy2
          replace hy2 := hy2.symm
          subst hy2
          try dsimp only [lr, lrL, lrp, lrpL] at h
          cbv
          obtain ⟨o3, ho3, h⟩ := of_lP h
          try dsimp only at h
          try rw [hg] at ho3
          try rw [ht] at ho3
          refine ABL.mk { p : Nat × Int // p.1 ≤ a0_Inlets.length ∧ p.2 = ((p.1 : Nat) : Int) ∧ S_WhereIs_l3 G.real TE.real a1 (List.drop p.1 a0_Inlets) p.2 = o3 } (fun ⟨⟨k3, v3⟩, _⟩ => ({ sl := [(1, .c (.r (.v (.int .i64 a1)))), (2, .c (.p 0 5 0 0)), (8, .c (.r (.v (.int .i64 v3))))], tab := [(0, some (.foc 5 [] [.r (.s 2 (r_Item a0_Belt)), .r (.s 3 (r_Chute a0_Chutes)), .r (.s 2 (r_Inlet a0_Inlets)), .r (.s 1 (r_I64 a0_Plan)), .r (.v (.int .i64 a0_Now))] []))] } : St)) 1 (fun p => a0_Inlets.length - p.1.1) ⟨(0, 0), Nat.zero_le _, rfl, ho3⟩ (Unit) (fun _ => ({ sl := [], tab := [] } : St)) 0 (fun y => o3 = LR.out y) ?_ ?_ ?_
          · refine Wk.of [(0, some 0)] rfl rfl ?_ ?_
            · cbv
              all_goals exact ⟨⟨_, rfl, rfl⟩, ⟨_, rfl, rfl⟩, ⟨_, rfl, rfl⟩, trivial⟩
            · cbv
              all_goals exact ⟨⟨_, rfl, _, rfl, rfl, rfl, rfl, rfl, rfl, trivial⟩, trivial⟩
          · rintro ⟨⟨k3, v3⟩, hk3, hi3, h_3⟩ hq3
            have hm3 := (hq3.2.2.1 0 _ _ _ _ 2 _ _ rfl rfl)
            try dsimp only at hk3 hi3 h_3
            clear hq3
            cbv
            by_cases hc3_ : k3 < a0_Inlets.length
            · have hb7 : lt v3 (llen (r_Inlet a0_Inlets)) = true := ltL_true_Inlet hg ht hi3 hc3_
              have hs3 := stepL_Inlet hg ht hi3 hc3_ hm3
              obtain ⟨z3, hz3⟩ := some_of_lt hc3_
              rw [drop_of_some hz3] at h_3
              rw [S_WhereIs_l3] at h_3
              obtain ⟨z3_Cell, z3_Wait⟩ := z3
              try rw [← hg] at h_3
              try rw [← ht] at h_3
              try dsimp only at h_3
              rw [hb7]
              cbv
              refine AStep.mk (nn_L hi3) ?_
              cbv
              refine AGet.mk _ (r_getL_Inlet hg ht hi3 hz3) ?_
              cbv
              obtain ⟨x3, hx3, h_3⟩ := of_lP h_3
              try dsimp only at h_3
              refine ACall.mk _ _ rfl (hF _ _ _ (c_S_l7Find hg ht hx3)) (.inl rfl) (Nat.le_of_ble_eq_true rfl) ?_
              cbv
              cases hb8 : x3 with
              | true =>
                rw [br_true hb8] at h_3
                cbv
                subst h_3
                try dsimp only [lr, lrL, lrp, lrpL] at h
                obtain rfl := Option.some.inj h
                exact ARet.mk trivial hX.symm
              | false =>
                rw [br_false hb8] at h_3
                cbv
                try rw [hg] at h_3
                try rw [ht] at h_3
                refine ⟨⟨(k3 + 1, (wrap .i64 (add v3 1))), hc3_, hs3, h_3⟩, Wk.of [(0, some 0)] rfl rfl ?_ ?_, meas_L hc3_⟩
                · cbv
                  all_goals exact ⟨⟨_, rfl, rfl⟩, ⟨_, rfl, rfl⟩, ⟨_, rfl, rfl⟩, trivial⟩
                · cbv
                  all_goals exact ⟨⟨_, rfl, _, rfl, rfl, rfl, rfl, rfl, rfl, trivial⟩, trivial⟩
            · have hb7 : lt v3 (llen (r_Inlet a0_Inlets)) = false := ltL_false_Inlet hg ht hi3 hc3_
              rw [List.drop_of_length_le (Nat.le_of_not_lt hc3_)] at h_3
              rw [S_WhereIs_l3] at h_3
              try rw [← hg] at h_3
              try rw [← ht] at h_3
              try dsimp only at h_3
              rw [hb7]
              cbv
              refine ⟨(), Wk.of [] rfl rfl ?_ ?_, h_3.symm⟩
              · cbv
                all_goals exact trivial
              · cbv
                all_goals exact trivial
          · rintro _ hy3
            replace hy3 := hy3.symm
            subst hy3
            try dsimp only [lr, lrL, lrp, lrpL] at h
            cbv
            obtain rfl := Option.some.inj h
            exact ARet.mk trivial hX.symm
  | false =>
    rw [br_false hb1] at h
    cbv
    try (rw [hb1]; cbv)
    try (rw [hb1]; cbv)
    obtain rfl := Option.some.inj h
    exact ARet.mk trivial hX.symm
end Go.Vs
