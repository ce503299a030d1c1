/- Part of the proofs of this seat's laws: L6a. No condition. -/
import Derived.Test.YtieeagobedjogaaTy
import Derived.Test.YtieeagobedjogaaTIRall
import Derived.Test.YtieeagobedjogaaL4a
import Derived.Test.YtieeagobedjogaaL1a
import Derived.Test.YtieeagobedjogaaL5a
set_option linter.unusedVariables false
set_option linter.unusedSimpArgs false
set_option linter.unusedSectionVars false
namespace Go.Vs
open Go.Proofs Go.IntWalk
set_option linter.unusedVariables false
set_option maxRecDepth 100000
set_option maxHeartbeats 4000000
def L_FnExactCountWait (g : G) (t : TE) (a0 : Centre) : Option Bool :=
  lP (L_szCentre g t a0 1048576) fun x1 =>
  br (g.lt x1 0)
  (
   some true)
  (
   cl (L_toCentre g t a0) fun x2 =>
   lP (S_CountWait g t x2) fun x3 =>
   cl (L_toCentre g t a0) fun x4 =>
   lP (I_CountWait g t x4) fun x5 =>
   br (g.eq x5 x3)
   (
    cl (L_toCentre g t a0) fun x6 =>
    cl (L_eqCentre g t x4 x6) fun x7 =>
    br x7
    (
     some true)
    (
     some false))
   (
    some false))
theorem fit3 : codeFit Try.prog Try.f3.ntmps (Try.f3.body.getD .skip) ir3 = true := by kernel_rfl
theorem c_L_FnExactCountWait {g : G} {t : TE} {a0 : Centre} {r : Bool} (hg : g = G.real) (ht : t = TE.real) (h : L_FnExactCountWait g t a0 = some r) : Fn Try.prog 3 [.g (Centre.rs t a0)] (.c (.r (.v (.bool r)))) := by
  obtain ⟨X, hX⟩ := hide (.c (.r (.v (.bool r))) : X)
  rw [← hX]
  refine fn_of (rvs := rv3) (j := ir3) Try.func3 rfl fit3 (Nat.le_of_ble_eq_true rfl) (by kernel_rfl) prog_mixed ?_
  intro g2 F hg2 hF
  obtain rfl : g2 = g := hg2.unique.trans hg.symm
  clear hg2
  obtain ⟨wrap, lt, le, eq, quo, rem, band, bor, bxor, shl, shr, nat, int, add, sub, mul, cat, seq, slt, sub3, byte, llen, nadd, nsub, dlen, dapp, dset, drep, rd, rda, up, rsub, dsub, all, sle, slen⟩ := g2
  obtain ⟨r_Item, d_Item, r_Chute, d_Chute, r_Inlet, d_Inlet, r_I64, d_I64, r_U8, d_U8⟩ := t
  obtain ⟨a0_Belt, a0_Chutes, a0_Inlets, a0_Plan, a0_Now⟩ := a0
  unfold L_FnExactCountWait at h
  try dsimp only at h
  cbv
  obtain ⟨x1, hx1, h⟩ := of_lP h
  try dsimp only at h
  refine ACall.mk _ _ rfl (hF _ _ _ (c_L_szCentre hg ht hx1)) (.inl rfl) (Nat.le_of_ble_eq_true rfl) ?_
  cbv
  cases hb1 : (lt x1 0) with
  | true =>
    rw [br_true hb1] at h
    cbv
    obtain rfl := Option.some.inj h
    exact ARet.mk trivial hX.symm
  | false =>
    rw [br_false hb1] at h
    cbv
    obtain ⟨x2, hx2, h⟩ := of_cl h
    obtain ⟨x2_Belt, x2_Chutes, x2_Inlets, x2_Plan, x2_Now⟩ := x2
    try dsimp only at h
    refine ACall.mk _ _ rfl (hF _ _ _ (c_L_toCentre hg ht hx2)) (.inl rfl) (Nat.le_of_ble_eq_true rfl) ?_
    cbv
    refine AStep.mk ⟨(lend_Item ht (dlen_Item hg ht _)), ⟨(lend_Chute ht (dlen_Chute hg ht _)), ⟨(lend_Inlet ht (dlen_Inlet hg ht _)), (lend_I64 ht (dlen_I64 hg ht _))⟩⟩⟩ ?_
    cbv
    obtain ⟨x3, hx3, h⟩ := of_lP h
    try dsimp only at h
    refine ACall.mk _ _ (by rw [show rd (d_Item x2_Belt) 0 (dlen (d_Item x2_Belt)) = r_Item x2_Belt from rdw_Item hg ht (dlen_Item hg ht _), show rd (d_Chute x2_Chutes) 0 (dlen (d_Chute x2_Chutes)) = r_Chute x2_Chutes from rdw_Chute hg ht (dlen_Chute hg ht _), show rd (d_Inlet x2_Inlets) 0 (dlen (d_Inlet x2_Inlets)) = r_Inlet x2_Inlets from rdw_Inlet hg ht (dlen_Inlet hg ht _), show rd (d_I64 x2_Plan) 0 (dlen (d_I64 x2_Plan)) = r_I64 x2_Plan from rdw_I64 hg ht (dlen_I64 hg ht _)]; try rfl) (hF _ _ _ (c_S_CountWait hg ht hx3)) (.inr rfl) (Nat.le_of_ble_eq_true rfl) ?_
    cbv
    obtain ⟨x4, hx4, h⟩ := of_cl h
    obtain ⟨x4_Belt, x4_Chutes, x4_Inlets, x4_Plan, x4_Now⟩ := x4
    try dsimp only at h
    refine ACall.mk _ _ rfl (hF _ _ _ (c_L_toCentre hg ht hx4)) (.inl rfl) (Nat.le_of_ble_eq_true rfl) ?_
    cbv
    refine AStep.mk ⟨(lend_Item ht (dlen_Item hg ht _)), ⟨(lend_Chute ht (dlen_Chute hg ht _)), ⟨(lend_Inlet ht (dlen_Inlet hg ht _)), (lend_I64 ht (dlen_I64 hg ht _))⟩⟩⟩ ?_
    cbv
    obtain ⟨x5, hx5, h⟩ := of_lP h
    try dsimp only at h
    refine ACall.mk _ _ (by rw [show rd (d_Item x4_Belt) 0 (dlen (d_Item x4_Belt)) = r_Item x4_Belt from rdw_Item hg ht (dlen_Item hg ht _), show rd (d_Chute x4_Chutes) 0 (dlen (d_Chute x4_Chutes)) = r_Chute x4_Chutes from rdw_Chute hg ht (dlen_Chute hg ht _), show rd (d_Inlet x4_Inlets) 0 (dlen (d_Inlet x4_Inlets)) = r_Inlet x4_Inlets from rdw_Inlet hg ht (dlen_Inlet hg ht _), show rd (d_I64 x4_Plan) 0 (dlen (d_I64 x4_Plan)) = r_I64 x4_Plan from rdw_I64 hg ht (dlen_I64 hg ht _)]; try rfl) (hF _ _ _ (c_I_CountWait hg ht hx5)) (.inr rfl) (Nat.le_of_ble_eq_true rfl) ?_
    cbv
    cases hb2 : (eq x5 x3) with
    | true =>
      rw [br_true hb2] at h
      cbv
      obtain ⟨x6, hx6, h⟩ := of_cl h
      obtain ⟨x6_Belt, x6_Chutes, x6_Inlets, x6_Plan, x6_Now⟩ := x6
      try dsimp only at h
      refine ACall.mk _ _ rfl (hF _ _ _ (c_L_toCentre hg ht hx6)) (.inl rfl) (Nat.le_of_ble_eq_true rfl) ?_
      cbv
      refine AStep.mk ⟨⟨(lend_Item ht (dlen_Item hg ht _)), ⟨(lend_Chute ht (dlen_Chute hg ht _)), ⟨(lend_Inlet ht (dlen_Inlet hg ht _)), (lend_I64 ht (dlen_I64 hg ht _))⟩⟩⟩, ⟨(lend_Item ht (dlen_Item hg ht _)), ⟨(lend_Chute ht (dlen_Chute hg ht _)), ⟨(lend_Inlet ht (dlen_Inlet hg ht _)), (lend_I64 ht (dlen_I64 hg ht _))⟩⟩⟩⟩ ?_
      cbv
      obtain ⟨x7, hx7, h⟩ := of_cl h
      try dsimp only at h
      refine ACall.mk _ _ (by rw [show rd (d_Item x4_Belt) 0 (dlen (d_Item x4_Belt)) = r_Item x4_Belt from rdw_Item hg ht (dlen_Item hg ht _), show rd (d_Chute x4_Chutes) 0 (dlen (d_Chute x4_Chutes)) = r_Chute x4_Chutes from rdw_Chute hg ht (dlen_Chute hg ht _), show rd (d_Inlet x4_Inlets) 0 (dlen (d_Inlet x4_Inlets)) = r_Inlet x4_Inlets from rdw_Inlet hg ht (dlen_Inlet hg ht _), show rd (d_I64 x4_Plan) 0 (dlen (d_I64 x4_Plan)) = r_I64 x4_Plan from rdw_I64 hg ht (dlen_I64 hg ht _), show rd (d_Item x6_Belt) 0 (dlen (d_Item x6_Belt)) = r_Item x6_Belt from rdw_Item hg ht (dlen_Item hg ht _), show rd (d_Chute x6_Chutes) 0 (dlen (d_Chute x6_Chutes)) = r_Chute x6_Chutes from rdw_Chute hg ht (dlen_Chute hg ht _), show rd (d_Inlet x6_Inlets) 0 (dlen (d_Inlet x6_Inlets)) = r_Inlet x6_Inlets from rdw_Inlet hg ht (dlen_Inlet hg ht _), show rd (d_I64 x6_Plan) 0 (dlen (d_I64 x6_Plan)) = r_I64 x6_Plan from rdw_I64 hg ht (dlen_I64 hg ht _)]; try rfl) (hF _ _ _ (c_L_eqCentre hg ht hx7)) (.inr rfl) (Nat.le_of_ble_eq_true rfl) ?_
      cbv
      cases hb3 : x7 with
      | true =>
        rw [br_true hb3] at h
        cbv
        obtain rfl := Option.some.inj h
        exact ARet.mk trivial hX.symm
      | false =>
        rw [br_false hb3] at h
        cbv
        obtain rfl := Option.some.inj h
        exact ARet.mk trivial hX.symm
    | false =>
      rw [br_false hb2] at h
      cbv
      obtain rfl := Option.some.inj h
      exact ARet.mk trivial hX.symm
end Go.Vs
namespace Go.Vs
open Go.Proofs Go.IntWalk
set_option linter.unusedVariables false
set_option maxRecDepth 100000
set_option maxHeartbeats 4000000
def L_FnExactCountBelt (g : G) (t : TE) (a0 : Centre) : Option Bool :=
  lP (L_szCentre g t a0 1048576) fun x1 =>
  br (g.lt x1 0)
  (
   some true)
  (
   cl (L_toCentre g t a0) fun x2 =>
   lP (S_CountBelt g t x2) fun x3 =>
   cl (L_toCentre g t a0) fun x4 =>
   lP (I_CountBelt g t x4) fun x5 =>
   br (g.eq x5 x3)
   (
    cl (L_toCentre g t a0) fun x6 =>
    cl (L_eqCentre g t x4 x6) fun x7 =>
    br x7
    (
     some true)
    (
     some false))
   (
    some false))
theorem fit4 : codeFit Try.prog Try.f4.ntmps (Try.f4.body.getD .skip) ir4 = true := by kernel_rfl
theorem c_L_FnExactCountBelt {g : G} {t : TE} {a0 : Centre} {r : Bool} (hg : g = G.real) (ht : t = TE.real) (h : L_FnExactCountBelt g t a0 = some r) : Fn Try.prog 4 [.g (Centre.rs t a0)] (.c (.r (.v (.bool r)))) := by
  obtain ⟨X, hX⟩ := hide (.c (.r (.v (.bool r))) : X)
  rw [← hX]
  refine fn_of (rvs := rv4) (j := ir4) Try.func4 rfl fit4 (Nat.le_of_ble_eq_true rfl) (by kernel_rfl) prog_mixed ?_
  intro g2 F hg2 hF
  obtain rfl : g2 = g := hg2.unique.trans hg.symm
  clear hg2
  obtain ⟨wrap, lt, le, eq, quo, rem, band, bor, bxor, shl, shr, nat, int, add, sub, mul, cat, seq, slt, sub3, byte, llen, nadd, nsub, dlen, dapp, dset, drep, rd, rda, up, rsub, dsub, all, sle, slen⟩ := g2
  obtain ⟨r_Item, d_Item, r_Chute, d_Chute, r_Inlet, d_Inlet, r_I64, d_I64, r_U8, d_U8⟩ := t
  obtain ⟨a0_Belt, a0_Chutes, a0_Inlets, a0_Plan, a0_Now⟩ := a0
  unfold L_FnExactCountBelt at h
  try dsimp only at h
  cbv
  obtain ⟨x1, hx1, h⟩ := of_lP h
  try dsimp only at h
  refine ACall.mk _ _ rfl (hF _ _ _ (c_L_szCentre hg ht hx1)) (.inl rfl) (Nat.le_of_ble_eq_true rfl) ?_
  cbv
  cases hb1 : (lt x1 0) with
  | true =>
    rw [br_true hb1] at h
    cbv
    obtain rfl := Option.some.inj h
    exact ARet.mk trivial hX.symm
  | false =>
    rw [br_false hb1] at h
    cbv
    obtain ⟨x2, hx2, h⟩ := of_cl h
    obtain ⟨x2_Belt, x2_Chutes, x2_Inlets, x2_Plan, x2_Now⟩ := x2
    try dsimp only at h
    refine ACall.mk _ _ rfl (hF _ _ _ (c_L_toCentre hg ht hx2)) (.inl rfl) (Nat.le_of_ble_eq_true rfl) ?_
    cbv
    refine AStep.mk ⟨(lend_Item ht (dlen_Item hg ht _)), ⟨(lend_Chute ht (dlen_Chute hg ht _)), ⟨(lend_Inlet ht (dlen_Inlet hg ht _)), (lend_I64 ht (dlen_I64 hg ht _))⟩⟩⟩ ?_
    cbv
    obtain ⟨x3, hx3, h⟩ := of_lP h
    try dsimp only at h
    refine ACall.mk _ _ (by rw [show rd (d_Item x2_Belt) 0 (dlen (d_Item x2_Belt)) = r_Item x2_Belt from rdw_Item hg ht (dlen_Item hg ht _), show rd (d_Chute x2_Chutes) 0 (dlen (d_Chute x2_Chutes)) = r_Chute x2_Chutes from rdw_Chute hg ht (dlen_Chute hg ht _), show rd (d_Inlet x2_Inlets) 0 (dlen (d_Inlet x2_Inlets)) = r_Inlet x2_Inlets from rdw_Inlet hg ht (dlen_Inlet hg ht _), show rd (d_I64 x2_Plan) 0 (dlen (d_I64 x2_Plan)) = r_I64 x2_Plan from rdw_I64 hg ht (dlen_I64 hg ht _)]; try rfl) (hF _ _ _ (c_S_CountBelt hg ht hx3)) (.inr rfl) (Nat.le_of_ble_eq_true rfl) ?_
    cbv
    obtain ⟨x4, hx4, h⟩ := of_cl h
    obtain ⟨x4_Belt, x4_Chutes, x4_Inlets, x4_Plan, x4_Now⟩ := x4
    try dsimp only at h
    refine ACall.mk _ _ rfl (hF _ _ _ (c_L_toCentre hg ht hx4)) (.inl rfl) (Nat.le_of_ble_eq_true rfl) ?_
    cbv
    refine AStep.mk ⟨(lend_Item ht (dlen_Item hg ht _)), ⟨(lend_Chute ht (dlen_Chute hg ht _)), ⟨(lend_Inlet ht (dlen_Inlet hg ht _)), (lend_I64 ht (dlen_I64 hg ht _))⟩⟩⟩ ?_
    cbv
    obtain ⟨x5, hx5, h⟩ := of_lP h
    try dsimp only at h
    refine ACall.mk _ _ (by rw [show rd (d_Item x4_Belt) 0 (dlen (d_Item x4_Belt)) = r_Item x4_Belt from rdw_Item hg ht (dlen_Item hg ht _), show rd (d_Chute x4_Chutes) 0 (dlen (d_Chute x4_Chutes)) = r_Chute x4_Chutes from rdw_Chute hg ht (dlen_Chute hg ht _), show rd (d_Inlet x4_Inlets) 0 (dlen (d_Inlet x4_Inlets)) = r_Inlet x4_Inlets from rdw_Inlet hg ht (dlen_Inlet hg ht _), show rd (d_I64 x4_Plan) 0 (dlen (d_I64 x4_Plan)) = r_I64 x4_Plan from rdw_I64 hg ht (dlen_I64 hg ht _)]; try rfl) (hF _ _ _ (c_I_CountBelt hg ht hx5)) (.inr rfl) (Nat.le_of_ble_eq_true rfl) ?_
    cbv
    cases hb2 : (eq x5 x3) with
    | true =>
      rw [br_true hb2] at h
      cbv
      obtain ⟨x6, hx6, h⟩ := of_cl h
      obtain ⟨x6_Belt, x6_Chutes, x6_Inlets, x6_Plan, x6_Now⟩ := x6
      try dsimp only at h
      refine ACall.mk _ _ rfl (hF _ _ _ (c_L_toCentre hg ht hx6)) (.inl rfl) (Nat.le_of_ble_eq_true rfl) ?_
      cbv
      refine AStep.mk ⟨⟨(lend_Item ht (dlen_Item hg ht _)), ⟨(lend_Chute ht (dlen_Chute hg ht _)), ⟨(lend_Inlet ht (dlen_Inlet hg ht _)), (lend_I64 ht (dlen_I64 hg ht _))⟩⟩⟩, ⟨(lend_Item ht (dlen_Item hg ht _)), ⟨(lend_Chute ht (dlen_Chute hg ht _)), ⟨(lend_Inlet ht (dlen_Inlet hg ht _)), (lend_I64 ht (dlen_I64 hg ht _))⟩⟩⟩⟩ ?_
      cbv
      obtain ⟨x7, hx7, h⟩ := of_cl h
      try dsimp only at h
      refine ACall.mk _ _ (by rw [show rd (d_Item x4_Belt) 0 (dlen (d_Item x4_Belt)) = r_Item x4_Belt from rdw_Item hg ht (dlen_Item hg ht _), show rd (d_Chute x4_Chutes) 0 (dlen (d_Chute x4_Chutes)) = r_Chute x4_Chutes from rdw_Chute hg ht (dlen_Chute hg ht _), show rd (d_Inlet x4_Inlets) 0 (dlen (d_Inlet x4_Inlets)) = r_Inlet x4_Inlets from rdw_Inlet hg ht (dlen_Inlet hg ht _), show rd (d_I64 x4_Plan) 0 (dlen (d_I64 x4_Plan)) = r_I64 x4_Plan from rdw_I64 hg ht (dlen_I64 hg ht _), show rd (d_Item x6_Belt) 0 (dlen (d_Item x6_Belt)) = r_Item x6_Belt from rdw_Item hg ht (dlen_Item hg ht _), show rd (d_Chute x6_Chutes) 0 (dlen (d_Chute x6_Chutes)) = r_Chute x6_Chutes from rdw_Chute hg ht (dlen_Chute hg ht _), show rd (d_Inlet x6_Inlets) 0 (dlen (d_Inlet x6_Inlets)) = r_Inlet x6_Inlets from rdw_Inlet hg ht (dlen_Inlet hg ht _), show rd (d_I64 x6_Plan) 0 (dlen (d_I64 x6_Plan)) = r_I64 x6_Plan from rdw_I64 hg ht (dlen_I64 hg ht _)]; try rfl) (hF _ _ _ (c_L_eqCentre hg ht hx7)) (.inr rfl) (Nat.le_of_ble_eq_true rfl) ?_
      cbv
      cases hb3 : x7 with
      | true =>
        rw [br_true hb3] at h
        cbv
        obtain rfl := Option.some.inj h
        exact ARet.mk trivial hX.symm
      | false =>
        rw [br_false hb3] at h
        cbv
        obtain rfl := Option.some.inj h
        exact ARet.mk trivial hX.symm
    | false =>
      rw [br_false hb2] at h
      cbv
      obtain rfl := Option.some.inj h
      exact ARet.mk trivial hX.symm
end Go.Vs
