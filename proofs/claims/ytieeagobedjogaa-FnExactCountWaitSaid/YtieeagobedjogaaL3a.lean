/- Part of the proofs of this seat's laws: L3a. No condition. -/
import Derived.Test.YtieeagobedjogaaTy
import Derived.Test.YtieeagobedjogaaTIRall
import Derived.Test.YtieeagobedjogaaL2a
import Derived.Test.YtieeagobedjogaaL1a
import Derived.Test.YtieeagobedjogaaL1b
import Derived.Test.YtieeagobedjogaaL2b
set_option linter.unusedVariables false
set_option linter.unusedSimpArgs false
set_option linter.unusedSectionVars false
namespace Go.Vs
open Go.Proofs Go.IntWalk
set_option linter.unusedVariables false
set_option maxRecDepth 100000
set_option maxHeartbeats 4000000
def L_szChuteS_l1 (g : G) (t : TE) : List Chute → Int → LR Int Int
  | [], v1 =>
    (LR.out v1)
  | z1 :: ls1, v1 =>
    lP (L_szChute g t z1 v1) fun x1 =>
    br (g.lt x1 0)
    (
     (LR.ret (-1)))
    (
     L_szChuteS_l1 g t ls1 x1)
def L_szChuteS (g : G) (t : TE) (a0 : List Chute) (a1 : Int) : Int :=
  br (g.lt (g.wrap .i64 (g.sub a1 (g.llen (t.r_Chute a0)))) 0)
  (
   (-1))
  (
   lP (L_szChuteS_l1 g t a0 (g.wrap .i64 (g.sub a1 (g.llen (t.r_Chute a0))))) fun o1 => lrp o1 fun y1 =>
   y1)
theorem fit77 : codeFit Try.prog Try.f77.ntmps (Try.f77.body.getD .skip) ir77 = true := by kernel_rfl
theorem c_L_szChuteS {g : G} {t : TE} {a0 : List Chute} {a1 : Int} {r : Int} (hg : g = G.real) (ht : t = TE.real) (h : L_szChuteS g t a0 a1 = r) : Fn Try.prog 77 [.c (.s 3 (t.r_Chute a0)), .c (.v (.int .i64 a1))] (.c (.r (.v (.int .i64 r)))) := by
  obtain ⟨X, hX⟩ := hide (.c (.r (.v (.int .i64 r))) : X)
  rw [← hX]
  refine fn_of (rvs := rv77) (j := ir77) Try.func77 rfl fit77 (Nat.le_of_ble_eq_true rfl) (by kernel_rfl) prog_mixed ?_
  intro g2 F hg2 hF
  obtain rfl : g2 = g := hg2.unique.trans hg.symm
  clear hg2
  obtain ⟨wrap, lt, le, eq, quo, rem, band, bor, bxor, shl, shr, nat, int, add, sub, mul, cat, seq, slt, sub3, byte, llen, nadd, nsub, dlen, dapp, dset, drep, rd, rda, up, rsub, dsub, all, sle, slen⟩ := g2
  obtain ⟨r_Item, d_Item, r_Chute, d_Chute, r_Inlet, d_Inlet, r_I64, d_I64, r_U8, d_U8⟩ := t
  unfold L_szChuteS at h
  try dsimp only at h
  cbv
  cases hb1 : (lt (wrap .i64 (sub a1 (llen (r_Chute a0)))) 0) with
  | true =>
    rw [br_true hb1] at h
    cbv
    subst h
    exact ARet.mk trivial hX.symm
  | false =>
    rw [br_false hb1] at h
    cbv
    obtain ⟨o1, ho1, h⟩ := of_lP h
    try dsimp only at h
    try rw [hg] at ho1
    try rw [ht] at ho1
    refine ABL.mk { p : Nat × Int × Int // p.1 ≤ a0.length ∧ p.2.1 = ((p.1 : Nat) : Int) ∧ L_szChuteS_l1 G.real TE.real (List.drop p.1 a0) p.2.2 = o1 } (fun ⟨⟨k1, v2, v1⟩, _⟩ => ({ sl := [(0, .c (.r (.s 3 (r_Chute a0)))), (1, .c (.r (.v (.int .i64 v1)))), (5, .c (.r (.v (.int .i64 v2))))], tab := [] } : St)) 0 (fun p => a0.length - p.1.1) ⟨(0, 0, (wrap .i64 (sub a1 (llen (r_Chute a0))))), Nat.zero_le _, rfl, ho1⟩ (Int) (fun y1 => ({ sl := [(1, .c (.r (.v (.int .i64 y1))))], tab := [] } : St)) 0 (fun y => o1 = LR.out y) ?_ ?_ ?_
    · refine Wk.of [] rfl rfl ?_ ?_
      · cbv
        all_goals exact ⟨⟨_, rfl, rfl⟩, ⟨_, rfl, rfl⟩, ⟨_, rfl, rfl⟩, trivial⟩
      · cbv
        all_goals exact trivial
    · rintro ⟨⟨k1, v2, v1⟩, hk1, hi1, h_1⟩ hq1
      have hm1 := (hq1.1 0 _ _ rfl)
      try dsimp only at hk1 hi1 h_1
      clear hq1
      cbv
      by_cases hc1_ : k1 < a0.length
      · have hb2 : lt v2 (llen (r_Chute a0)) = true := ltL_true_Chute hg ht hi1 hc1_
        have hs1 := stepL_Chute hg ht hi1 hc1_ hm1
        obtain ⟨z1, hz1⟩ := some_of_lt hc1_
        rw [drop_of_some hz1] at h_1
        rw [L_szChuteS_l1] at h_1
        obtain ⟨z1_Cell, z1_Room, z1_Held⟩ := z1
        try rw [← hg] at h_1
        try rw [← ht] at h_1
        try dsimp only at h_1
        rw [hb2]
        cbv
        refine AStep.mk (nn_L hi1) ?_
        cbv
        refine AGet.mk _ (r_getL_Chute hg ht hi1 hz1) ?_
        cbv
        obtain ⟨x1, hx1, h_1⟩ := of_lP h_1
        try dsimp only at h_1
        refine ACall.mk _ _ rfl (hF _ _ _ (c_L_szChute hg ht hx1)) (.inl rfl) (Nat.le_of_ble_eq_true rfl) ?_
        cbv
        cases hb3 : (lt x1 0) with
        | true =>
          rw [br_true hb3] at h_1
          cbv
          subst h_1
          try dsimp only [lr, lrL, lrp, lrpL] at h
          subst h
          exact ARet.mk trivial hX.symm
        | false =>
          rw [br_false hb3] at h_1
          cbv
          try rw [hg] at h_1
          try rw [ht] at h_1
          refine ⟨⟨(k1 + 1, (wrap .i64 (add v2 1)), x1), hc1_, hs1, h_1⟩, Wk.of [] rfl rfl ?_ ?_, meas_L hc1_⟩
          · cbv
            all_goals exact ⟨⟨_, rfl, rfl⟩, ⟨_, rfl, rfl⟩, ⟨_, rfl, rfl⟩, trivial⟩
          · cbv
            all_goals exact trivial
      · have hb2 : lt v2 (llen (r_Chute a0)) = false := ltL_false_Chute hg ht hi1 hc1_
        rw [List.drop_of_length_le (Nat.le_of_not_lt hc1_)] at h_1
        rw [L_szChuteS_l1] at h_1
        try rw [← hg] at h_1
        try rw [← ht] at h_1
        try dsimp only at h_1
        rw [hb2]
        cbv
        refine ⟨v1, Wk.of [] rfl rfl ?_ ?_, h_1.symm⟩
        · cbv
          all_goals exact ⟨⟨_, rfl, rfl⟩, trivial⟩
        · cbv
          all_goals exact trivial
    · rintro y1 hy1
      replace hy1 := hy1.symm
      subst hy1
      try dsimp only [lr, lrL, lrp, lrpL] at h
      cbv
      subst h
      exact ARet.mk trivial hX.symm
end Go.Vs
namespace Go.Vs
open Go.Proofs Go.IntWalk
set_option linter.unusedVariables false
set_option maxRecDepth 100000
set_option maxHeartbeats 4000000
def L_szInletS_l1 (g : G) (t : TE) : List Inlet → Int → LR Int Int
  | [], v1 =>
    (LR.out v1)
  | z1 :: ls1, v1 =>
    lP (L_szInlet g t z1 v1) fun x1 =>
    br (g.lt x1 0)
    (
     (LR.ret (-1)))
    (
     L_szInletS_l1 g t ls1 x1)
def L_szInletS (g : G) (t : TE) (a0 : List Inlet) (a1 : Int) : Int :=
  br (g.lt (g.wrap .i64 (g.sub a1 (g.llen (t.r_Inlet a0)))) 0)
  (
   (-1))
  (
   lP (L_szInletS_l1 g t a0 (g.wrap .i64 (g.sub a1 (g.llen (t.r_Inlet a0))))) fun o1 => lrp o1 fun y1 =>
   y1)
theorem fit78 : codeFit Try.prog Try.f78.ntmps (Try.f78.body.getD .skip) ir78 = true := by kernel_rfl
theorem c_L_szInletS {g : G} {t : TE} {a0 : List Inlet} {a1 : Int} {r : Int} (hg : g = G.real) (ht : t = TE.real) (h : L_szInletS g t a0 a1 = r) : Fn Try.prog 78 [.c (.s 2 (t.r_Inlet a0)), .c (.v (.int .i64 a1))] (.c (.r (.v (.int .i64 r)))) := by
  obtain ⟨X, hX⟩ := hide (.c (.r (.v (.int .i64 r))) : X)
  rw [← hX]
  refine fn_of (rvs := rv78) (j := ir78) Try.func78 rfl fit78 (Nat.le_of_ble_eq_true rfl) (by kernel_rfl) prog_mixed ?_
  intro g2 F hg2 hF
  obtain rfl : g2 = g := hg2.unique.trans hg.symm
  clear hg2
  obtain ⟨wrap, lt, le, eq, quo, rem, band, bor, bxor, shl, shr, nat, int, add, sub, mul, cat, seq, slt, sub3, byte, llen, nadd, nsub, dlen, dapp, dset, drep, rd, rda, up, rsub, dsub, all, sle, slen⟩ := g2
  obtain ⟨r_Item, d_Item, r_Chute, d_Chute, r_Inlet, d_Inlet, r_I64, d_I64, r_U8, d_U8⟩ := t
  unfold L_szInletS at h
  try dsimp only at h
  cbv
  cases hb1 : (lt (wrap .i64 (sub a1 (llen (r_Inlet a0)))) 0) with
  | true =>
    rw [br_true hb1] at h
    cbv
    subst h
    exact ARet.mk trivial hX.symm
  | false =>
    rw [br_false hb1] at h
    cbv
    obtain ⟨o1, ho1, h⟩ := of_lP h
    try dsimp only at h
    try rw [hg] at ho1
    try rw [ht] at ho1
    refine ABL.mk { p : Nat × Int × Int // p.1 ≤ a0.length ∧ p.2.1 = ((p.1 : Nat) : Int) ∧ L_szInletS_l1 G.real TE.real (List.drop p.1 a0) p.2.2 = o1 } (fun ⟨⟨k1, v2, v1⟩, _⟩ => ({ sl := [(0, .c (.r (.s 2 (r_Inlet a0)))), (1, .c (.r (.v (.int .i64 v1)))), (5, .c (.r (.v (.int .i64 v2))))], tab := [] } : St)) 0 (fun p => a0.length - p.1.1) ⟨(0, 0, (wrap .i64 (sub a1 (llen (r_Inlet a0))))), Nat.zero_le _, rfl, ho1⟩ (Int) (fun y1 => ({ sl := [(1, .c (.r (.v (.int .i64 y1))))], tab := [] } : St)) 0 (fun y => o1 = LR.out y) ?_ ?_ ?_
    · refine Wk.of [] rfl rfl ?_ ?_
      · cbv
        all_goals exact ⟨⟨_, rfl, rfl⟩, ⟨_, rfl, rfl⟩, ⟨_, rfl, rfl⟩, trivial⟩
      · cbv
        all_goals exact trivial
    · rintro ⟨⟨k1, v2, v1⟩, hk1, hi1, h_1⟩ hq1
      have hm1 := (hq1.1 0 _ _ rfl)
      try dsimp only at hk1 hi1 h_1
      clear hq1
      cbv
      by_cases hc1_ : k1 < a0.length
      · have hb2 : lt v2 (llen (r_Inlet a0)) = true := ltL_true_Inlet hg ht hi1 hc1_
        have hs1 := stepL_Inlet hg ht hi1 hc1_ hm1
        obtain ⟨z1, hz1⟩ := some_of_lt hc1_
        rw [drop_of_some hz1] at h_1
        rw [L_szInletS_l1] at h_1
        obtain ⟨z1_Cell, z1_Wait⟩ := z1
        try rw [← hg] at h_1
        try rw [← ht] at h_1
        try dsimp only at h_1
        rw [hb2]
        cbv
        refine AStep.mk (nn_L hi1) ?_
        cbv
        refine AGet.mk _ (r_getL_Inlet hg ht hi1 hz1) ?_
        cbv
        obtain ⟨x1, hx1, h_1⟩ := of_lP h_1
        try dsimp only at h_1
        refine ACall.mk _ _ rfl (hF _ _ _ (c_L_szInlet hg ht hx1)) (.inl rfl) (Nat.le_of_ble_eq_true rfl) ?_
        cbv
        cases hb3 : (lt x1 0) with
        | true =>
          rw [br_true hb3] at h_1
          cbv
          subst h_1
          try dsimp only [lr, lrL, lrp, lrpL] at h
          subst h
          exact ARet.mk trivial hX.symm
        | false =>
          rw [br_false hb3] at h_1
          cbv
          try rw [hg] at h_1
          try rw [ht] at h_1
          refine ⟨⟨(k1 + 1, (wrap .i64 (add v2 1)), x1), hc1_, hs1, h_1⟩, Wk.of [] rfl rfl ?_ ?_, meas_L hc1_⟩
          · cbv
            all_goals exact ⟨⟨_, rfl, rfl⟩, ⟨_, rfl, rfl⟩, ⟨_, rfl, rfl⟩, trivial⟩
          · cbv
            all_goals exact trivial
      · have hb2 : lt v2 (llen (r_Inlet a0)) = false := ltL_false_Inlet hg ht hi1 hc1_
        rw [List.drop_of_length_le (Nat.le_of_not_lt hc1_)] at h_1
        rw [L_szInletS_l1] at h_1
        try rw [← hg] at h_1
        try rw [← ht] at h_1
        try dsimp only at h_1
        rw [hb2]
        cbv
        refine ⟨v1, Wk.of [] rfl rfl ?_ ?_, h_1.symm⟩
        · cbv
          all_goals exact ⟨⟨_, rfl, rfl⟩, trivial⟩
        · cbv
          all_goals exact trivial
    · rintro y1 hy1
      replace hy1 := hy1.symm
      subst hy1
      try dsimp only [lr, lrL, lrp, lrpL] at h
      cbv
      subst h
      exact ARet.mk trivial hX.symm
end Go.Vs
namespace Go.Vs
open Go.Proofs Go.IntWalk
set_option linter.unusedVariables false
set_option maxRecDepth 100000
set_option maxHeartbeats 4000000
def L_toChute (g : G) (t : TE) (a0 : Chute) : Option Chute :=
  cl (L_toItemS g t a0.Held) fun x1 =>
  some (Chute.mk a0.Cell a0.Room x1)
theorem fit114 : codeFit Try.prog Try.f114.ntmps (Try.f114.body.getD .skip) ir114 = true := by kernel_rfl
theorem c_L_toChute {g : G} {t : TE} {a0 : Chute} {r : Chute} (hg : g = G.real) (ht : t = TE.real) (h : L_toChute g t a0 = some r) : Fn Try.prog 114 [.g (Chute.rs t a0)] (.g (Chute.ds t r)) := by
  obtain ⟨X, hX⟩ := hide (.g (Chute.ds t r) : X)
  rw [← hX]
  refine fn_of (rvs := rv114) (j := ir114) Try.func114 rfl fit114 (Nat.le_of_ble_eq_true rfl) (by kernel_rfl) prog_mixed ?_
  intro g2 F hg2 hF
  obtain rfl : g2 = g := hg2.unique.trans hg.symm
  clear hg2
  obtain ⟨wrap, lt, le, eq, quo, rem, band, bor, bxor, shl, shr, nat, int, add, sub, mul, cat, seq, slt, sub3, byte, llen, nadd, nsub, dlen, dapp, dset, drep, rd, rda, up, rsub, dsub, all, sle, slen⟩ := g2
  obtain ⟨r_Item, d_Item, r_Chute, d_Chute, r_Inlet, d_Inlet, r_I64, d_I64, r_U8, d_U8⟩ := t
  obtain ⟨a0_Cell, a0_Room, a0_Held⟩ := a0
  unfold L_toChute at h
  try dsimp only at h
  cbv
  obtain ⟨x1, hx1, h⟩ := of_cl h
  try dsimp only at h
  refine ACall.mk _ _ rfl (hF _ _ _ (c_L_toItemS hg ht hx1)) (.inl rfl) (Nat.le_of_ble_eq_true rfl) ?_
  cbv
  obtain rfl := Option.some.inj h
  exact ARet.mk ⟨rfl, (dlen_Item hg ht _)⟩ hX.symm
end Go.Vs
namespace Go.Vs
open Go.Proofs Go.IntWalk
set_option linter.unusedVariables false
set_option maxRecDepth 100000
set_option maxHeartbeats 4000000
def L_toInlet (g : G) (t : TE) (a0 : Inlet) : Option Inlet :=
  cl (L_toItemS g t a0.Wait) fun x1 =>
  some (Inlet.mk a0.Cell x1)
theorem fit115 : codeFit Try.prog Try.f115.ntmps (Try.f115.body.getD .skip) ir115 = true := by kernel_rfl
theorem c_L_toInlet {g : G} {t : TE} {a0 : Inlet} {r : Inlet} (hg : g = G.real) (ht : t = TE.real) (h : L_toInlet g t a0 = some r) : Fn Try.prog 115 [.g (Inlet.rs t a0)] (.g (Inlet.ds t r)) := by
  obtain ⟨X, hX⟩ := hide (.g (Inlet.ds t r) : X)
  rw [← hX]
  refine fn_of (rvs := rv115) (j := ir115) Try.func115 rfl fit115 (Nat.le_of_ble_eq_true rfl) (by kernel_rfl) prog_mixed ?_
  intro g2 F hg2 hF
  obtain rfl : g2 = g := hg2.unique.trans hg.symm
  clear hg2
  obtain ⟨wrap, lt, le, eq, quo, rem, band, bor, bxor, shl, shr, nat, int, add, sub, mul, cat, seq, slt, sub3, byte, llen, nadd, nsub, dlen, dapp, dset, drep, rd, rda, up, rsub, dsub, all, sle, slen⟩ := g2
  obtain ⟨r_Item, d_Item, r_Chute, d_Chute, r_Inlet, d_Inlet, r_I64, d_I64, r_U8, d_U8⟩ := t
  obtain ⟨a0_Cell, a0_Wait⟩ := a0
  unfold L_toInlet at h
  try dsimp only at h
  cbv
  obtain ⟨x1, hx1, h⟩ := of_cl h
  try dsimp only at h
  refine ACall.mk _ _ rfl (hF _ _ _ (c_L_toItemS hg ht hx1)) (.inl rfl) (Nat.le_of_ble_eq_true rfl) ?_
  cbv
  obtain rfl := Option.some.inj h
  exact ARet.mk ⟨rfl, (dlen_Item hg ht _)⟩ hX.symm
end Go.Vs
namespace Go.Vs
open Go.Proofs Go.IntWalk
set_option linter.unusedVariables false
set_option maxRecDepth 100000
set_option maxHeartbeats 4000000
def L_eqChute (g : G) (t : TE) (a0 : Chute) (a1 : Chute) : Option Bool :=
  br (g.eq a0.Cell a1.Cell)
  (
   br (g.eq a0.Room a1.Room)
   (
    cl (L_eqItemS g t a0.Held a1.Held) fun x1 =>
    br x1
    (
     some true)
    (
     some false))
   (
    some false))
  (
   some false)
theorem fit116 : codeFit Try.prog Try.f116.ntmps (Try.f116.body.getD .skip) ir116 = true := by kernel_rfl
theorem c_L_eqChute {g : G} {t : TE} {a0 : Chute} {a1 : Chute} {r : Bool} (hg : g = G.real) (ht : t = TE.real) (h : L_eqChute g t a0 a1 = some r) : Fn Try.prog 116 [.g (Chute.rs t a0), .g (Chute.rs t a1)] (.c (.r (.v (.bool r)))) := by
  obtain ⟨X, hX⟩ := hide (.c (.r (.v (.bool r))) : X)
  rw [← hX]
  refine fn_of (rvs := rv116) (j := ir116) Try.func116 rfl fit116 (Nat.le_of_ble_eq_true rfl) (by kernel_rfl) prog_mixed ?_
  intro g2 F hg2 hF
  obtain rfl : g2 = g := hg2.unique.trans hg.symm
  clear hg2
  obtain ⟨wrap, lt, le, eq, quo, rem, band, bor, bxor, shl, shr, nat, int, add, sub, mul, cat, seq, slt, sub3, byte, llen, nadd, nsub, dlen, dapp, dset, drep, rd, rda, up, rsub, dsub, all, sle, slen⟩ := g2
  obtain ⟨r_Item, d_Item, r_Chute, d_Chute, r_Inlet, d_Inlet, r_I64, d_I64, r_U8, d_U8⟩ := t
  obtain ⟨a0_Cell, a0_Room, a0_Held⟩ := a0
  obtain ⟨a1_Cell, a1_Room, a1_Held⟩ := a1
  unfold L_eqChute at h
  try dsimp only at h
  cbv
  cases hb1 : (eq a0_Cell a1_Cell) with
  | true =>
    rw [br_true hb1] at h
    cbv
    cases hb2 : (eq a0_Room a1_Room) with
    | true =>
      rw [br_true hb2] at h
      cbv
      obtain ⟨x1, hx1, h⟩ := of_cl h
      try dsimp only at h
      refine ACall.mk _ _ rfl (hF _ _ _ (c_L_eqItemS hg ht hx1)) (.inl rfl) (Nat.le_of_ble_eq_true rfl) ?_
      cbv
      cases hb3 : x1 with
      | true =>
        rw [br_true hb3] at h
        cbv
        obtain rfl := Option.some.inj h
        exact ARet.mk trivial hX.symm
      | false =>
        rw [br_false hb3] at h
        cbv
        obtain rfl := Option.some.inj h
        exact ARet.mk trivial hX.symm
    | false =>
      rw [br_false hb2] at h
      cbv
      obtain rfl := Option.some.inj h
      exact ARet.mk trivial hX.symm
  | false =>
    rw [br_false hb1] at h
    cbv
    obtain rfl := Option.some.inj h
    exact ARet.mk trivial hX.symm
end Go.Vs
namespace Go.Vs
open Go.Proofs Go.IntWalk
set_option linter.unusedVariables false
set_option maxRecDepth 100000
set_option maxHeartbeats 4000000
def L_eqInlet (g : G) (t : TE) (a0 : Inlet) (a1 : Inlet) : Option Bool :=
  br (g.eq a0.Cell a1.Cell)
  (
   cl (L_eqItemS g t a0.Wait a1.Wait) fun x1 =>
   br x1
   (
    some true)
   (
    some false))
  (
   some false)
theorem fit117 : codeFit Try.prog Try.f117.ntmps (Try.f117.body.getD .skip) ir117 = true := by kernel_rfl
theorem c_L_eqInlet {g : G} {t : TE} {a0 : Inlet} {a1 : Inlet} {r : Bool} (hg : g = G.real) (ht : t = TE.real) (h : L_eqInlet g t a0 a1 = some r) : Fn Try.prog 117 [.g (Inlet.rs t a0), .g (Inlet.rs t a1)] (.c (.r (.v (.bool r)))) := by
  obtain ⟨X, hX⟩ := hide (.c (.r (.v (.bool r))) : X)
  rw [← hX]
  refine fn_of (rvs := rv117) (j := ir117) Try.func117 rfl fit117 (Nat.le_of_ble_eq_true rfl) (by kernel_rfl) prog_mixed ?_
  intro g2 F hg2 hF
  obtain rfl : g2 = g := hg2.unique.trans hg.symm
  clear hg2
  obtain ⟨wrap, lt, le, eq, quo, rem, band, bor, bxor, shl, shr, nat, int, add, sub, mul, cat, seq, slt, sub3, byte, llen, nadd, nsub, dlen, dapp, dset, drep, rd, rda, up, rsub, dsub, all, sle, slen⟩ := g2
  obtain ⟨r_Item, d_Item, r_Chute, d_Chute, r_Inlet, d_Inlet, r_I64, d_I64, r_U8, d_U8⟩ := t
  obtain ⟨a0_Cell, a0_Wait⟩ := a0
  obtain ⟨a1_Cell, a1_Wait⟩ := a1
  unfold L_eqInlet at h
  try dsimp only at h
  cbv
  cases hb1 : (eq a0_Cell a1_Cell) with
  | true =>
    rw [br_true hb1] at h
    cbv
    obtain ⟨x1, hx1, h⟩ := of_cl h
    try dsimp only at h
    refine ACall.mk _ _ rfl (hF _ _ _ (c_L_eqItemS hg ht hx1)) (.inl rfl) (Nat.le_of_ble_eq_true rfl) ?_
    cbv
    cases hb2 : x1 with
    | true =>
      rw [br_true hb2] at h
      cbv
      obtain rfl := Option.some.inj h
      exact ARet.mk trivial hX.symm
    | false =>
      rw [br_false hb2] at h
      cbv
      obtain rfl := Option.some.inj h
      exact ARet.mk trivial hX.symm
  | false =>
    rw [br_false hb1] at h
    cbv
    obtain rfl := Option.some.inj h
    exact ARet.mk trivial hX.symm
end Go.Vs
namespace Go.Vs
open Go.Proofs Go.IntWalk
set_option linter.unusedVariables false
set_option maxRecDepth 100000
set_option maxHeartbeats 4000000
def S_IsCentre_l2 (g : G) (t : TE) (x4 : List Item) (x5 : Item) : Nat → Int → Option (LR Bool Unit)
  | 0, v2 =>
    some (LR.out ())
  | n2 + 1, v2 =>
    gd ((0 ≤ v2 ∧ v2 < (((g.dlen (t.d_Item x4)) : Nat) : Int))) <|
    gt x4 (g.nat v2) fun x7 =>
    br (g.eq x7.Id x5.Id)
    (
     some (LR.ret false))
    (
     S_IsCentre_l2 g t x4 x5 n2 (g.wrap .i64 (g.add v2 1)))
def S_IsCentre_l1 (g : G) (t : TE) (a0 : Centre) (x4 : List Item) : Nat → Int → Option (LR Bool Unit)
  | 0, v1 =>
    some (LR.out ())
  | n1 + 1, v1 =>
    gt x4 (g.nat v1) fun x5 =>
    lP (S_l7Item g t x5 a0.Plan) fun x6 =>
    br x6
    (
     gd ((v1 ≤ 4611686018427387904)) <|
     cl (S_IsCentre_l2 g t x4 x5 (cntLt 0 v1) 0) fun o2 => lrL o2 fun y1 =>
     S_IsCentre_l1 g t a0 x4 n1 (g.wrap .i64 (g.add v1 1)))
    (
     some (LR.ret false))
def S_IsCentre (g : G) (t : TE) (a0 : Centre) : Option Bool :=
  lP (S_l1In g t (g.llen (t.r_Item a0.Belt)) 2 24) fun x1 =>
  br x1
  (
   cl (S_l7Parts g t a0) fun x2 =>
   br x2
   (
    lP (S_l1In g t a0.Now 0 100000) fun x3 =>
    br x3
    (
     cl (S_l7All g t a0) fun x4 =>
     gd (((g.int (g.dlen (t.d_Item x4))) ≤ 4611686018427387904)) <|
     cl (S_IsCentre_l1 g t a0 x4 (cntLt 0 (g.int (g.dlen (t.d_Item x4)))) 0) fun o1 => lr o1 fun y2 =>
     some true)
    (
     some false))
   (
    some false))
  (
   some false)
theorem fit31 : codeFit Try.prog Try.f31.ntmps (Try.f31.body.getD .skip) ir31 = true := by kernel_rfl
theorem c_S_IsCentre {g : G} {t : TE} {a0 : Centre} {r : Bool} (hg : g = G.real) (ht : t = TE.real) (h : S_IsCentre g t a0 = some r) : Fn Try.prog 31 [.g (Centre.rs t a0)] (.c (.r (.v (.bool r)))) := by
  obtain ⟨X, hX⟩ := hide (.c (.r (.v (.bool r))) : X)
  rw [← hX]
  refine fn_of (rvs := rv31) (j := ir31) Try.func31 rfl fit31 (Nat.le_of_ble_eq_true rfl) (by kernel_rfl) prog_mixed ?_
  intro g2 F hg2 hF
  obtain rfl : g2 = g := hg2.unique.trans hg.symm
  clear hg2
  obtain ⟨wrap, lt, le, eq, quo, rem, band, bor, bxor, shl, shr, nat, int, add, sub, mul, cat, seq, slt, sub3, byte, llen, nadd, nsub, dlen, dapp, dset, drep, rd, rda, up, rsub, dsub, all, sle, slen⟩ := g2
  obtain ⟨r_Item, d_Item, r_Chute, d_Chute, r_Inlet, d_Inlet, r_I64, d_I64, r_U8, d_U8⟩ := t
  obtain ⟨a0_Belt, a0_Chutes, a0_Inlets, a0_Plan, a0_Now⟩ := a0
  unfold S_IsCentre at h
  try dsimp only at h
  cbv
  obtain ⟨x1, hx1, h⟩ := of_lP h
  try dsimp only at h
  refine ACall.mk _ _ rfl (hF _ _ _ (c_S_l1In hg ht hx1)) (.inl rfl) (Nat.le_of_ble_eq_true rfl) ?_
  cbv
  cases hb1 : x1 with
  | true =>
    rw [br_true hb1] at h
    cbv
    try (rw [hb1]; cbv)
    obtain ⟨x2, hx2, h⟩ := of_cl h
    try dsimp only at h
    refine ACall.mk _ _ rfl (hF _ _ _ (c_S_l7Parts hg ht hx2)) (.inl rfl) (Nat.le_of_ble_eq_true rfl) ?_
    cbv
    try (rw [hb1]; cbv)
    try (rw [hb1]; cbv)
    cases hb2 : x2 with
    | true =>
      rw [br_true hb2] at h
      cbv
      try (rw [hb2]; cbv)
      try (rw [hb2]; cbv)
      obtain ⟨x3, hx3, h⟩ := of_lP h
      try dsimp only at h
      refine ACall.mk _ _ rfl (hF _ _ _ (c_S_l1In hg ht hx3)) (.inl rfl) (Nat.le_of_ble_eq_true rfl) ?_
      cbv
      try (rw [hb2]; cbv)
      try (rw [hb2]; cbv)
      cases hb3 : x3 with
      | true =>
        rw [br_true hb3] at h
        cbv
        obtain ⟨x4, hx4, h⟩ := of_cl h
        try dsimp only at h
        refine ACall.mk _ _ rfl (hF _ _ _ (c_S_l7All hg ht hx4)) (.inl rfl) (Nat.le_of_ble_eq_true rfl) ?_
        cbv
        obtain ⟨hB1, h⟩ := of_gd h
        obtain ⟨o1, ho1, h⟩ := of_cl h
        try dsimp only at h
        try rw [hg] at ho1
        try rw [ht] at ho1
        refine ABL.mk { p : Nat × Int // p.1 = cntLt p.2 (int (dlen (d_Item x4))) ∧ 0 ≤ p.2 ∧ S_IsCentre_l1 G.real TE.real (Centre.mk a0_Belt a0_Chutes a0_Inlets a0_Plan a0_Now) x4 p.1 p.2 = some o1 } (fun ⟨⟨n1, v1⟩, _⟩ => ({ sl := [(1, .c (.p 0 5 0 0)), (3, .c (.f 1 2 0 (dlen (d_Item x4)))), (4, .c (.r (.v (.int .i64 v1))))], tab := [(0, some (.foc 5 [] [.r (.s 2 (r_Item a0_Belt)), .r (.s 3 (r_Chute a0_Chutes)), .r (.s 2 (r_Inlet a0_Inlets)), .r (.s 1 (r_I64 a0_Plan)), .r (.v (.int .i64 a0_Now))] [])), (1, some (.arr 2 (d_Item x4)))] } : St)) 2 (fun p => p.1.1) ⟨(cntLt 0 (int (dlen (d_Item x4))), 0), rfl, Int.le_refl _, ho1⟩ (Unit) (fun _ => ({ sl := [], tab := [] } : St)) 0 (fun y => o1 = LR.out y) ?_ ?_ ?_
        · refine Wk.of [(0, some 0), (1, some 304)] rfl rfl ?_ ?_
          · cbv
            all_goals exact ⟨⟨_, rfl, rfl⟩, ⟨_, rfl, rfl⟩, ⟨_, rfl, rfl⟩, trivial⟩
          · cbv
            all_goals exact ⟨⟨_, rfl, _, rfl, rfl, rfl, rfl, rfl, rfl, trivial⟩, ⟨_, rfl, rfl⟩, trivial⟩
        · rintro ⟨⟨n1, v1⟩, hn1, hi1, h_1⟩ hq1
          try dsimp only at hn1 hi1 h_1
          clear hq1
          cbv
          rcases n1 with _ | n1
          · have hb4 : lt v1 (int (dlen (d_Item x4))) = false := ltC_false hg hn1
            rw [S_IsCentre_l1] at h_1
            try rw [← hg] at h_1
            try rw [← ht] at h_1
            try dsimp only at h_1
            rw [hb4]
            cbv
            refine ⟨(), Wk.of [] rfl rfl ?_ ?_, (Option.some.inj h_1).symm⟩
            · cbv
              all_goals exact trivial
            · cbv
              all_goals exact trivial
          · have hb4 : lt v1 (int (dlen (d_Item x4))) = true := ltC_true hg hn1
            have hl1 := ltC_le hn1
            have hs1 := stepltC hg hn1 hi1 hB1 (by decide)
            rw [S_IsCentre_l1] at h_1
            try rw [← hg] at h_1
            try rw [← ht] at h_1
            try dsimp only at h_1
            rw [hb4]
            cbv
            refine AStep.mk (rg_int hg hi1 hl1) ?_
            cbv
            obtain ⟨x5, hx5, h_1⟩ := of_gt h_1
            obtain ⟨x5_Id, x5_Dest⟩ := x5
            try dsimp only at h_1
            refine AGet.mk _ (d_get_Item hg ht hx5) ?_
            cbv
            obtain ⟨x6, hx6, h_1⟩ := of_lP h_1
            try dsimp only at h_1
            refine ACall.mk _ _ rfl (hF _ _ _ (c_S_l7Item hg ht hx6)) (.inl rfl) (Nat.le_of_ble_eq_true rfl) ?_
            cbv
            cases hb5 : x6 with
            | true =>
              rw [br_true hb5] at h_1
              cbv
              obtain ⟨hB2, h_1⟩ := of_gd h_1
              obtain ⟨o2, ho2, h_1⟩ := of_cl h_1
              try dsimp only at h_1
              try rw [hg] at ho2
              try rw [ht] at ho2
              refine ABL.mk { p : Nat × Int // p.1 = cntLt p.2 v1 ∧ 0 ≤ p.2 ∧ S_IsCentre_l2 G.real TE.real x4 (Item.mk x5_Id x5_Dest) p.1 p.2 = some o2 } (fun ⟨⟨n2, v2⟩, _⟩ => ({ sl := [(1, .c (.p 0 5 0 0)), (3, .c (.f 1 2 0 (dlen (d_Item x4)))), (4, .c (.r (.v (.int .i64 v1)))), (5, .c (.r (.v (.int .i64 v2))))], tab := [(0, some (.foc 5 [] [.r (.s 2 (r_Item a0_Belt)), .r (.s 3 (r_Chute a0_Chutes)), .r (.s 2 (r_Inlet a0_Inlets)), .r (.s 1 (r_I64 a0_Plan)), .r (.v (.int .i64 a0_Now))] [])), (1, some (.arr 2 (d_Item x4)))] } : St)) 2 (fun p => p.1.1) ⟨(cntLt 0 v1, 0), rfl, Int.le_refl _, ho2⟩ (Unit) (fun _ => ({ sl := [(1, .c (.p 0 5 0 0)), (3, .c (.f 1 2 0 (dlen (d_Item x4)))), (4, .c (.r (.v (.int .i64 v1))))], tab := [(0, some (.foc 5 [] [.r (.s 2 (r_Item a0_Belt)), .r (.s 3 (r_Chute a0_Chutes)), .r (.s 2 (r_Inlet a0_Inlets)), .r (.s 1 (r_I64 a0_Plan)), .r (.v (.int .i64 a0_Now))] [])), (1, some (.arr 2 (d_Item x4)))] } : St)) 2 (fun y => o2 = LR.out y) ?_ ?_ ?_
              · refine Wk.of [(0, some 0), (1, some 1)] rfl rfl ?_ ?_
                · cbv
                  all_goals exact ⟨⟨_, rfl, rfl⟩, ⟨_, rfl, rfl⟩, ⟨_, rfl, rfl⟩, ⟨_, rfl, rfl⟩, trivial⟩
                · cbv
                  all_goals exact ⟨⟨_, rfl, _, rfl, rfl, rfl, rfl, rfl, rfl, trivial⟩, ⟨_, rfl, rfl⟩, trivial⟩
              · rintro ⟨⟨n2, v2⟩, hn2, hi2, h_2⟩ hq2
                try dsimp only at hn2 hi2 h_2
                clear hq2
                cbv
                rcases n2 with _ | n2
                · have hb6 : lt v2 v1 = false := ltC_false hg hn2
                  rw [S_IsCentre_l2] at h_2
                  try rw [← hg] at h_2
                  try rw [← ht] at h_2
                  try dsimp only at h_2
                  rw [hb6]
                  cbv
                  refine ⟨(), Wk.of [(0, some 0), (1, some 1)] rfl rfl ?_ ?_, (Option.some.inj h_2).symm⟩
                  · cbv
                    all_goals exact ⟨⟨_, rfl, rfl⟩, ⟨_, rfl, rfl⟩, ⟨_, rfl, rfl⟩, trivial⟩
                  · cbv
                    all_goals exact ⟨⟨_, rfl, _, rfl, rfl, rfl, rfl, rfl, rfl, trivial⟩, ⟨_, rfl, rfl⟩, trivial⟩
                · have hb6 : lt v2 v1 = true := ltC_true hg hn2
                  have hl2 := ltC_le hn2
                  have hs2 := stepltC hg hn2 hi2 hB2 (by decide)
                  rw [S_IsCentre_l2] at h_2
                  try rw [← hg] at h_2
                  try rw [← ht] at h_2
                  try dsimp only at h_2
                  rw [hb6]
                  cbv
                  obtain ⟨hc1, h_2⟩ := of_gd h_2
                  refine AStep.mk hc1 ?_
                  cbv
                  obtain ⟨x7, hx7, h_2⟩ := of_gt h_2
                  obtain ⟨x7_Id, x7_Dest⟩ := x7
                  try dsimp only at h_2
                  refine AGet.mk _ (d_get_Item hg ht hx7) ?_
                  cbv
                  refine AStep.mk (rg_int hg hi1 hl1) ?_
                  cbv
                  refine AGet.mk _ (d_get_Item hg ht hx5) ?_
                  cbv
                  cases hb7 : (eq x7_Id x5_Id) with
                  | true =>
                    rw [br_true hb7] at h_2
                    cbv
                    obtain rfl := Option.some.inj h_2
                    try dsimp only [lr, lrL, lrp, lrpL] at h_1
                    obtain rfl := Option.some.inj h_1
                    try dsimp only [lr, lrL, lrp, lrpL] at h
                    obtain rfl := Option.some.inj h
                    exact ARet.mk trivial hX.symm
                  | false =>
                    rw [br_false hb7] at h_2
                    cbv
                    try rw [hg] at h_2
                    try rw [ht] at h_2
                    refine ⟨⟨(n2, (wrap .i64 (add v2 1))), hs2.1, hs2.2, h_2⟩, Wk.of [(0, some 0), (1, some 1)] rfl rfl ?_ ?_, Nat.lt_succ_self _⟩
                    · cbv
                      all_goals exact ⟨⟨_, rfl, rfl⟩, ⟨_, rfl, rfl⟩, ⟨_, rfl, rfl⟩, ⟨_, rfl, rfl⟩, trivial⟩
                    · cbv
                      all_goals exact ⟨⟨_, rfl, _, rfl, rfl, rfl, rfl, rfl, rfl, trivial⟩, ⟨_, rfl, rfl⟩, trivial⟩
              · rintro _ hy2
                replace hy2 := hy2.symm
                subst hy2
                try dsimp only [lr, lrL, lrp, lrpL] at h_1
                cbv
                try rw [hg] at h_1
                try rw [ht] at h_1
                refine ⟨⟨(n1, (wrap .i64 (add v1 1))), hs1.1, hs1.2, h_1⟩, Wk.of [(0, some 0), (1, some 1)] rfl rfl ?_ ?_, Nat.lt_succ_self _⟩
                · cbv
                  all_goals exact ⟨⟨_, rfl, rfl⟩, ⟨_, rfl, rfl⟩, ⟨_, rfl, rfl⟩, trivial⟩
                · cbv
                  all_goals exact ⟨⟨_, rfl, _, rfl, rfl, rfl, rfl, rfl, rfl, trivial⟩, ⟨_, rfl, rfl⟩, trivial⟩
            | false =>
              rw [br_false hb5] at h_1
              cbv
              obtain rfl := Option.some.inj h_1
              try dsimp only [lr, lrL, lrp, lrpL] at h
              obtain rfl := Option.some.inj h
              exact ARet.mk trivial hX.symm
        · rintro _ hy1
          replace hy1 := hy1.symm
          subst hy1
          try dsimp only [lr, lrL, lrp, lrpL] at h
          cbv
          obtain rfl := Option.some.inj h
          exact ARet.mk trivial hX.symm
      | false =>
        rw [br_false hb3] at h
        cbv
        obtain rfl := Option.some.inj h
        exact ARet.mk trivial hX.symm
    | false =>
      rw [br_false hb2] at h
      cbv
      try (rw [hb2]; cbv)
      try (rw [hb2]; cbv)
      try (rw [hb2]; cbv)
      try (rw [hb2]; cbv)
      obtain rfl := Option.some.inj h
      exact ARet.mk trivial hX.symm
  | false =>
    rw [br_false hb1] at h
    cbv
    try (rw [hb1]; cbv)
    try (rw [hb1]; cbv)
    try (rw [hb1]; cbv)
    obtain rfl := Option.some.inj h
    exact ARet.mk trivial hX.symm
end Go.Vs
namespace Go.Vs
open Go.Proofs Go.IntWalk
set_option linter.unusedVariables false
set_option maxRecDepth 100000
set_option maxHeartbeats 4000000
def L_heldCentre (g : G) (t : TE) (a0 : Centre) (a1 : Int) : Int :=
  lP (L_heldItemS g t a0.Belt a1) fun x1 =>
  br (g.lt x1 0)
  (
   (-1))
  (
   lP (L_heldChuteS g t a0.Chutes x1) fun x2 =>
   br (g.lt x2 0)
   (
    (-1))
   (
    lP (L_heldInletS g t a0.Inlets x2) fun x3 =>
    br (g.lt x3 0)
    (
     (-1))
    (
     lP (L_heldIntS g t a0.Plan x3) fun x4 =>
     br (g.lt x4 0)
     (
      (-1))
     (
      x4))))
theorem fit50 : codeFit Try.prog Try.f50.ntmps (Try.f50.body.getD .skip) ir50 = true := by kernel_rfl
theorem c_L_heldCentre {g : G} {t : TE} {a0 : Centre} {a1 : Int} {r : Int} (hg : g = G.real) (ht : t = TE.real) (h : L_heldCentre g t a0 a1 = r) : Fn Try.prog 50 [.g (Centre.rs t a0), .c (.v (.int .i64 a1))] (.c (.r (.v (.int .i64 r)))) := by
  obtain ⟨X, hX⟩ := hide (.c (.r (.v (.int .i64 r))) : X)
  rw [← hX]
  refine fn_of (rvs := rv50) (j := ir50) Try.func50 rfl fit50 (Nat.le_of_ble_eq_true rfl) (by kernel_rfl) prog_mixed ?_
  intro g2 F hg2 hF
  obtain rfl : g2 = g := hg2.unique.trans hg.symm
  clear hg2
  obtain ⟨wrap, lt, le, eq, quo, rem, band, bor, bxor, shl, shr, nat, int, add, sub, mul, cat, seq, slt, sub3, byte, llen, nadd, nsub, dlen, dapp, dset, drep, rd, rda, up, rsub, dsub, all, sle, slen⟩ := g2
  obtain ⟨r_Item, d_Item, r_Chute, d_Chute, r_Inlet, d_Inlet, r_I64, d_I64, r_U8, d_U8⟩ := t
  obtain ⟨a0_Belt, a0_Chutes, a0_Inlets, a0_Plan, a0_Now⟩ := a0
  unfold L_heldCentre at h
  try dsimp only at h
  cbv
  obtain ⟨x1, hx1, h⟩ := of_lP h
  try dsimp only at h
  refine ACall.mk _ _ rfl (hF _ _ _ (c_L_heldItemS hg ht hx1)) (.inl rfl) (Nat.le_of_ble_eq_true rfl) ?_
  cbv
  cases hb1 : (lt x1 0) with
  | true =>
    rw [br_true hb1] at h
    cbv
    subst h
    exact ARet.mk trivial hX.symm
  | false =>
    rw [br_false hb1] at h
    cbv
    obtain ⟨x2, hx2, h⟩ := of_lP h
    try dsimp only at h
    refine ACall.mk _ _ rfl (hF _ _ _ (c_L_heldChuteS hg ht hx2)) (.inl rfl) (Nat.le_of_ble_eq_true rfl) ?_
    cbv
    cases hb2 : (lt x2 0) with
    | true =>
      rw [br_true hb2] at h
      cbv
      subst h
      exact ARet.mk trivial hX.symm
    | false =>
      rw [br_false hb2] at h
      cbv
      obtain ⟨x3, hx3, h⟩ := of_lP h
      try dsimp only at h
      refine ACall.mk _ _ rfl (hF _ _ _ (c_L_heldInletS hg ht hx3)) (.inl rfl) (Nat.le_of_ble_eq_true rfl) ?_
      cbv
      cases hb3 : (lt x3 0) with
      | true =>
        rw [br_true hb3] at h
        cbv
        subst h
        exact ARet.mk trivial hX.symm
      | false =>
        rw [br_false hb3] at h
        cbv
        obtain ⟨x4, hx4, h⟩ := of_lP h
        try dsimp only at h
        refine ACall.mk _ _ rfl (hF _ _ _ (c_L_heldIntS hg ht hx4)) (.inl rfl) (Nat.le_of_ble_eq_true rfl) ?_
        cbv
        cases hb4 : (lt x4 0) with
        | true =>
          rw [br_true hb4] at h
          cbv
          subst h
          exact ARet.mk trivial hX.symm
        | false =>
          rw [br_false hb4] at h
          cbv
          subst h
          exact ARet.mk trivial hX.symm
end Go.Vs
