/- Part of the proofs of this seat's laws: L5a. No condition. -/
import Derived.Test.YtieeagobedjogaaTy
import Derived.Test.YtieeagobedjogaaTIRall
import Derived.Test.YtieeagobedjogaaL1a
import Derived.Test.YtieeagobedjogaaL2a
import Derived.Test.YtieeagobedjogaaL4a
import Derived.Test.YtieeagobedjogaaL3a
set_option linter.unusedVariables false
set_option linter.unusedSimpArgs false
set_option linter.unusedSectionVars false
namespace Go.Vs
open Go.Proofs Go.IntWalk
set_option linter.unusedVariables false
set_option maxRecDepth 100000
set_option maxHeartbeats 4000000
def L_toCentre (g : G) (t : TE) (a0 : Centre) : Option Centre :=
  cl (L_toItemS g t a0.Belt) fun x1 =>
  cl (L_toChuteS g t a0.Chutes) fun x2 =>
  cl (L_toInletS g t a0.Inlets) fun x3 =>
  cl (L_toIntS g t a0.Plan) fun x4 =>
  some (Centre.mk x1 x2 x3 x4 a0.Now)
theorem fit26 : codeFit Try.prog Try.f26.ntmps (Try.f26.body.getD .skip) ir26 = true := by kernel_rfl
theorem c_L_toCentre {g : G} {t : TE} {a0 : Centre} {r : Centre} (hg : g = G.real) (ht : t = TE.real) (h : L_toCentre g t a0 = some r) : Fn Try.prog 26 [.g (Centre.rs t a0)] (.g (Centre.ds t r)) := by
  obtain ⟨X, hX⟩ := hide (.g (Centre.ds t r) : X)
  rw [← hX]
  refine fn_of (rvs := rv26) (j := ir26) Try.func26 rfl fit26 (Nat.le_of_ble_eq_true rfl) (by kernel_rfl) prog_mixed ?_
  intro g2 F hg2 hF
  obtain rfl : g2 = g := hg2.unique.trans hg.symm
  clear hg2
  obtain ⟨wrap, lt, le, eq, quo, rem, band, bor, bxor, shl, shr, nat, int, add, sub, mul, cat, seq, slt, sub3, byte, llen, nadd, nsub, dlen, dapp, dset, drep, rd, rda, up, rsub, dsub, all, sle, slen⟩ := g2
  obtain ⟨r_Item, d_Item, r_Chute, d_Chute, r_Inlet, d_Inlet, r_I64, d_I64, r_U8, d_U8⟩ := t
  obtain ⟨a0_Belt, a0_Chutes, a0_Inlets, a0_Plan, a0_Now⟩ := a0
  unfold L_toCentre at h
  try dsimp only at h
  cbv
  obtain ⟨x1, hx1, h⟩ := of_cl h
  try dsimp only at h
  refine ACall.mk _ _ rfl (hF _ _ _ (c_L_toItemS hg ht hx1)) (.inl rfl) (Nat.le_of_ble_eq_true rfl) ?_
  cbv
  obtain ⟨x2, hx2, h⟩ := of_cl h
  try dsimp only at h
  refine ACall.mk _ _ rfl (hF _ _ _ (c_L_toChuteS hg ht hx2)) (.inl rfl) (Nat.le_of_ble_eq_true rfl) ?_
  cbv
  obtain ⟨x3, hx3, h⟩ := of_cl h
  try dsimp only at h
  refine ACall.mk _ _ rfl (hF _ _ _ (c_L_toInletS hg ht hx3)) (.inl rfl) (Nat.le_of_ble_eq_true rfl) ?_
  cbv
  obtain ⟨x4, hx4, h⟩ := of_cl h
  try dsimp only at h
  refine ACall.mk _ _ rfl (hF _ _ _ (c_L_toIntS hg ht hx4)) (.inl rfl) (Nat.le_of_ble_eq_true rfl) ?_
  cbv
  obtain rfl := Option.some.inj h
  exact ARet.mk ⟨⟨rfl, (dlen_Item hg ht _)⟩, ⟨⟨rfl, (dlen_Chute hg ht _)⟩, ⟨⟨rfl, (dlen_Inlet hg ht _)⟩, ⟨rfl, (dlen_I64 hg ht _)⟩⟩⟩⟩ hX.symm
end Go.Vs
namespace Go.Vs
open Go.Proofs Go.IntWalk
set_option linter.unusedVariables false
set_option maxRecDepth 100000
set_option maxHeartbeats 4000000
def L_eqCentre (g : G) (t : TE) (a0 : Centre) (a1 : Centre) : Option Bool :=
  cl (L_eqItemS g t a0.Belt a1.Belt) fun x1 =>
  br x1
  (
   cl (L_eqChuteS g t a0.Chutes a1.Chutes) fun x2 =>
   br x2
   (
    cl (L_eqInletS g t a0.Inlets a1.Inlets) fun x3 =>
    br x3
    (
     cl (L_eqIntS g t a0.Plan a1.Plan) fun x4 =>
     br x4
     (
      br (g.eq a0.Now a1.Now)
      (
       some true)
      (
       some false))
     (
      some false))
    (
     some false))
   (
    some false))
  (
   some false)
theorem fit28 : codeFit Try.prog Try.f28.ntmps (Try.f28.body.getD .skip) ir28 = true := by kernel_rfl
theorem c_L_eqCentre {g : G} {t : TE} {a0 : Centre} {a1 : Centre} {r : Bool} (hg : g = G.real) (ht : t = TE.real) (h : L_eqCentre g t a0 a1 = some r) : Fn Try.prog 28 [.g (Centre.rs t a0), .g (Centre.rs t a1)] (.c (.r (.v (.bool r)))) := by
  obtain ⟨X, hX⟩ := hide (.c (.r (.v (.bool r))) : X)
  rw [← hX]
  refine fn_of (rvs := rv28) (j := ir28) Try.func28 rfl fit28 (Nat.le_of_ble_eq_true rfl) (by kernel_rfl) prog_mixed ?_
  intro g2 F hg2 hF
  obtain rfl : g2 = g := hg2.unique.trans hg.symm
  clear hg2
  obtain ⟨wrap, lt, le, eq, quo, rem, band, bor, bxor, shl, shr, nat, int, add, sub, mul, cat, seq, slt, sub3, byte, llen, nadd, nsub, dlen, dapp, dset, drep, rd, rda, up, rsub, dsub, all, sle, slen⟩ := g2
  obtain ⟨r_Item, d_Item, r_Chute, d_Chute, r_Inlet, d_Inlet, r_I64, d_I64, r_U8, d_U8⟩ := t
  obtain ⟨a0_Belt, a0_Chutes, a0_Inlets, a0_Plan, a0_Now⟩ := a0
  obtain ⟨a1_Belt, a1_Chutes, a1_Inlets, a1_Plan, a1_Now⟩ := a1
  unfold L_eqCentre at h
  try dsimp only at h
  cbv
  obtain ⟨x1, hx1, h⟩ := of_cl h
  try dsimp only at h
  refine ACall.mk _ _ rfl (hF _ _ _ (c_L_eqItemS hg ht hx1)) (.inl rfl) (Nat.le_of_ble_eq_true rfl) ?_
  cbv
  cases hb1 : x1 with
  | true =>
    rw [br_true hb1] at h
    cbv
    obtain ⟨x2, hx2, h⟩ := of_cl h
    try dsimp only at h
    refine ACall.mk _ _ rfl (hF _ _ _ (c_L_eqChuteS hg ht hx2)) (.inl rfl) (Nat.le_of_ble_eq_true rfl) ?_
    cbv
    cases hb2 : x2 with
    | true =>
      rw [br_true hb2] at h
      cbv
      obtain ⟨x3, hx3, h⟩ := of_cl h
      try dsimp only at h
      refine ACall.mk _ _ rfl (hF _ _ _ (c_L_eqInletS hg ht hx3)) (.inl rfl) (Nat.le_of_ble_eq_true rfl) ?_
      cbv
      cases hb3 : x3 with
      | true =>
        rw [br_true hb3] at h
        cbv
        obtain ⟨x4, hx4, h⟩ := of_cl h
        try dsimp only at h
        refine ACall.mk _ _ rfl (hF _ _ _ (c_L_eqIntS hg ht hx4)) (.inl rfl) (Nat.le_of_ble_eq_true rfl) ?_
        cbv
        cases hb4 : x4 with
        | true =>
          rw [br_true hb4] at h
          cbv
          cases hb5 : (eq a0_Now a1_Now) with
          | true =>
            rw [br_true hb5] at h
            cbv
            obtain rfl := Option.some.inj h
            exact ARet.mk trivial hX.symm
          | false =>
            rw [br_false hb5] at h
            cbv
            obtain rfl := Option.some.inj h
            exact ARet.mk trivial hX.symm
        | false =>
          rw [br_false hb4] at h
          cbv
          obtain rfl := Option.some.inj h
          exact ARet.mk trivial hX.symm
      | false =>
        rw [br_false hb3] at h
        cbv
        obtain rfl := Option.some.inj h
        exact ARet.mk trivial hX.symm
    | false =>
      rw [br_false hb2] at h
      cbv
      obtain rfl := Option.some.inj h
      exact ARet.mk trivial hX.symm
  | false =>
    rw [br_false hb1] at h
    cbv
    obtain rfl := Option.some.inj h
    exact ARet.mk trivial hX.symm
end Go.Vs
namespace Go.Vs
open Go.Proofs Go.IntWalk
set_option linter.unusedVariables false
set_option maxRecDepth 100000
set_option maxHeartbeats 4000000
def S_IsStuck_l2 (g : G) (t : TE) (a0 : Centre) : List Item → Option (LR Bool Unit)
  | [] =>
    some (LR.out ())
  | z2 :: ls2 =>
    br (g.eq z2.Id 0)
    (
     S_IsStuck_l2 g t a0 ls2)
    (
     gd ((0 ≤ z2.Dest)) <|
     gt a0.Plan (g.nat z2.Dest) fun x7 =>
     gd ((0 ≤ x7)) <|
     gt a0.Chutes (g.nat x7) fun x8 =>
     gd ((0 ≤ z2.Dest)) <|
     gd ((0 ≤ x7)) <|
     br (g.lt (g.llen (t.r_Item x8.Held)) x8.Room)
     (
      some (LR.ret false))
     (
      S_IsStuck_l2 g t a0 ls2))
def S_IsStuck_l1 (g : G) (t : TE) (a0 : Centre) : List Item → Option (LR Bool Unit)
  | [] =>
    some (LR.out ())
  | z1 :: ls1 =>
    br (g.eq z1.Id 0)
    (
     S_IsStuck_l1 g t a0 ls1)
    (
     gd ((0 ≤ z1.Dest)) <|
     gt a0.Plan (g.nat z1.Dest) fun x5 =>
     gd ((0 ≤ x5)) <|
     gt a0.Chutes (g.nat x5) fun x6 =>
     gd ((0 ≤ z1.Dest)) <|
     gd ((0 ≤ x5)) <|
     br (g.lt (g.llen (t.r_Item x6.Held)) x6.Room)
     (
      some (LR.ret false))
     (
      S_IsStuck_l1 g t a0 ls1))
def S_IsStuck (g : G) (t : TE) (a0 : Centre) : Option Bool :=
  cl (S_IsCentre g t a0) fun x1 =>
  br x1
  (
   cl (S_IsDrained g t a0) fun x2 =>
   br x2
   (
    some false)
   (
    lP (S_CountWait g t a0) fun x3 =>
    br (g.lt 0 x3)
    (
     lP (S_CountBelt g t a0) fun x4 =>
     br (g.lt x4 (g.llen (t.r_Item a0.Belt)))
     (
      some false)
     (
      cl (S_IsStuck_l1 g t a0 a0.Belt) fun o1 => lr o1 fun y1 =>
      some true))
    (
     cl (S_IsStuck_l2 g t a0 a0.Belt) fun o2 => lr o2 fun y2 =>
     some true)))
  (
   some false)
theorem fit60 : codeFit Try.prog Try.f60.ntmps (Try.f60.body.getD .skip) ir60 = true := by kernel_rfl
theorem c_S_IsStuck {g : G} {t : TE} {a0 : Centre} {r : Bool} (hg : g = G.real) (ht : t = TE.real) (h : S_IsStuck g t a0 = some r) : Fn Try.prog 60 [.g (Centre.rs t a0)] (.c (.r (.v (.bool r)))) := by
  obtain ⟨X, hX⟩ := hide (.c (.r (.v (.bool r))) : X)
  rw [← hX]
  refine fn_of (rvs := rv60) (j := ir60) Try.func60 rfl fit60 (Nat.le_of_ble_eq_true rfl) (by kernel_rfl) prog_mixed ?_
  intro g2 F hg2 hF
  obtain rfl : g2 = g := hg2.unique.trans hg.symm
  clear hg2
  obtain ⟨wrap, lt, le, eq, quo, rem, band, bor, bxor, shl, shr, nat, int, add, sub, mul, cat, seq, slt, sub3, byte, llen, nadd, nsub, dlen, dapp, dset, drep, rd, rda, up, rsub, dsub, all, sle, slen⟩ := g2
  obtain ⟨r_Item, d_Item, r_Chute, d_Chute, r_Inlet, d_Inlet, r_I64, d_I64, r_U8, d_U8⟩ := t
  obtain ⟨a0_Belt, a0_Chutes, a0_Inlets, a0_Plan, a0_Now⟩ := a0
  unfold S_IsStuck at h
  try dsimp only at h
  cbv
  obtain ⟨x1, hx1, h⟩ := of_cl h
  try dsimp only at h
  refine ACall.mk _ _ rfl (hF _ _ _ (c_S_IsCentre hg ht hx1)) (.inl rfl) (Nat.le_of_ble_eq_true rfl) ?_
  cbv
  cases hb1 : x1 with
  | true =>
    rw [br_true hb1] at h
    cbv
    try (rw [hb1]; cbv)
    obtain ⟨x2, hx2, h⟩ := of_cl h
    try dsimp only at h
    refine ACall.mk _ _ rfl (hF _ _ _ (c_S_IsDrained hg ht hx2)) (.inl rfl) (Nat.le_of_ble_eq_true rfl) ?_
    cbv
    try (rw [hb1]; cbv)
    cases hb2 : x2 with
    | true =>
      rw [br_true hb2] at h
      cbv
      try (rw [hb2]; cbv)
      try (rw [hb2]; cbv)
      try (rw [hb2]; cbv)
      try (rw [hb2]; cbv)
      try (rw [hb2]; cbv)
      obtain rfl := Option.some.inj h
      exact ARet.mk trivial hX.symm
    | false =>
      rw [br_false hb2] at h
      cbv
      try (rw [hb2]; cbv)
      obtain ⟨x3, hx3, h⟩ := of_lP h
      try dsimp only at h
      refine ACall.mk _ _ rfl (hF _ _ _ (c_S_CountWait hg ht hx3)) (.inl rfl) (Nat.le_of_ble_eq_true rfl) ?_
      cbv
      try (rw [hb2]; cbv)
      try (rw [hb2]; cbv)
      cases hb3 : (lt 0 x3) with
      | true =>
        rw [br_true hb3] at h
        cbv
        try (rw [hb3]; cbv)
        obtain ⟨x4, hx4, h⟩ := of_lP h
        try dsimp only at h
        refine ACall.mk _ _ rfl (hF _ _ _ (c_S_CountBelt hg ht hx4)) (.inl rfl) (Nat.le_of_ble_eq_true rfl) ?_
        cbv
        try (rw [hb3]; cbv)
        try (rw [hb3]; cbv)
        try (rw [hb3]; cbv)
        try (rw [hb3]; cbv)
        try (rw [hb2]; cbv)
        try (rw [hb3]; cbv)
        try (rw [hb2]; cbv)
        cases hb4 : (lt x4 (llen (r_Item a0_Belt))) with
        | true =>
          rw [br_true hb4] at h
          cbv
          obtain rfl := Option.some.inj h
          exact ARet.mk trivial hX.symm
        | false =>
          rw [br_false hb4] at h
          cbv
          obtain ⟨o1, ho1, h⟩ := of_cl h
          try dsimp only at h
          try rw [hg] at ho1
          try rw [ht] at ho1
          refine ABL.mk { p : Nat × Int // p.1 ≤ a0_Belt.length ∧ p.2 = ((p.1 : Nat) : Int) ∧ S_IsStuck_l1 G.real TE.real (Centre.mk a0_Belt a0_Chutes a0_Inlets a0_Plan a0_Now) (List.drop p.1 a0_Belt) = some o1 } (fun ⟨⟨k1, v1⟩, _⟩ => ({ sl := [(1, .c (.p 0 5 0 0)), (3, .c (.r (.v (.int .i64 v1))))], tab := [(0, some (.foc 5 [] [.r (.s 2 (r_Item a0_Belt)), .r (.s 3 (r_Chute a0_Chutes)), .r (.s 2 (r_Inlet a0_Inlets)), .r (.s 1 (r_I64 a0_Plan)), .r (.v (.int .i64 a0_Now))] []))] } : St)) 1 (fun p => a0_Belt.length - p.1.1) ⟨(0, 0), Nat.zero_le _, rfl, ho1⟩ (Unit) (fun _ => ({ sl := [], tab := [] } : St)) 0 (fun y => o1 = LR.out y) ?_ ?_ ?_
          · refine Wk.of [(0, some 0)] rfl rfl ?_ ?_
            · cbv
              all_goals exact ⟨⟨_, rfl, rfl⟩, ⟨_, rfl, rfl⟩, trivial⟩
            · cbv
              all_goals exact ⟨⟨_, rfl, _, rfl, rfl, rfl, rfl, rfl, rfl, trivial⟩, trivial⟩
          · rintro ⟨⟨k1, v1⟩, hk1, hi1, h_1⟩ hq1
            have hm1 := (hq1.2.2.1 0 _ _ _ _ 0 _ _ rfl rfl)
            try dsimp only at hk1 hi1 h_1
            clear hq1
            cbv
            by_cases hc1_ : k1 < a0_Belt.length
            · have hb5 : lt v1 (llen (r_Item a0_Belt)) = true := ltL_true_Item hg ht hi1 hc1_
              have hs1 := stepL_Item hg ht hi1 hc1_ hm1
              obtain ⟨z1, hz1⟩ := some_of_lt hc1_
              rw [drop_of_some hz1] at h_1
              rw [S_IsStuck_l1] at h_1
              obtain ⟨z1_Id, z1_Dest⟩ := z1
              try rw [← hg] at h_1
              try rw [← ht] at h_1
              try dsimp only at h_1
              rw [hb5]
              cbv
              refine AStep.mk (nn_L hi1) ?_
              cbv
              refine AGet.mk _ (r_getL_Item hg ht hi1 hz1) ?_
              cbv
              cases hb6 : (eq z1_Id 0) with
              | true =>
                rw [br_true hb6] at h_1
                cbv
                try (rw [hb6]; cbv)
                try (rw [hb6]; cbv)
                try (rw [hb6]; cbv)
                try (rw [hb6]; cbv)
                try (rw [hb6]; cbv)
                try (rw [hb6]; cbv)
                try (rw [hb6]; cbv)
                try (rw [hb6]; cbv)
                try (rw [hb6]; cbv)
                try (rw [hb6]; cbv)
                try (rw [hb6]; cbv)
                try (rw [hb6]; cbv)
                try (rw [hb6]; cbv)
                try (rw [hb6]; cbv)
                try (rw [hb6]; cbv)
                try (rw [hb6]; cbv)
                try (rw [hb6]; cbv)
                try (rw [hb6]; cbv)
                try (rw [hb6]; cbv)
                try (rw [hb6]; cbv)
                try (rw [hb6]; cbv)
                try (rw [hb6]; cbv)
                try (rw [hb6]; cbv)
                try (rw [hb6]; cbv)
                try rw [hg] at h_1
                try rw [ht] at h_1
                refine ⟨⟨(k1 + 1, (wrap .i64 (add v1 1))), hc1_, hs1, h_1⟩, Wk.of [(0, some 0)] rfl rfl ?_ ?_, meas_L hc1_⟩
                · cbv
                  all_goals exact ⟨⟨_, rfl, rfl⟩, ⟨_, rfl, rfl⟩, trivial⟩
                · cbv
                  all_goals exact ⟨⟨_, rfl, _, rfl, rfl, rfl, rfl, rfl, rfl, trivial⟩, trivial⟩
              | false =>
                rw [br_false hb6] at h_1
                cbv
                try (rw [hb6]; cbv)
                try (rw [hb6]; cbv)
                try (rw [hb6]; cbv)
                try (rw [hb6]; cbv)
                try (rw [hb6]; cbv)
                try (rw [hb6]; cbv)
                obtain ⟨hc1, h_1⟩ := of_gd h_1
                refine AStep.mk hc1 ?_
                cbv
                obtain ⟨x5, hx5, h_1⟩ := of_gt h_1
                try dsimp only at h_1
                refine AGet.mk _ (r_get_I64 hg ht hx5) ?_
                cbv
                try (rw [hb6]; cbv)
                try (rw [hb6]; cbv)
                obtain ⟨hc2, h_1⟩ := of_gd h_1
                refine AStep.mk hc2 ?_
                cbv
                obtain ⟨x6, hx6, h_1⟩ := of_gt h_1
                obtain ⟨x6_Cell, x6_Room, x6_Held⟩ := x6
                try dsimp only at h_1
                refine AGet.mk _ (r_get_Chute hg ht hx6) ?_
                cbv
                try (rw [hb6]; cbv)
                try (rw [hb6]; cbv)
                try (rw [hb6]; cbv)
                try (rw [hb6]; cbv)
                try (rw [hb6]; cbv)
                try (rw [hb6]; cbv)
                try (rw [hb6]; cbv)
                try (rw [hb6]; cbv)
                try (rw [hb6]; cbv)
                try (rw [hb6]; cbv)
                obtain ⟨hc3, h_1⟩ := of_gd h_1
                refine AStep.mk hc3 ?_
                cbv
                refine AGet.mk _ (r_get_I64 hg ht hx5) ?_
                cbv
                try (rw [hb6]; cbv)
                try (rw [hb6]; cbv)
                obtain ⟨hc4, h_1⟩ := of_gd h_1
                refine AStep.mk hc4 ?_
                cbv
                refine AGet.mk _ (r_get_Chute hg ht hx6) ?_
                cbv
                try (rw [hb6]; cbv)
                try (rw [hb6]; cbv)
                try (rw [hb6]; cbv)
                try (rw [hb6]; cbv)
                cases hb7 : (lt (llen (r_Item x6_Held)) x6_Room) with
                | true =>
                  rw [br_true hb7] at h_1
                  cbv
                  obtain rfl := Option.some.inj h_1
                  try dsimp only [lr, lrL, lrp, lrpL] at h
                  obtain rfl := Option.some.inj h
                  exact ARet.mk trivial hX.symm
                | false =>
                  rw [br_false hb7] at h_1
                  cbv
                  try rw [hg] at h_1
                  try rw [ht] at h_1
                  refine ⟨⟨(k1 + 1, (wrap .i64 (add v1 1))), hc1_, hs1, h_1⟩, Wk.of [(0, some 0)] rfl rfl ?_ ?_, meas_L hc1_⟩
                  · cbv
                    all_goals exact ⟨⟨_, rfl, rfl⟩, ⟨_, rfl, rfl⟩, trivial⟩
                  · cbv
                    all_goals exact ⟨⟨_, rfl, _, rfl, rfl, rfl, rfl, rfl, rfl, trivial⟩, trivial⟩
            · have hb5 : lt v1 (llen (r_Item a0_Belt)) = false := ltL_false_Item hg ht hi1 hc1_
              rw [List.drop_of_length_le (Nat.le_of_not_lt hc1_)] at h_1
              rw [S_IsStuck_l1] at h_1
              try rw [← hg] at h_1
              try rw [← ht] at h_1
              try dsimp only at h_1
              rw [hb5]
              cbv
              refine ⟨(), Wk.of [] rfl rfl ?_ ?_, (Option.some.inj h_1).symm⟩
              · cbv
                all_goals exact trivial
              · cbv
                all_goals exact trivial
          · rintro _ hy1
            replace hy1 := hy1.symm
            subst hy1
            try dsimp only [lr, lrL, lrp, lrpL] at h
            cbv
            obtain rfl := Option.some.inj h
            exact ARet.mk trivial hX.symm
      | false =>
        rw [br_false hb3] at h
        cbv
        try (rw [hb3]; cbv)
        try (rw [hb3]; cbv)
        try (rw [hb3]; cbv)
        try (rw [hb3]; cbv)
        try (rw [hb3]; cbv)
        try (rw [hb2]; cbv)
        try (rw [hb3]; cbv)
        try (rw [hb2]; cbv)
        obtain ⟨o2, ho2, h⟩ := of_cl h
        try dsimp only at h
        try rw [hg] at ho2
        try rw [ht] at ho2
        refine ABL.mk { p : Nat × Int // p.1 ≤ a0_Belt.length ∧ p.2 = ((p.1 : Nat) : Int) ∧ S_IsStuck_l2 G.real TE.real (Centre.mk a0_Belt a0_Chutes a0_Inlets a0_Plan a0_Now) (List.drop p.1 a0_Belt) = some o2 } (fun ⟨⟨k2, v2⟩, _⟩ => ({ sl := [(1, .c (.p 0 5 0 0)), (3, .c (.r (.v (.int .i64 v2))))], tab := [(0, some (.foc 5 [] [.r (.s 2 (r_Item a0_Belt)), .r (.s 3 (r_Chute a0_Chutes)), .r (.s 2 (r_Inlet a0_Inlets)), .r (.s 1 (r_I64 a0_Plan)), .r (.v (.int .i64 a0_Now))] []))] } : St)) 1 (fun p => a0_Belt.length - p.1.1) ⟨(0, 0), Nat.zero_le _, rfl, ho2⟩ (Unit) (fun _ => ({ sl := [], tab := [] } : St)) 0 (fun y => o2 = LR.out y) ?_ ?_ ?_
        · refine Wk.of [(0, some 0)] rfl rfl ?_ ?_
          · cbv
            all_goals exact ⟨⟨_, rfl, rfl⟩, ⟨_, rfl, rfl⟩, trivial⟩
          · cbv
            all_goals exact ⟨⟨_, rfl, _, rfl, rfl, rfl, rfl, rfl, rfl, trivial⟩, trivial⟩
        · rintro ⟨⟨k2, v2⟩, hk2, hi2, h_2⟩ hq2
          have hm2 := (hq2.2.2.1 0 _ _ _ _ 0 _ _ rfl rfl)
          try dsimp only at hk2 hi2 h_2
          clear hq2
          cbv
          by_cases hc2_ : k2 < a0_Belt.length
          · have hb8 : lt v2 (llen (r_Item a0_Belt)) = true := ltL_true_Item hg ht hi2 hc2_
            have hs2 := stepL_Item hg ht hi2 hc2_ hm2
            obtain ⟨z2, hz2⟩ := some_of_lt hc2_
            rw [drop_of_some hz2] at h_2
            rw [S_IsStuck_l2] at h_2
            obtain ⟨z2_Id, z2_Dest⟩ := z2
            try rw [← hg] at h_2
            try rw [← ht] at h_2
            try dsimp only at h_2
            rw [hb8]
            cbv
            refine AStep.mk (nn_L hi2) ?_
            cbv
            refine AGet.mk _ (r_getL_Item hg ht hi2 hz2) ?_
            cbv
            cases hb9 : (eq z2_Id 0) with
            | true =>
              rw [br_true hb9] at h_2
              cbv
              try (rw [hb9]; cbv)
              try (rw [hb9]; cbv)
              try (rw [hb9]; cbv)
              try (rw [hb9]; cbv)
              try (rw [hb9]; cbv)
              try (rw [hb9]; cbv)
              try (rw [hb9]; cbv)
              try (rw [hb9]; cbv)
              try (rw [hb9]; cbv)
              try (rw [hb9]; cbv)
              try (rw [hb9]; cbv)
              try (rw [hb9]; cbv)
              try (rw [hb9]; cbv)
              try (rw [hb9]; cbv)
              try (rw [hb9]; cbv)
              try (rw [hb9]; cbv)
              try (rw [hb9]; cbv)
              try (rw [hb9]; cbv)
              try (rw [hb9]; cbv)
              try (rw [hb9]; cbv)
              try (rw [hb9]; cbv)
              try (rw [hb9]; cbv)
              try (rw [hb9]; cbv)
              try (rw [hb9]; cbv)
              try rw [hg] at h_2
              try rw [ht] at h_2
              refine ⟨⟨(k2 + 1, (wrap .i64 (add v2 1))), hc2_, hs2, h_2⟩, Wk.of [(0, some 0)] rfl rfl ?_ ?_, meas_L hc2_⟩
              · cbv
                all_goals exact ⟨⟨_, rfl, rfl⟩, ⟨_, rfl, rfl⟩, trivial⟩
              · cbv
                all_goals exact ⟨⟨_, rfl, _, rfl, rfl, rfl, rfl, rfl, rfl, trivial⟩, trivial⟩
            | false =>
              rw [br_false hb9] at h_2
              cbv
              try (rw [hb9]; cbv)
              try (rw [hb9]; cbv)
              try (rw [hb9]; cbv)
              try (rw [hb9]; cbv)
              try (rw [hb9]; cbv)
              try (rw [hb9]; cbv)
              obtain ⟨hc5, h_2⟩ := of_gd h_2
              refine AStep.mk hc5 ?_
              cbv
              obtain ⟨x7, hx7, h_2⟩ := of_gt h_2
              try dsimp only at h_2
              refine AGet.mk _ (r_get_I64 hg ht hx7) ?_
              cbv
              try (rw [hb9]; cbv)
              try (rw [hb9]; cbv)
              obtain ⟨hc6, h_2⟩ := of_gd h_2
              refine AStep.mk hc6 ?_
              cbv
              obtain ⟨x8, hx8, h_2⟩ := of_gt h_2
              obtain ⟨x8_Cell, x8_Room, x8_Held⟩ := x8
              try dsimp only at h_2
              refine AGet.mk _ (r_get_Chute hg ht hx8) ?_
              cbv
              try (rw [hb9]; cbv)
              try (rw [hb9]; cbv)
              try (rw [hb9]; cbv)
              try (rw [hb9]; cbv)
              try (rw [hb9]; cbv)
              try (rw [hb9]; cbv)
              try (rw [hb9]; cbv)
              try (rw [hb9]; cbv)
              try (rw [hb9]; cbv)
              try (rw [hb9]; cbv)
              obtain ⟨hc7, h_2⟩ := of_gd h_2
              refine AStep.mk hc7 ?_
              cbv
              refine AGet.mk _ (r_get_I64 hg ht hx7) ?_
              cbv
              try (rw [hb9]; cbv)
              try (rw [hb9]; cbv)
              obtain ⟨hc8, h_2⟩ := of_gd h_2
              refine AStep.mk hc8 ?_
              cbv
              refine AGet.mk _ (r_get_Chute hg ht hx8) ?_
              cbv
              try (rw [hb9]; cbv)
              try (rw [hb9]; cbv)
              try (rw [hb9]; cbv)
              try (rw [hb9]; cbv)
              cases hb10 : (lt (llen (r_Item x8_Held)) x8_Room) with
              | true =>
                rw [br_true hb10] at h_2
                cbv
                obtain rfl := Option.some.inj h_2
                try dsimp only [lr, lrL, lrp, lrpL] at h
                obtain rfl := Option.some.inj h
                exact ARet.mk trivial hX.symm
              | false =>
                rw [br_false hb10] at h_2
                cbv
                try rw [hg] at h_2
                try rw [ht] at h_2
                refine ⟨⟨(k2 + 1, (wrap .i64 (add v2 1))), hc2_, hs2, h_2⟩, Wk.of [(0, some 0)] rfl rfl ?_ ?_, meas_L hc2_⟩
                · cbv
                  all_goals exact ⟨⟨_, rfl, rfl⟩, ⟨_, rfl, rfl⟩, trivial⟩
                · cbv
                  all_goals exact ⟨⟨_, rfl, _, rfl, rfl, rfl, rfl, rfl, rfl, trivial⟩, trivial⟩
          · have hb8 : lt v2 (llen (r_Item a0_Belt)) = false := ltL_false_Item hg ht hi2 hc2_
            rw [List.drop_of_length_le (Nat.le_of_not_lt hc2_)] at h_2
            rw [S_IsStuck_l2] at h_2
            try rw [← hg] at h_2
            try rw [← ht] at h_2
            try dsimp only at h_2
            rw [hb8]
            cbv
            refine ⟨(), Wk.of [] rfl rfl ?_ ?_, (Option.some.inj h_2).symm⟩
            · cbv
              all_goals exact trivial
            · cbv
              all_goals exact trivial
        · rintro _ hy2
          replace hy2 := hy2.symm
          subst hy2
          try dsimp only [lr, lrL, lrp, lrpL] at h
          cbv
          obtain rfl := Option.some.inj h
          exact ARet.mk trivial hX.symm
  | false =>
    rw [br_false hb1] at h
    cbv
    try (rw [hb1]; cbv)
    try (rw [hb1]; cbv)
    obtain rfl := Option.some.inj h
    exact ARet.mk trivial hX.symm
end Go.Vs
