/- Part of the proofs of this seat's laws: L1b. No condition. -/
import Derived.Test.YtlfbmhmjfffimaaTy
import Derived.Test.YtlfbmhmjfffimaaTIRall
set_option linter.unusedVariables false
set_option linter.unusedSimpArgs false
set_option linter.unusedSectionVars false
namespace Go.Vs
set_option maxRecDepth 100000
def ir42 : J :=
  .seq (.reg none [⟨(some 4), none, .mv (.k (V.i 0))⟩] [0, 1])
  (.seq (.reg none [⟨(some 5), none, .mv (.t 1)⟩,
     ⟨(some 6), none, .mv (.t 0)⟩,
     ⟨(some 7), none, .len false (.t 6)⟩,
     ⟨(some 8), none, .bin .sub .i (.t 5) (.t 7)⟩,
     ⟨(some 1), none, .mv (.t 8)⟩] [1])
  (.seq (.seq (.reg none [⟨(some 9), none, .mv (.t 1)⟩,
      ⟨(some 10), none, .bin .lss .i (.t 9) (.k (V.i 0))⟩] [1, 10])
   (.cond (.t 10)
    (.seq (.reg none [⟨(some 4), none, .mv (.k (V.i (-1)))⟩] [4])
     (.ret))
    (.skip)))
  (.seq (.reg none [⟨(some 11), none, .mv (.t 1)⟩,
     ⟨(some 4), none, .mv (.t 11)⟩] [4])
  (.ret))))
def rv42 : List RV := [.t 4]
open Go.Proofs Go.IntWalk
set_option linter.unusedVariables false
set_option maxRecDepth 100000
set_option maxHeartbeats 4000000
def L_szBookingS (g : G) (t : TE) (a0 : List Booking) (a1 : Int) : Int :=
  br (g.lt (g.wrap .i64 (g.sub a1 (g.llen (t.r_Booking a0)))) 0)
  (
   (-1))
  (
   (g.wrap .i64 (g.sub a1 (g.llen (t.r_Booking a0)))))
theorem fit42 : codeFit Try.prog Try.f42.ntmps (Try.f42.body.getD .skip) ir42 = true := by kernel_rfl
theorem c_L_szBookingS {g : G} {t : TE} {a0 : List Booking} {a1 : Int} {r : Int} (hg : g = G.real) (ht : t = TE.real) (h : L_szBookingS g t a0 a1 = r) : Fn Try.prog 42 [.c (.s 4 (t.r_Booking a0)), .c (.v (.int .i64 a1))] (.c (.r (.v (.int .i64 r)))) := by
  obtain ⟨X, hX⟩ := hide (.c (.r (.v (.int .i64 r))) : X)
  rw [← hX]
  refine fn_of (rvs := rv42) (j := ir42) Try.func42 rfl fit42 (Nat.le_of_ble_eq_true rfl) (by kernel_rfl) prog_mixed ?_
  intro g2 F hg2 hF
  obtain rfl : g2 = g := hg2.unique.trans hg.symm
  clear hg2
  obtain ⟨wrap, lt, le, eq, quo, rem, band, bor, bxor, shl, shr, nat, int, add, sub, mul, cat, seq, slt, sub3, byte, llen, nadd, nsub, dlen, dapp, dset, drep, rd, rda, up, rsub, dsub, all, sle, slen⟩ := g2
  obtain ⟨r_S, d_S, r_Trip, d_Trip, r_Leg, d_Leg, r_I64, d_I64, r_Order, d_Order, r_Booking, d_Booking, r_Scan, d_Scan, r_U8, d_U8, r_LI64, d_LI64⟩ := t
  unfold L_szBookingS at h
  try dsimp only at h
  cbv
  cases hb1 : (lt (wrap .i64 (sub a1 (llen (r_Booking a0)))) 0) with
  | true =>
    rw [br_true hb1] at h
    cbv
    subst h
    exact ARet.mk trivial hX.symm
  | false =>
    rw [br_false hb1] at h
    cbv
    subst h
    exact ARet.mk trivial hX.symm
end Go.Vs
namespace Go.Vs
set_option maxRecDepth 100000
def ir24 : J :=
  .seq (.reg none [⟨(some 2), none, .box (.t 0)⟩,
     ⟨(some 4), none, .mv (.k (V.i 0))⟩] [1, 2])
  (.seq (.reg none [⟨(some 5), none, .mv (.k (V.i 0))⟩] [1, 2, 5])
  (.seq (.seq (.reg none [⟨(some 6), none, .mv (.k (V.i 0))⟩] [1, 2, 5, 6])
   (.bl 0 (.seq (.seq (.reg none [⟨(some 7), none, .mv (.t 6)⟩,
        ⟨(some 8), none, .fa 3 (.t 2)⟩,
        ⟨(some 9), none, .ld false 1 (.t 8)⟩,
        ⟨(some 10), none, .len false (.t 9)⟩,
        ⟨(some 11), none, .bin .lss .i (.t 7) (.t 10)⟩] [1, 2, 5, 6, 11])
     (.cond (.t 11)
      (.skip)
      (.exit 0)))
    (.seq (.block 1 (.seq (.reg none [⟨(some 14), none, .fa 3 (.t 2)⟩,
         ⟨(some 15), none, .ld false 1 (.t 14)⟩,
         ⟨(some 16), none, .mv (.t 6)⟩,
         ⟨(some 17), none, .ia 11 (.t 15) (.t 16)⟩,
         ⟨(some 18), none, .fa 8 (.t 17)⟩,
         ⟨(some 19), none, .ld false 1 (.t 18)⟩,
         ⟨(some 20), none, .mv (.t 1)⟩,
         ⟨(some 21), none, .bin .eql .i (.t 19) (.t 20)⟩] [1, 2, 5, 6, 21])
      (.cond (.t 21)
       (.reg none [⟨(some 22), none, .mv (.t 5)⟩,
          ⟨(some 23), none, .bin .add .i (.t 22) (.k (V.i 1))⟩,
          ⟨(some 5), none, .mv (.t 23)⟩] [1, 2, 5, 6])
       (.skip))))
    (.reg none [⟨(some 12), none, .mv (.t 6)⟩,
      ⟨(some 13), none, .bin .add .i (.t 12) (.k (V.i 1))⟩,
      ⟨(some 6), none, .mv (.t 13)⟩] [1, 2, 5, 6])))))
  (.seq (.reg none [⟨(some 24), none, .mv (.t 5)⟩,
     ⟨(some 4), none, .mv (.t 24)⟩] [4])
  (.ret))))
def rv24 : List RV := [.t 4]
open Go.Proofs Go.IntWalk
set_option linter.unusedVariables false
set_option maxRecDepth 100000
set_option maxHeartbeats 4000000
def S_CountState_l1 (g : G) (t : TE) (a1 : Int) : List Order → Int → Int
  | [], v1 =>
    v1
  | z1 :: ls1, v1 =>
    br (g.eq z1.State a1)
    (
     S_CountState_l1 g t a1 ls1 (g.wrap .i64 (g.add v1 1)))
    (
     S_CountState_l1 g t a1 ls1 v1)
def S_CountState (g : G) (t : TE) (a0 : World) (a1 : Int) : Int :=
  lP (S_CountState_l1 g t a1 a0.Orders 0) fun y1 =>
  y1
theorem fit24 : codeFit Try.prog Try.f24.ntmps (Try.f24.body.getD .skip) ir24 = true := by kernel_rfl
theorem c_S_CountState {g : G} {t : TE} {a0 : World} {a1 : Int} {r : Int} (hg : g = G.real) (ht : t = TE.real) (h : S_CountState g t a0 a1 = r) : Fn Try.prog 24 [.g (World.rs t a0), .c (.v (.int .i64 a1))] (.c (.r (.v (.int .i64 r)))) := by
  obtain ⟨X, hX⟩ := hide (.c (.r (.v (.int .i64 r))) : X)
  rw [← hX]
  refine fn_of (rvs := rv24) (j := ir24) Try.func24 rfl fit24 (Nat.le_of_ble_eq_true rfl) (by kernel_rfl) prog_mixed ?_
  intro g2 F hg2 hF
  obtain rfl : g2 = g := hg2.unique.trans hg.symm
  clear hg2
  obtain ⟨wrap, lt, le, eq, quo, rem, band, bor, bxor, shl, shr, nat, int, add, sub, mul, cat, seq, slt, sub3, byte, llen, nadd, nsub, dlen, dapp, dset, drep, rd, rda, up, rsub, dsub, all, sle, slen⟩ := g2
  obtain ⟨r_S, d_S, r_Trip, d_Trip, r_Leg, d_Leg, r_I64, d_I64, r_Order, d_Order, r_Booking, d_Booking, r_Scan, d_Scan, r_U8, d_U8, r_LI64, d_LI64⟩ := t
  obtain ⟨⟨a0_Network_Legs, a0_Network_Off, a0_Network_Change⟩, a0_Orders, a0_Bookings, a0_Closed, a0_Now, a0_Scans, a0_Skip, a0_Made⟩ := a0
  unfold S_CountState at h
  try dsimp only at h
  cbv
  obtain ⟨o1, ho1, h⟩ := of_lP h
  try dsimp only at h
  try rw [hg] at ho1
  try rw [ht] at ho1
  refine ABL.mk { p : Nat × Int × Int // p.1 ≤ a0_Orders.length ∧ p.2.1 = ((p.1 : Nat) : Int) ∧ S_CountState_l1 G.real TE.real a1 (List.drop p.1 a0_Orders) p.2.2 = o1 } (fun ⟨⟨k1, v2, v1⟩, _⟩ => ({ sl := [(1, .c (.r (.v (.int .i64 a1)))), (2, .c (.p 0 10 0 0)), (5, .c (.r (.v (.int .i64 v1)))), (6, .c (.r (.v (.int .i64 v2))))], tab := [(0, some (.foc 10 [] [.r (.s 6 (r_Leg a0_Network_Legs)), .r (.s 1 (r_I64 a0_Network_Off)), .r (.v (.int .i64 a0_Network_Change)), .r (.s 11 (r_Order a0_Orders)), .r (.s 4 (r_Booking a0_Bookings)), .r (.s 2 (r_Trip a0_Closed)), .r (.v (.int .i64 a0_Now)), .r (.s 6 (r_Scan a0_Scans)), .r (.s 1 (r_I64 a0_Skip)), .r (.v (.int .i64 a0_Made))] []))] } : St)) 1 (fun p => a0_Orders.length - p.1.1) ⟨(0, 0, 0), Nat.zero_le _, rfl, ho1⟩ (Int) (fun y1 => ({ sl := [(5, .c (.r (.v (.int .i64 y1))))], tab := [] } : St)) 0 (fun y => o1 = y) ?_ ?_ ?_
  · refine Wk.of [(0, some 0)] rfl rfl ?_ ?_
    · cbv
      all_goals exact ⟨⟨_, rfl, rfl⟩, ⟨_, rfl, rfl⟩, ⟨_, rfl, rfl⟩, ⟨_, rfl, rfl⟩, trivial⟩
    · cbv
      all_goals exact ⟨⟨_, rfl, _, rfl, rfl, rfl, rfl, rfl, rfl, rfl, rfl, rfl, rfl, rfl, trivial⟩, trivial⟩
  · rintro ⟨⟨k1, v2, v1⟩, hk1, hi1, h_1⟩ hq1
    have hm1 := (hq1.2.2.1 0 _ _ _ _ 3 _ _ rfl rfl)
    try dsimp only at hk1 hi1 h_1
    clear hq1
    cbv
    by_cases hc1_ : k1 < a0_Orders.length
    · have hb1 : lt v2 (llen (r_Order a0_Orders)) = true := ltL_true_Order hg ht hi1 hc1_
      have hs1 := stepL_Order hg ht hi1 hc1_ hm1
      obtain ⟨z1, hz1⟩ := some_of_lt hc1_
      rw [drop_of_some hz1] at h_1
      rw [S_CountState_l1] at h_1
      obtain ⟨z1_From, z1_To, z1_Service, z1_Weight, z1_At, z1_Due, z1_Way, z1_Gone, z1_State, z1_Place, z1_Ended⟩ := z1
      try rw [← hg] at h_1
      try rw [← ht] at h_1
      try dsimp only at h_1
      rw [hb1]
      cbv
      refine AStep.mk (nn_L hi1) ?_
      cbv
      refine AGet.mk _ (r_getL_Order hg ht hi1 hz1) ?_
      cbv
      cases hb2 : (eq z1_State a1) with
      | true =>
        rw [br_true hb2] at h_1
        cbv
        try rw [hg] at h_1
        try rw [ht] at h_1
        refine ⟨⟨(k1 + 1, (wrap .i64 (add v2 1)), (wrap .i64 (add v1 1))), hc1_, hs1, h_1⟩, Wk.of [(0, some 0)] rfl rfl ?_ ?_, meas_L hc1_⟩
        · cbv
          all_goals exact ⟨⟨_, rfl, rfl⟩, ⟨_, rfl, rfl⟩, ⟨_, rfl, rfl⟩, ⟨_, rfl, rfl⟩, trivial⟩
        · cbv
          all_goals exact ⟨⟨_, rfl, _, rfl, rfl, rfl, rfl, rfl, rfl, rfl, rfl, rfl, rfl, rfl, trivial⟩, trivial⟩
      | false =>
        rw [br_false hb2] at h_1
        cbv
        try rw [hg] at h_1
        try rw [ht] at h_1
        refine ⟨⟨(k1 + 1, (wrap .i64 (add v2 1)), v1), hc1_, hs1, h_1⟩, Wk.of [(0, some 0)] rfl rfl ?_ ?_, meas_L hc1_⟩
        · cbv
          all_goals exact ⟨⟨_, rfl, rfl⟩, ⟨_, rfl, rfl⟩, ⟨_, rfl, rfl⟩, ⟨_, rfl, rfl⟩, trivial⟩
        · cbv
          all_goals exact ⟨⟨_, rfl, _, rfl, rfl, rfl, rfl, rfl, rfl, rfl, rfl, rfl, rfl, rfl, trivial⟩, trivial⟩
    · have hb1 : lt v2 (llen (r_Order a0_Orders)) = false := ltL_false_Order hg ht hi1 hc1_
      rw [List.drop_of_length_le (Nat.le_of_not_lt hc1_)] at h_1
      rw [S_CountState_l1] at h_1
      try rw [← hg] at h_1
      try rw [← ht] at h_1
      try dsimp only at h_1
      rw [hb1]
      cbv
      refine ⟨v1, Wk.of [] rfl rfl ?_ ?_, h_1.symm⟩
      · cbv
        all_goals exact ⟨⟨_, rfl, rfl⟩, trivial⟩
      · cbv
        all_goals exact trivial
  · rintro y1 hy1
    replace hy1 := hy1.symm
    subst hy1
    try dsimp only [lr, lrL, lrp, lrpL] at h
    cbv
    subst h
    exact ARet.mk trivial hX.symm
end Go.Vs
namespace Go.Vs
set_option maxRecDepth 100000
def ir75 : J :=
  .seq (.reg none [⟨(some 2), none, .mv (.k (.c (.n 1)))⟩] [0])
  (.seq (.reg none [⟨(some 5), none, .mv (.t 0)⟩,
     ⟨(some 6), none, .len false (.t 5)⟩,
     ⟨(some 7), none, .mk 1 8 [.r (.v (.int .i64 0))] (.t 6)⟩,
     ⟨(some 3), none, .mv (.t 7)⟩] [0, 3])
  (.seq (.seq (.reg none [⟨(some 4), none, .mv (.k (V.i 0))⟩] [0, 3, 4])
   (.bl 0 (.seq (.seq (.reg none [⟨(some 8), none, .mv (.t 4)⟩,
        ⟨(some 9), none, .mv (.t 0)⟩,
        ⟨(some 10), none, .len false (.t 9)⟩,
        ⟨(some 11), none, .bin .lss .i (.t 8) (.t 10)⟩] [0, 3, 4, 11])
     (.cond (.t 11)
      (.skip)
      (.exit 0)))
    (.seq (.block 1 (.reg none [⟨(some 14), none, .mv (.t 3)⟩,
        ⟨(some 15), none, .mv (.t 4)⟩,
        ⟨(some 16), none, .mv (.t 0)⟩,
        ⟨(some 17), none, .mv (.t 4)⟩,
        ⟨(some 18), none, .ia 1 (.t 16) (.t 17)⟩,
        ⟨(some 19), none, .ld false 1 (.t 18)⟩,
        ⟨(some 20), none, .ia 1 (.t 14) (.t 15)⟩,
        ⟨none, none, .st 1 (.t 20) (.t 19)⟩] [0, 3, 4]))
    (.reg none [⟨(some 12), none, .mv (.t 4)⟩,
      ⟨(some 13), none, .bin .add .i (.t 12) (.k (V.i 1))⟩,
      ⟨(some 4), none, .mv (.t 13)⟩] [0, 3, 4])))))
  (.seq (.reg none [⟨(some 21), none, .mv (.t 3)⟩,
     ⟨(some 2), none, .mv (.t 21)⟩] [2])
  (.ret))))
def rv75 : List RV := [.t 2]
open Go.Proofs Go.IntWalk
set_option linter.unusedVariables false
set_option maxRecDepth 100000
set_option maxHeartbeats 4000000
def L_toIntS_l1 (g : G) (t : TE) : List Int → Int → List Int → Option (List Int)
  | [], v1, w1 =>
    some w1
  | z1 :: ls1, v1, w1 =>
    gd ((0 ≤ v1 ∧ v1 < (((g.dlen (t.d_I64 w1)) : Nat) : Int))) <|
    gt w1 (g.nat v1) fun x1 =>
    lP (List.set w1 (g.nat v1) z1) fun (l2 : List Int) =>
    L_toIntS_l1 g t ls1 (g.wrap .i64 (g.add v1 1)) l2
def L_toIntS (g : G) (t : TE) (a0 : List Int) : Option (List Int) :=
  gd ((0 ≤ (g.llen (t.r_I64 a0)) ∧ 8 * (g.llen (t.r_I64 a0)) ≤ 70368744177664 ∧ (g.llen (t.r_I64 a0)) ≤ 4611686018427387904)) <|
  lP (List.replicate (g.nat (g.llen (t.r_I64 a0))) 0) fun (l1 : List Int) =>
  cl (L_toIntS_l1 g t a0 0 l1) fun y1 =>
  some y1
theorem fit75 : codeFit Try.prog Try.f75.ntmps (Try.f75.body.getD .skip) ir75 = true := by kernel_rfl
theorem c_L_toIntS {g : G} {t : TE} {a0 : List Int} {r : List Int} (hg : g = G.real) (ht : t = TE.real) (h : L_toIntS g t a0 = some r) : Fn Try.prog 75 [.c (.s 1 (t.r_I64 a0))] (.c (.o 1 (t.d_I64 r))) := by
  obtain ⟨X, hX⟩ := hide (.c (.o 1 (t.d_I64 r)) : X)
  rw [← hX]
  refine fn_of (rvs := rv75) (j := ir75) Try.func75 rfl fit75 (Nat.le_of_ble_eq_true rfl) (by kernel_rfl) prog_mixed ?_
  intro g2 F hg2 hF
  obtain rfl : g2 = g := hg2.unique.trans hg.symm
  clear hg2
  obtain ⟨wrap, lt, le, eq, quo, rem, band, bor, bxor, shl, shr, nat, int, add, sub, mul, cat, seq, slt, sub3, byte, llen, nadd, nsub, dlen, dapp, dset, drep, rd, rda, up, rsub, dsub, all, sle, slen⟩ := g2
  obtain ⟨r_S, d_S, r_Trip, d_Trip, r_Leg, d_Leg, r_I64, d_I64, r_Order, d_Order, r_Booking, d_Booking, r_Scan, d_Scan, r_U8, d_U8, r_LI64, d_LI64⟩ := t
  unfold L_toIntS at h
  try dsimp only at h
  cbv
  obtain ⟨hc2, h⟩ := of_gd h
  refine AStep.mk (mk_ok hc2) ?_
  cbv
  obtain ⟨l1, hl1, h⟩ := of_lP h
  try dsimp only at h
  refine ANew.mk (d_I64 l1) (dlen (d_I64 l1)) (by rw [← hl1]; exact drep_I64 hg ht _ 0) (by rw [← hl1]; exact drepn_I64 hg ht _ 0) ?_
  cbv
  obtain ⟨o1, ho1, h⟩ := of_cl h
  try dsimp only at h
  try rw [hg] at ho1
  try rw [ht] at ho1
  refine ABL.mk { p : Nat × Int × List Int // p.1 ≤ a0.length ∧ p.2.1 = ((p.1 : Nat) : Int) ∧ L_toIntS_l1 G.real TE.real (List.drop p.1 a0) p.2.1 p.2.2 = some o1 } (fun ⟨⟨k1, v1, w1⟩, _⟩ => ({ sl := [(0, .c (.r (.s 1 (r_I64 a0)))), (3, .c (.f 0 1 0 (dlen (d_I64 w1)))), (4, .c (.r (.v (.int .i64 v1))))], tab := [(0, some (.arr 1 (d_I64 w1)))] } : St)) 1 (fun p => a0.length - p.1.1) ⟨(0, 0, l1), Nat.zero_le _, rfl, ho1⟩ (List Int) (fun y1 => ({ sl := [(3, .c (.f 0 1 0 (dlen (d_I64 y1))))], tab := [(0, some (.arr 1 (d_I64 y1)))] } : St)) 1 (fun y => o1 = y) ?_ ?_ ?_
  · refine Wk.of [(0, some 48)] rfl rfl ?_ ?_
    · cbv
      all_goals exact ⟨⟨_, rfl, rfl⟩, ⟨_, rfl, rfl⟩, ⟨_, rfl, rfl⟩, trivial⟩
    · cbv
      all_goals exact ⟨⟨_, rfl, rfl⟩, trivial⟩
  · rintro ⟨⟨k1, v1, w1⟩, hk1, hi1, h_1⟩ hq1
    have hm1 := (hq1.1 0 _ _ rfl)
    try dsimp only at hk1 hi1 h_1
    clear hq1
    cbv
    by_cases hc1_ : k1 < a0.length
    · have hb1 : lt v1 (llen (r_I64 a0)) = true := ltL_true_I64 hg ht hi1 hc1_
      have hs1 := stepL_I64 hg ht hi1 hc1_ hm1
      obtain ⟨z1, hz1⟩ := some_of_lt hc1_
      rw [drop_of_some hz1] at h_1
      rw [L_toIntS_l1] at h_1
      try rw [← hg] at h_1
      try rw [← ht] at h_1
      try dsimp only at h_1
      rw [hb1]
      cbv
      refine AStep.mk (nn_L hi1) ?_
      cbv
      refine AGet.mk _ (r_getL_I64 hg ht hi1 hz1) ?_
      cbv
      obtain ⟨hc1, h_1⟩ := of_gd h_1
      refine AStep.mk hc1 ?_
      cbv
      obtain ⟨x1, hx1, h_1⟩ := of_gt h_1
      try dsimp only at h_1
      refine AGet.mk _ (d_get_I64 hg ht hx1) ?_
      cbv
      obtain ⟨l2, hl2, h_1⟩ := of_lP h_1
      try dsimp only at h_1
      refine ANew.mk (d_I64 l2) _ (by rw [← hl2]; exact dset_I64 hg ht _ _ z1) rfl ?_
      have hnl2 : (dlen (d_I64 w1)) = (d_I64 l2).length := (by rw [← hl2, dsetl_I64 ht]; exact (dlen_I64 hg ht _))
      cbv
      try rw [hg] at h_1
      try rw [ht] at h_1
      refine ⟨⟨(k1 + 1, (wrap .i64 (add v1 1)), l2), hc1_, hs1, h_1⟩, Wk.of [(0, some 0)] rfl rfl ?_ ?_, meas_L hc1_⟩
      · cbv
        all_goals try rw [show (dlen (d_I64 w1)) = (dlen (d_I64 l2)) from (hnl2).trans (dlen_I64 hg ht _).symm]
        all_goals exact ⟨⟨_, rfl, rfl⟩, ⟨_, rfl, rfl⟩, ⟨_, rfl, rfl⟩, trivial⟩
      · cbv
        all_goals try rw [show (dlen (d_I64 w1)) = (dlen (d_I64 l2)) from (hnl2).trans (dlen_I64 hg ht _).symm]
        all_goals exact ⟨⟨_, rfl, rfl⟩, trivial⟩
    · have hb1 : lt v1 (llen (r_I64 a0)) = false := ltL_false_I64 hg ht hi1 hc1_
      rw [List.drop_of_length_le (Nat.le_of_not_lt hc1_)] at h_1
      rw [L_toIntS_l1] at h_1
      try rw [← hg] at h_1
      try rw [← ht] at h_1
      try dsimp only at h_1
      rw [hb1]
      cbv
      refine ⟨w1, Wk.of [(0, some 0)] rfl rfl ?_ ?_, (Option.some.inj h_1).symm⟩
      · cbv
        all_goals exact ⟨⟨_, rfl, rfl⟩, trivial⟩
      · cbv
        all_goals exact ⟨⟨_, rfl, rfl⟩, trivial⟩
  · rintro y1 hy1
    replace hy1 := hy1.symm
    subst hy1
    try dsimp only [lr, lrL, lrp, lrpL] at h
    cbv
    obtain rfl := Option.some.inj h
    exact ARet.mk ⟨rfl, (dlen_I64 hg ht _)⟩ hX.symm
end Go.Vs
namespace Go.Vs
set_option maxRecDepth 100000
def ir127 : J :=
  .seq (.reg none [⟨(some 1), none, .box (.t 0)⟩,
     ⟨(some 2), none, .alloc [.r (.v (.string .empty)), .r (.v (.string .empty)), .r (.v (.int .i64 0)), .r (.v (.int .i64 0)), .r (.v (.int .i64 0)), .r (.v (.int .i64 0))]⟩] [1, 2])
  (.seq (.reg none [⟨(some 3), none, .alloc [.r (.v (.string .empty)), .r (.v (.string .empty)), .r (.v (.int .i64 0)), .r (.v (.int .i64 0)), .r (.v (.int .i64 0)), .r (.v (.int .i64 0))]⟩] [1, 2, 3])
  (.seq (.reg none [⟨(some 4), none, .fa 0 (.t 1)⟩,
     ⟨(some 5), none, .ld false 1 (.t 4)⟩,
     ⟨(some 6), none, .fa 0 (.t 3)⟩,
     ⟨none, none, .st 1 (.t 6) (.t 5)⟩] [1, 2, 3])
  (.seq (.reg none [⟨(some 7), none, .fa 1 (.t 1)⟩,
     ⟨(some 8), none, .ld false 1 (.t 7)⟩,
     ⟨(some 9), none, .fa 1 (.t 3)⟩,
     ⟨none, none, .st 1 (.t 9) (.t 8)⟩] [1, 2, 3])
  (.seq (.reg none [⟨(some 10), none, .fa 2 (.t 1)⟩,
     ⟨(some 11), none, .ld false 1 (.t 10)⟩,
     ⟨(some 12), none, .fa 2 (.t 3)⟩,
     ⟨none, none, .st 1 (.t 12) (.t 11)⟩] [1, 2, 3])
  (.seq (.reg none [⟨(some 13), none, .fa 3 (.t 1)⟩,
     ⟨(some 14), none, .ld false 1 (.t 13)⟩,
     ⟨(some 15), none, .fa 3 (.t 3)⟩,
     ⟨none, none, .st 1 (.t 15) (.t 14)⟩] [1, 2, 3])
  (.seq (.reg none [⟨(some 16), none, .fa 4 (.t 1)⟩,
     ⟨(some 17), none, .ld false 1 (.t 16)⟩,
     ⟨(some 18), none, .fa 4 (.t 3)⟩,
     ⟨none, none, .st 1 (.t 18) (.t 17)⟩] [1, 2, 3])
  (.seq (.reg none [⟨(some 19), none, .fa 5 (.t 1)⟩,
     ⟨(some 20), none, .ld false 1 (.t 19)⟩,
     ⟨(some 21), none, .fa 5 (.t 3)⟩,
     ⟨none, none, .st 1 (.t 21) (.t 20)⟩] [2, 3])
  (.seq (.reg none [⟨(some 22), none, .ld true 6 (.t 3)⟩,
     ⟨none, none, .st 6 (.t 2) (.t 22)⟩] [2])
  (.ret)))))))))
def rv127 : List RV := [.c 2 true 6]
open Go.Proofs Go.IntWalk
set_option linter.unusedVariables false
set_option maxRecDepth 100000
set_option maxHeartbeats 4000000
def L_toLeg (g : G) (t : TE) (a0 : Leg) : Leg :=
  a0
theorem fit127 : codeFit Try.prog Try.f127.ntmps (Try.f127.body.getD .skip) ir127 = true := by kernel_rfl
theorem c_L_toLeg {g : G} {t : TE} {a0 : Leg} {r : Leg} (hg : g = G.real) (ht : t = TE.real) (h : L_toLeg g t a0 = r) : Fn Try.prog 127 [.g (Leg.rs t a0)] (.g (Leg.ds t r)) := by
  obtain ⟨X, hX⟩ := hide (.g (Leg.ds t r) : X)
  rw [← hX]
  refine fn_of (rvs := rv127) (j := ir127) Try.func127 rfl fit127 (Nat.le_of_ble_eq_true rfl) (by kernel_rfl) prog_mixed ?_
  intro g2 F hg2 hF
  obtain rfl : g2 = g := hg2.unique.trans hg.symm
  clear hg2
  obtain ⟨wrap, lt, le, eq, quo, rem, band, bor, bxor, shl, shr, nat, int, add, sub, mul, cat, seq, slt, sub3, byte, llen, nadd, nsub, dlen, dapp, dset, drep, rd, rda, up, rsub, dsub, all, sle, slen⟩ := g2
  obtain ⟨r_S, d_S, r_Trip, d_Trip, r_Leg, d_Leg, r_I64, d_I64, r_Order, d_Order, r_Booking, d_Booking, r_Scan, d_Scan, r_U8, d_U8, r_LI64, d_LI64⟩ := t
  obtain ⟨a0_From, a0_To, a0_Start, a0_Takes, a0_Days, a0_Room⟩ := a0
  unfold L_toLeg at h
  try dsimp only at h
  cbv
  subst h
  exact ARet.mk trivial hX.symm
end Go.Vs
namespace Go.Vs
set_option maxRecDepth 100000
def ir26 : J :=
  .seq (.reg none [⟨(some 2), none, .box (.t 0)⟩,
     ⟨(some 4), none, .mv (.k (V.i 0))⟩] [1, 2])
  (.seq (.reg none [⟨(some 5), none, .mv (.k (V.i 0))⟩] [1, 2, 5])
  (.seq (.seq (.reg none [⟨(some 8), none, .fa 3 (.t 2)⟩,
      ⟨(some 9), none, .ld false 1 (.t 8)⟩,
      ⟨(some 10), none, .len false (.t 9)⟩,
      ⟨(some 11), none, .mv (.k (V.i 0))⟩] [1, 5, 9, 10, 11])
   (.bl 0 (.seq (.reg none [⟨(some 12), none, .bin .lss .i (.t 11) (.t 10)⟩] [1, 5, 9, 10, 11, 12])
    (.seq (.cond (.t 12)
      (.skip)
      (.exit 0))
    (.seq (.block 1 (.seq (.reg none [⟨(some 13), none, .ia 11 (.t 9) (.t 11)⟩,
         ⟨(some 14), none, .ld true 11 (.t 13)⟩,
         ⟨(some 7), none, .alloc [.r (.v (.string .empty)), .r (.v (.string .empty)), .r (.v (.int .i64 0)), .r (.v (.int .i64 0)), .r (.v (.int .i64 0)), .r (.v (.int .i64 0)), .n 2, .r (.v (.int .i64 0)), .r (.v (.int .i64 0)), .r (.v (.string .empty)), .r (.v (.int .i64 0))]⟩,
         ⟨none, none, .st 11 (.t 7) (.t 14)⟩] [1, 5, 7, 9, 10, 11])
      (.seq (.reg none [⟨(some 15), none, .fa 8 (.t 7)⟩,
         ⟨(some 16), none, .ld false 1 (.t 15)⟩,
         ⟨(some 17), none, .mv (.t 1)⟩,
         ⟨(some 18), none, .bin .eql .i (.t 16) (.t 17)⟩] [1, 5, 9, 10, 11, 18])
      (.cond (.t 18)
       (.reg none [⟨(some 19), none, .mv (.t 5)⟩,
          ⟨(some 20), none, .bin .add .i (.t 19) (.k (V.i 1))⟩,
          ⟨(some 5), none, .mv (.t 20)⟩] [1, 5, 9, 10, 11])
       (.skip)))))
    (.reg none [⟨(some 21), none, .bin .add .i (.t 11) (.k (V.i 1))⟩,
      ⟨(some 11), none, .mv (.t 21)⟩] [1, 5, 9, 10, 11]))))))
  (.seq (.reg none [⟨(some 22), none, .mv (.t 5)⟩,
     ⟨(some 4), none, .mv (.t 22)⟩] [4])
  (.ret))))
def rv26 : List RV := [.t 4]
open Go.Proofs Go.IntWalk
set_option linter.unusedVariables false
set_option maxRecDepth 100000
set_option maxHeartbeats 4000000
def I_CountState_l1 (g : G) (t : TE) (a1 : Int) : List Order → Int → Int
  | [], v1 =>
    v1
  | z1 :: ls1, v1 =>
    br (g.eq z1.State a1)
    (
     I_CountState_l1 g t a1 ls1 (g.wrap .i64 (g.add v1 1)))
    (
     I_CountState_l1 g t a1 ls1 v1)
def I_CountState (g : G) (t : TE) (a0 : World) (a1 : Int) : Int :=
  lP (I_CountState_l1 g t a1 a0.Orders 0) fun y1 =>
  y1
theorem fit26 : codeFit Try.prog Try.f26.ntmps (Try.f26.body.getD .skip) ir26 = true := by kernel_rfl
theorem c_I_CountState {g : G} {t : TE} {a0 : World} {a1 : Int} {r : Int} (hg : g = G.real) (ht : t = TE.real) (h : I_CountState g t a0 a1 = r) : Fn Try.prog 26 [.g (World.rs t a0), .c (.v (.int .i64 a1))] (.c (.r (.v (.int .i64 r)))) := by
  obtain ⟨X, hX⟩ := hide (.c (.r (.v (.int .i64 r))) : X)
  rw [← hX]
  refine fn_of (rvs := rv26) (j := ir26) Try.func26 rfl fit26 (Nat.le_of_ble_eq_true rfl) (by kernel_rfl) prog_mixed ?_
  intro g2 F hg2 hF
  obtain rfl : g2 = g := hg2.unique.trans hg.symm
  clear hg2
  obtain ⟨wrap, lt, le, eq, quo, rem, band, bor, bxor, shl, shr, nat, int, add, sub, mul, cat, seq, slt, sub3, byte, llen, nadd, nsub, dlen, dapp, dset, drep, rd, rda, up, rsub, dsub, all, sle, slen⟩ := g2
  obtain ⟨r_S, d_S, r_Trip, d_Trip, r_Leg, d_Leg, r_I64, d_I64, r_Order, d_Order, r_Booking, d_Booking, r_Scan, d_Scan, r_U8, d_U8, r_LI64, d_LI64⟩ := t
  obtain ⟨⟨a0_Network_Legs, a0_Network_Off, a0_Network_Change⟩, a0_Orders, a0_Bookings, a0_Closed, a0_Now, a0_Scans, a0_Skip, a0_Made⟩ := a0
  unfold I_CountState at h
  try dsimp only at h
  cbv
  obtain ⟨o1, ho1, h⟩ := of_lP h
  try dsimp only at h
  try rw [hg] at ho1
  try rw [ht] at ho1
  refine ABL.mk { p : Nat × Int × Int // p.1 ≤ a0_Orders.length ∧ p.2.1 = ((p.1 : Nat) : Int) ∧ I_CountState_l1 G.real TE.real a1 (List.drop p.1 a0_Orders) p.2.2 = o1 } (fun ⟨⟨k1, v2, v1⟩, _⟩ => ({ sl := [(1, .c (.r (.v (.int .i64 a1)))), (5, .c (.r (.v (.int .i64 v1)))), (9, .c (.r (.s 11 (r_Order a0_Orders)))), (10, .c (.r (.v (.int .i64 (llen (r_Order a0_Orders)))))), (11, .c (.r (.v (.int .i64 v2))))], tab := [] } : St)) 0 (fun p => a0_Orders.length - p.1.1) ⟨(0, 0, 0), Nat.zero_le _, rfl, ho1⟩ (Int) (fun y1 => ({ sl := [(5, .c (.r (.v (.int .i64 y1))))], tab := [] } : St)) 0 (fun y => o1 = y) ?_ ?_ ?_
  · refine Wk.of [] rfl rfl ?_ ?_
    · cbv
      all_goals exact ⟨⟨_, rfl, rfl⟩, ⟨_, rfl, rfl⟩, ⟨_, rfl, rfl⟩, ⟨_, rfl, rfl⟩, ⟨_, rfl, rfl⟩, trivial⟩
    · cbv
      all_goals exact trivial
  · rintro ⟨⟨k1, v2, v1⟩, hk1, hi1, h_1⟩ hq1
    have hm1 := (hq1.1 9 _ _ rfl)
    try dsimp only at hk1 hi1 h_1
    clear hq1
    cbv
    by_cases hc1_ : k1 < a0_Orders.length
    · have hb1 : lt v2 (llen (r_Order a0_Orders)) = true := ltL_true_Order hg ht hi1 hc1_
      have hs1 := stepL_Order hg ht hi1 hc1_ hm1
      obtain ⟨z1, hz1⟩ := some_of_lt hc1_
      rw [drop_of_some hz1] at h_1
      rw [I_CountState_l1] at h_1
      obtain ⟨z1_From, z1_To, z1_Service, z1_Weight, z1_At, z1_Due, z1_Way, z1_Gone, z1_State, z1_Place, z1_Ended⟩ := z1
      try rw [← hg] at h_1
      try rw [← ht] at h_1
      try dsimp only at h_1
      rw [hb1]
      cbv
      refine AStep.mk (nn_L hi1) ?_
      cbv
      refine AGet.mk _ (r_getL_Order hg ht hi1 hz1) ?_
      cbv
      cases hb2 : (eq z1_State a1) with
      | true =>
        rw [br_true hb2] at h_1
        cbv
        try rw [hg] at h_1
        try rw [ht] at h_1
        refine ⟨⟨(k1 + 1, (wrap .i64 (add v2 1)), (wrap .i64 (add v1 1))), hc1_, hs1, h_1⟩, Wk.of [] rfl rfl ?_ ?_, meas_L hc1_⟩
        · cbv
          all_goals exact ⟨⟨_, rfl, rfl⟩, ⟨_, rfl, rfl⟩, ⟨_, rfl, rfl⟩, ⟨_, rfl, rfl⟩, ⟨_, rfl, rfl⟩, trivial⟩
        · cbv
          all_goals exact trivial
      | false =>
        rw [br_false hb2] at h_1
        cbv
        try rw [hg] at h_1
        try rw [ht] at h_1
        refine ⟨⟨(k1 + 1, (wrap .i64 (add v2 1)), v1), hc1_, hs1, h_1⟩, Wk.of [] rfl rfl ?_ ?_, meas_L hc1_⟩
        · cbv
          all_goals exact ⟨⟨_, rfl, rfl⟩, ⟨_, rfl, rfl⟩, ⟨_, rfl, rfl⟩, ⟨_, rfl, rfl⟩, ⟨_, rfl, rfl⟩, trivial⟩
        · cbv
          all_goals exact trivial
    · have hb1 : lt v2 (llen (r_Order a0_Orders)) = false := ltL_false_Order hg ht hi1 hc1_
      rw [List.drop_of_length_le (Nat.le_of_not_lt hc1_)] at h_1
      rw [I_CountState_l1] at h_1
      try rw [← hg] at h_1
      try rw [← ht] at h_1
      try dsimp only at h_1
      rw [hb1]
      cbv
      refine ⟨v1, Wk.of [] rfl rfl ?_ ?_, h_1.symm⟩
      · cbv
        all_goals exact ⟨⟨_, rfl, rfl⟩, trivial⟩
      · cbv
        all_goals exact trivial
  · rintro y1 hy1
    replace hy1 := hy1.symm
    subst hy1
    try dsimp only [lr, lrL, lrp, lrpL] at h
    cbv
    subst h
    exact ARet.mk trivial hX.symm
end Go.Vs
namespace Go.Vs
set_option maxRecDepth 100000
def ir48 : J :=
  .seq (.reg none [⟨(some 4), none, .mv (.k (V.b false))⟩] [0, 1])
  (.seq (.seq (.reg none [⟨(some 6), none, .mv (.t 0)⟩,
      ⟨(some 7), none, .len false (.t 6)⟩,
      ⟨(some 8), none, .mv (.t 1)⟩,
      ⟨(some 9), none, .len false (.t 8)⟩,
      ⟨(some 10), none, .bin .neq .i (.t 7) (.t 9)⟩] [0, 1, 10])
   (.cond (.t 10)
    (.seq (.reg none [⟨(some 4), none, .mv (.k (V.b false))⟩] [4])
     (.ret))
    (.skip)))
  (.seq (.seq (.reg none [⟨(some 5), none, .mv (.k (V.i 0))⟩] [0, 1, 5])
   (.bl 0 (.seq (.seq (.reg none [⟨(some 11), none, .mv (.t 5)⟩,
        ⟨(some 12), none, .mv (.t 0)⟩,
        ⟨(some 13), none, .len false (.t 12)⟩,
        ⟨(some 14), none, .bin .lss .i (.t 11) (.t 13)⟩] [0, 1, 5, 14])
     (.cond (.t 14)
      (.skip)
      (.exit 0)))
    (.seq (.block 1 (.seq (.reg (some [[], [], [0, 1], [0, 1, 2], [], [], [4, 5], [4, 5, 6], [0, 1, 2, 3, 4, 5, 6, 7]]) [⟨(some 17), none, .mv (.t 0)⟩,
         ⟨(some 18), none, .mv (.t 5)⟩,
         ⟨(some 19), none, .ia 1 (.t 17) (.t 18)⟩,
         ⟨(some 20), none, .ld false 1 (.t 19)⟩,
         ⟨(some 21), none, .mv (.t 1)⟩,
         ⟨(some 22), none, .mv (.t 5)⟩,
         ⟨(some 23), none, .ia 1 (.t 21) (.t 22)⟩,
         ⟨(some 24), none, .ld false 1 (.t 23)⟩,
         ⟨(some 25), none, .bin .neq .i (.t 20) (.t 24)⟩] [0, 1, 5, 25])
      (.cond (.t 25)
       (.seq (.reg none [⟨(some 4), none, .mv (.k (V.b false))⟩] [4])
        (.ret))
       (.skip))))
    (.reg none [⟨(some 15), none, .mv (.t 5)⟩,
      ⟨(some 16), none, .bin .add .i (.t 15) (.k (V.i 1))⟩,
      ⟨(some 5), none, .mv (.t 16)⟩] [0, 1, 5])))))
  (.seq (.reg none [⟨(some 4), none, .mv (.k (V.b true))⟩] [4])
  (.ret))))
def rv48 : List RV := [.t 4]
open Go.Proofs Go.IntWalk
set_option linter.unusedVariables false
set_option maxRecDepth 100000
set_option maxHeartbeats 4000000
def L_eqIntS_l1 (g : G) (t : TE) (a1 : List Int) : List Int → Int → Option (LR Bool Unit)
  | [], v1 =>
    some (LR.out ())
  | z1 :: ls1, v1 =>
    gt a1 (g.nat v1) fun x1 =>
    br (g.eq z1 x1)
    (
     L_eqIntS_l1 g t a1 ls1 (g.wrap .i64 (g.add v1 1)))
    (
     some (LR.ret false))
def L_eqIntS (g : G) (t : TE) (a0 : List Int) (a1 : List Int) : Option Bool :=
  br (g.eq (g.llen (t.r_I64 a0)) (g.llen (t.r_I64 a1)))
  (
   cl (L_eqIntS_l1 g t a1 a0 0) fun o1 => lr o1 fun y1 =>
   some true)
  (
   some false)
theorem fit48 : codeFit Try.prog Try.f48.ntmps (Try.f48.body.getD .skip) ir48 = true := by kernel_rfl
theorem c_L_eqIntS {g : G} {t : TE} {a0 : List Int} {a1 : List Int} {r : Bool} (hg : g = G.real) (ht : t = TE.real) (h : L_eqIntS g t a0 a1 = some r) : Fn Try.prog 48 [.c (.s 1 (t.r_I64 a0)), .c (.s 1 (t.r_I64 a1))] (.c (.r (.v (.bool r)))) := by
  obtain ⟨X, hX⟩ := hide (.c (.r (.v (.bool r))) : X)
  rw [← hX]
  refine fn_of (rvs := rv48) (j := ir48) Try.func48 rfl fit48 (Nat.le_of_ble_eq_true rfl) (by kernel_rfl) prog_mixed ?_
  intro g2 F hg2 hF
  obtain rfl : g2 = g := hg2.unique.trans hg.symm
  clear hg2
  obtain ⟨wrap, lt, le, eq, quo, rem, band, bor, bxor, shl, shr, nat, int, add, sub, mul, cat, seq, slt, sub3, byte, llen, nadd, nsub, dlen, dapp, dset, drep, rd, rda, up, rsub, dsub, all, sle, slen⟩ := g2
  obtain ⟨r_S, d_S, r_Trip, d_Trip, r_Leg, d_Leg, r_I64, d_I64, r_Order, d_Order, r_Booking, d_Booking, r_Scan, d_Scan, r_U8, d_U8, r_LI64, d_LI64⟩ := t
  unfold L_eqIntS at h
  try dsimp only at h
  cbv
  cases hb1 : (eq (llen (r_I64 a0)) (llen (r_I64 a1))) with
  | true =>
    rw [br_true hb1] at h
    cbv
    obtain ⟨o1, ho1, h⟩ := of_cl h
    try dsimp only at h
    try rw [hg] at ho1
    try rw [ht] at ho1
    refine ABL.mk { p : Nat × Int // p.1 ≤ a0.length ∧ p.2 = ((p.1 : Nat) : Int) ∧ L_eqIntS_l1 G.real TE.real a1 (List.drop p.1 a0) p.2 = some o1 } (fun ⟨⟨k1, v1⟩, _⟩ => ({ sl := [(0, .c (.r (.s 1 (r_I64 a0)))), (1, .c (.r (.s 1 (r_I64 a1)))), (5, .c (.r (.v (.int .i64 v1))))], tab := [] } : St)) 0 (fun p => a0.length - p.1.1) ⟨(0, 0), Nat.zero_le _, rfl, ho1⟩ (Unit) (fun _ => ({ sl := [], tab := [] } : St)) 0 (fun y => o1 = LR.out y) ?_ ?_ ?_
    · refine Wk.of [] rfl rfl ?_ ?_
      · cbv
        all_goals exact ⟨⟨_, rfl, rfl⟩, ⟨_, rfl, rfl⟩, ⟨_, rfl, rfl⟩, trivial⟩
      · cbv
        all_goals exact trivial
    · rintro ⟨⟨k1, v1⟩, hk1, hi1, h_1⟩ hq1
      have hm1 := (hq1.1 0 _ _ rfl)
      try dsimp only at hk1 hi1 h_1
      clear hq1
      cbv
      by_cases hc1_ : k1 < a0.length
      · have hb2 : lt v1 (llen (r_I64 a0)) = true := ltL_true_I64 hg ht hi1 hc1_
        have hs1 := stepL_I64 hg ht hi1 hc1_ hm1
        obtain ⟨z1, hz1⟩ := some_of_lt hc1_
        rw [drop_of_some hz1] at h_1
        rw [L_eqIntS_l1] at h_1
        try rw [← hg] at h_1
        try rw [← ht] at h_1
        try dsimp only at h_1
        rw [hb2]
        cbv
        refine AStep.mk (nn_L hi1) ?_
        cbv
        refine AGet.mk _ (r_getL_I64 hg ht hi1 hz1) ?_
        cbv
        refine AStep.mk (nn_L hi1) ?_
        cbv
        obtain ⟨x1, hx1, h_1⟩ := of_gt h_1
        try dsimp only at h_1
        refine AGet.mk _ (r_get_I64 hg ht hx1) ?_
        cbv
        cases hb3 : (eq z1 x1) with
        | true =>
          rw [br_true hb3] at h_1
          cbv
          try rw [hg] at h_1
          try rw [ht] at h_1
          refine ⟨⟨(k1 + 1, (wrap .i64 (add v1 1))), hc1_, hs1, h_1⟩, Wk.of [] rfl rfl ?_ ?_, meas_L hc1_⟩
          · cbv
            all_goals exact ⟨⟨_, rfl, rfl⟩, ⟨_, rfl, rfl⟩, ⟨_, rfl, rfl⟩, trivial⟩
          · cbv
            all_goals exact trivial
        | false =>
          rw [br_false hb3] at h_1
          cbv
          obtain rfl := Option.some.inj h_1
          try dsimp only [lr, lrL, lrp, lrpL] at h
          obtain rfl := Option.some.inj h
          exact ARet.mk trivial hX.symm
      · have hb2 : lt v1 (llen (r_I64 a0)) = false := ltL_false_I64 hg ht hi1 hc1_
        rw [List.drop_of_length_le (Nat.le_of_not_lt hc1_)] at h_1
        rw [L_eqIntS_l1] at h_1
        try rw [← hg] at h_1
        try rw [← ht] at h_1
        try dsimp only at h_1
        rw [hb2]
        cbv
        refine ⟨(), Wk.of [] rfl rfl ?_ ?_, (Option.some.inj h_1).symm⟩
        · cbv
          all_goals exact trivial
        · cbv
          all_goals exact trivial
    · rintro _ hy1
      replace hy1 := hy1.symm
      subst hy1
      try dsimp only [lr, lrL, lrp, lrpL] at h
      cbv
      obtain rfl := Option.some.inj h
      exact ARet.mk trivial hX.symm
  | false =>
    rw [br_false hb1] at h
    cbv
    obtain rfl := Option.some.inj h
    exact ARet.mk trivial hX.symm
end Go.Vs
namespace Go.Vs
set_option maxRecDepth 100000
def ir131 : J :=
  .seq (.reg none [⟨(some 2), none, .box (.t 0)⟩,
     ⟨(some 3), none, .box (.t 1)⟩,
     ⟨(some 4), none, .mv (.k (V.b false))⟩] [2, 3])
  (.seq (.seq (.reg none [⟨(some 5), none, .fa 0 (.t 2)⟩,
      ⟨(some 6), none, .ld false 1 (.t 5)⟩,
      ⟨(some 7), none, .fa 0 (.t 3)⟩,
      ⟨(some 8), none, .ld false 1 (.t 7)⟩,
      ⟨(some 9), none, .bin .neq .s (.t 6) (.t 8)⟩] [2, 3, 9])
   (.cond (.t 9)
    (.seq (.reg none [⟨(some 4), none, .mv (.k (V.b false))⟩] [4])
     (.ret))
    (.skip)))
  (.seq (.seq (.reg none [⟨(some 10), none, .fa 1 (.t 2)⟩,
      ⟨(some 11), none, .ld false 1 (.t 10)⟩,
      ⟨(some 12), none, .fa 1 (.t 3)⟩,
      ⟨(some 13), none, .ld false 1 (.t 12)⟩,
      ⟨(some 14), none, .bin .neq .s (.t 11) (.t 13)⟩] [2, 3, 14])
   (.cond (.t 14)
    (.seq (.reg none [⟨(some 4), none, .mv (.k (V.b false))⟩] [4])
     (.ret))
    (.skip)))
  (.seq (.seq (.reg none [⟨(some 15), none, .fa 2 (.t 2)⟩,
      ⟨(some 16), none, .ld false 1 (.t 15)⟩,
      ⟨(some 17), none, .fa 2 (.t 3)⟩,
      ⟨(some 18), none, .ld false 1 (.t 17)⟩,
      ⟨(some 19), none, .bin .neq .i (.t 16) (.t 18)⟩] [2, 3, 19])
   (.cond (.t 19)
    (.seq (.reg none [⟨(some 4), none, .mv (.k (V.b false))⟩] [4])
     (.ret))
    (.skip)))
  (.seq (.seq (.reg none [⟨(some 20), none, .fa 3 (.t 2)⟩,
      ⟨(some 21), none, .ld false 1 (.t 20)⟩,
      ⟨(some 22), none, .fa 3 (.t 3)⟩,
      ⟨(some 23), none, .ld false 1 (.t 22)⟩,
      ⟨(some 24), none, .bin .neq .i (.t 21) (.t 23)⟩] [2, 3, 24])
   (.cond (.t 24)
    (.seq (.reg none [⟨(some 4), none, .mv (.k (V.b false))⟩] [4])
     (.ret))
    (.skip)))
  (.seq (.seq (.reg none [⟨(some 25), none, .fa 4 (.t 2)⟩,
      ⟨(some 26), none, .ld false 1 (.t 25)⟩,
      ⟨(some 27), none, .fa 4 (.t 3)⟩,
      ⟨(some 28), none, .ld false 1 (.t 27)⟩,
      ⟨(some 29), none, .bin .neq .i (.t 26) (.t 28)⟩] [2, 3, 29])
   (.cond (.t 29)
    (.seq (.reg none [⟨(some 4), none, .mv (.k (V.b false))⟩] [4])
     (.ret))
    (.skip)))
  (.seq (.seq (.reg none [⟨(some 30), none, .fa 5 (.t 2)⟩,
      ⟨(some 31), none, .ld false 1 (.t 30)⟩,
      ⟨(some 32), none, .fa 5 (.t 3)⟩,
      ⟨(some 33), none, .ld false 1 (.t 32)⟩,
      ⟨(some 34), none, .bin .neq .i (.t 31) (.t 33)⟩] [34])
   (.cond (.t 34)
    (.seq (.reg none [⟨(some 4), none, .mv (.k (V.b false))⟩] [4])
     (.ret))
    (.skip)))
  (.seq (.reg none [⟨(some 4), none, .mv (.k (V.b true))⟩] [4])
  (.ret))))))))
def rv131 : List RV := [.t 4]
open Go.Proofs Go.IntWalk
set_option linter.unusedVariables false
set_option maxRecDepth 100000
set_option maxHeartbeats 4000000
def L_eqLeg (g : G) (t : TE) (a0 : Leg) (a1 : Leg) : Bool :=
  br (g.seq a0.From a1.From)
  (
   br (g.seq a0.To a1.To)
   (
    br (g.eq a0.Start a1.Start)
    (
     br (g.eq a0.Takes a1.Takes)
     (
      br (g.eq a0.Days a1.Days)
      (
       br (g.eq a0.Room a1.Room)
       (
        true)
       (
        false))
      (
       false))
     (
      false))
    (
     false))
   (
    false))
  (
   false)
theorem fit131 : codeFit Try.prog Try.f131.ntmps (Try.f131.body.getD .skip) ir131 = true := by kernel_rfl
theorem c_L_eqLeg {g : G} {t : TE} {a0 : Leg} {a1 : Leg} {r : Bool} (hg : g = G.real) (ht : t = TE.real) (h : L_eqLeg g t a0 a1 = r) : Fn Try.prog 131 [.g (Leg.rs t a0), .g (Leg.rs t a1)] (.c (.r (.v (.bool r)))) := by
  obtain ⟨X, hX⟩ := hide (.c (.r (.v (.bool r))) : X)
  rw [← hX]
  refine fn_of (rvs := rv131) (j := ir131) Try.func131 rfl fit131 (Nat.le_of_ble_eq_true rfl) (by kernel_rfl) prog_mixed ?_
  intro g2 F hg2 hF
  obtain rfl : g2 = g := hg2.unique.trans hg.symm
  clear hg2
  obtain ⟨wrap, lt, le, eq, quo, rem, band, bor, bxor, shl, shr, nat, int, add, sub, mul, cat, seq, slt, sub3, byte, llen, nadd, nsub, dlen, dapp, dset, drep, rd, rda, up, rsub, dsub, all, sle, slen⟩ := g2
  obtain ⟨r_S, d_S, r_Trip, d_Trip, r_Leg, d_Leg, r_I64, d_I64, r_Order, d_Order, r_Booking, d_Booking, r_Scan, d_Scan, r_U8, d_U8, r_LI64, d_LI64⟩ := t
  obtain ⟨a0_From, a0_To, a0_Start, a0_Takes, a0_Days, a0_Room⟩ := a0
  obtain ⟨a1_From, a1_To, a1_Start, a1_Takes, a1_Days, a1_Room⟩ := a1
  unfold L_eqLeg at h
  try dsimp only at h
  cbv
  cases hb1 : (seq a0_From a1_From) with
  | true =>
    rw [br_true hb1] at h
    cbv
    cases hb2 : (seq a0_To a1_To) with
    | true =>
      rw [br_true hb2] at h
      cbv
      cases hb3 : (eq a0_Start a1_Start) with
      | true =>
        rw [br_true hb3] at h
        cbv
        cases hb4 : (eq a0_Takes a1_Takes) with
        | true =>
          rw [br_true hb4] at h
          cbv
          cases hb5 : (eq a0_Days a1_Days) with
          | true =>
            rw [br_true hb5] at h
            cbv
            cases hb6 : (eq a0_Room a1_Room) with
            | true =>
              rw [br_true hb6] at h
              cbv
              subst h
              exact ARet.mk trivial hX.symm
            | false =>
              rw [br_false hb6] at h
              cbv
              subst h
              exact ARet.mk trivial hX.symm
          | false =>
            rw [br_false hb5] at h
            cbv
            subst h
            exact ARet.mk trivial hX.symm
        | false =>
          rw [br_false hb4] at h
          cbv
          subst h
          exact ARet.mk trivial hX.symm
      | false =>
        rw [br_false hb3] at h
        cbv
        subst h
        exact ARet.mk trivial hX.symm
    | false =>
      rw [br_false hb2] at h
      cbv
      subst h
      exact ARet.mk trivial hX.symm
  | false =>
    rw [br_false hb1] at h
    cbv
    subst h
    exact ARet.mk trivial hX.symm
end Go.Vs
namespace Go.Vs
set_option maxRecDepth 100000
def ir37 : J :=
  .seq (.reg none [⟨(some 2), none, .box (.t 0)⟩,
     ⟨(some 3), none, .box (.t 1)⟩,
     ⟨(some 4), none, .mv (.k (V.b false))⟩] [2, 3])
  (.seq (.seq (.reg none [⟨(some 5), none, .fa 0 (.t 2)⟩,
      ⟨(some 6), none, .ld false 1 (.t 5)⟩,
      ⟨(some 7), none, .fa 0 (.t 3)⟩,
      ⟨(some 8), none, .ld false 1 (.t 7)⟩,
      ⟨(some 9), none, .bin .neq .s (.t 6) (.t 8)⟩] [2, 3, 9])
   (.cond (.t 9)
    (.seq (.reg none [⟨(some 4), none, .mv (.k (V.b false))⟩] [4])
     (.ret))
    (.skip)))
  (.seq (.seq (.reg none [⟨(some 10), none, .fa 1 (.t 2)⟩,
      ⟨(some 11), none, .ld false 1 (.t 10)⟩,
      ⟨(some 12), none, .fa 1 (.t 3)⟩,
      ⟨(some 13), none, .ld false 1 (.t 12)⟩,
      ⟨(some 14), none, .bin .neq .i (.t 11) (.t 13)⟩] [14])
   (.cond (.t 14)
    (.seq (.reg none [⟨(some 4), none, .mv (.k (V.b false))⟩] [4])
     (.ret))
    (.skip)))
  (.seq (.reg none [⟨(some 4), none, .mv (.k (V.b true))⟩] [4])
  (.ret))))
def rv37 : List RV := [.t 4]
open Go.Proofs Go.IntWalk
set_option linter.unusedVariables false
set_option maxRecDepth 100000
set_option maxHeartbeats 4000000
def L_eqSpot (g : G) (t : TE) (a0 : Spot) (a1 : Spot) : Bool :=
  br (g.seq a0.Place a1.Place)
  (
   br (g.eq a0.At a1.At)
   (
    true)
   (
    false))
  (
   false)
theorem fit37 : codeFit Try.prog Try.f37.ntmps (Try.f37.body.getD .skip) ir37 = true := by kernel_rfl
theorem c_L_eqSpot {g : G} {t : TE} {a0 : Spot} {a1 : Spot} {r : Bool} (hg : g = G.real) (ht : t = TE.real) (h : L_eqSpot g t a0 a1 = r) : Fn Try.prog 37 [.g (Spot.rs t a0), .g (Spot.rs t a1)] (.c (.r (.v (.bool r)))) := by
  obtain ⟨X, hX⟩ := hide (.c (.r (.v (.bool r))) : X)
  rw [← hX]
  refine fn_of (rvs := rv37) (j := ir37) Try.func37 rfl fit37 (Nat.le_of_ble_eq_true rfl) (by kernel_rfl) prog_mixed ?_
  intro g2 F hg2 hF
  obtain rfl : g2 = g := hg2.unique.trans hg.symm
  clear hg2
  obtain ⟨wrap, lt, le, eq, quo, rem, band, bor, bxor, shl, shr, nat, int, add, sub, mul, cat, seq, slt, sub3, byte, llen, nadd, nsub, dlen, dapp, dset, drep, rd, rda, up, rsub, dsub, all, sle, slen⟩ := g2
  obtain ⟨r_S, d_S, r_Trip, d_Trip, r_Leg, d_Leg, r_I64, d_I64, r_Order, d_Order, r_Booking, d_Booking, r_Scan, d_Scan, r_U8, d_U8, r_LI64, d_LI64⟩ := t
  obtain ⟨a0_Place, a0_At⟩ := a0
  obtain ⟨a1_Place, a1_At⟩ := a1
  unfold L_eqSpot at h
  try dsimp only at h
  cbv
  cases hb1 : (seq a0_Place a1_Place) with
  | true =>
    rw [br_true hb1] at h
    cbv
    cases hb2 : (eq a0_At a1_At) with
    | true =>
      rw [br_true hb2] at h
      cbv
      subst h
      exact ARet.mk trivial hX.symm
    | false =>
      rw [br_false hb2] at h
      cbv
      subst h
      exact ARet.mk trivial hX.symm
  | false =>
    rw [br_false hb1] at h
    cbv
    subst h
    exact ARet.mk trivial hX.symm
end Go.Vs
namespace Go.Vs
set_option maxRecDepth 100000
def ir55 : J :=
  .seq (.reg none [⟨(some 4), none, .mv (.k (V.i 0))⟩] [0, 1])
  (.seq (.seq (.reg none [⟨(some 5), none, .mv (.k (V.i 0))⟩] [0, 1, 5])
   (.bl 0 (.seq (.seq (.reg none [⟨(some 6), none, .mv (.t 5)⟩,
        ⟨(some 7), none, .mv (.t 0)⟩,
        ⟨(some 8), none, .len false (.t 7)⟩,
        ⟨(some 9), none, .bin .lss .i (.t 6) (.t 8)⟩] [0, 1, 5, 9])
     (.cond (.t 9)
      (.skip)
      (.exit 0)))
    (.seq (.block 1 (.seq (.seq (.reg none [⟨(some 12), none, .mv (.t 0)⟩,
          ⟨(some 13), none, .mv (.t 5)⟩,
          ⟨(some 14), none, .ia 1 (.t 12) (.t 13)⟩,
          ⟨(some 15), none, .ld false 1 (.t 14)⟩,
          ⟨(some 16), none, .mv (.t 1)⟩,
          ⟨(some 17), none, .bin .neq .i (.t 15) (.t 16)⟩] [0, 1, 5, 17])
       (.cond (.t 17)
        (.seq (.reg none [⟨(some 4), none, .mv (.k (V.i (-1)))⟩] [4])
         (.ret))
        (.skip)))
      (.reg none [⟨(some 18), none, .mv (.t 1)⟩,
        ⟨(some 19), none, .bin .add .i (.t 18) (.k (V.i 1))⟩,
        ⟨(some 1), none, .mv (.t 19)⟩] [0, 1, 5])))
    (.reg none [⟨(some 10), none, .mv (.t 5)⟩,
      ⟨(some 11), none, .bin .add .i (.t 10) (.k (V.i 1))⟩,
      ⟨(some 5), none, .mv (.t 11)⟩] [0, 1, 5])))))
  (.seq (.reg none [⟨(some 20), none, .mv (.t 1)⟩,
     ⟨(some 4), none, .mv (.t 20)⟩] [4])
  (.ret)))
def rv55 : List RV := [.t 4]
open Go.Proofs Go.IntWalk
set_option linter.unusedVariables false
set_option maxRecDepth 100000
set_option maxHeartbeats 4000000
def L_heldIntS_l1 (g : G) (t : TE) : List Int → Int → LR Int Int
  | [], v1 =>
    (LR.out v1)
  | z1 :: ls1, v1 =>
    br (g.eq z1 v1)
    (
     L_heldIntS_l1 g t ls1 (g.wrap .i64 (g.add v1 1)))
    (
     (LR.ret (-1)))
def L_heldIntS (g : G) (t : TE) (a0 : List Int) (a1 : Int) : Int :=
  lP (L_heldIntS_l1 g t a0 a1) fun o1 => lrp o1 fun y1 =>
  y1
theorem fit55 : codeFit Try.prog Try.f55.ntmps (Try.f55.body.getD .skip) ir55 = true := by kernel_rfl
theorem c_L_heldIntS {g : G} {t : TE} {a0 : List Int} {a1 : Int} {r : Int} (hg : g = G.real) (ht : t = TE.real) (h : L_heldIntS g t a0 a1 = r) : Fn Try.prog 55 [.c (.s 1 (t.r_I64 a0)), .c (.v (.int .i64 a1))] (.c (.r (.v (.int .i64 r)))) := by
  obtain ⟨X, hX⟩ := hide (.c (.r (.v (.int .i64 r))) : X)
  rw [← hX]
  refine fn_of (rvs := rv55) (j := ir55) Try.func55 rfl fit55 (Nat.le_of_ble_eq_true rfl) (by kernel_rfl) prog_mixed ?_
  intro g2 F hg2 hF
  obtain rfl : g2 = g := hg2.unique.trans hg.symm
  clear hg2
  obtain ⟨wrap, lt, le, eq, quo, rem, band, bor, bxor, shl, shr, nat, int, add, sub, mul, cat, seq, slt, sub3, byte, llen, nadd, nsub, dlen, dapp, dset, drep, rd, rda, up, rsub, dsub, all, sle, slen⟩ := g2
  obtain ⟨r_S, d_S, r_Trip, d_Trip, r_Leg, d_Leg, r_I64, d_I64, r_Order, d_Order, r_Booking, d_Booking, r_Scan, d_Scan, r_U8, d_U8, r_LI64, d_LI64⟩ := t
  unfold L_heldIntS at h
  try dsimp only at h
  cbv
  obtain ⟨o1, ho1, h⟩ := of_lP h
  try dsimp only at h
  try rw [hg] at ho1
  try rw [ht] at ho1
  refine ABL.mk { p : Nat × Int × Int // p.1 ≤ a0.length ∧ p.2.1 = ((p.1 : Nat) : Int) ∧ L_heldIntS_l1 G.real TE.real (List.drop p.1 a0) p.2.2 = o1 } (fun ⟨⟨k1, v2, v1⟩, _⟩ => ({ sl := [(0, .c (.r (.s 1 (r_I64 a0)))), (1, .c (.r (.v (.int .i64 v1)))), (5, .c (.r (.v (.int .i64 v2))))], tab := [] } : St)) 0 (fun p => a0.length - p.1.1) ⟨(0, 0, a1), Nat.zero_le _, rfl, ho1⟩ (Int) (fun y1 => ({ sl := [(1, .c (.r (.v (.int .i64 y1))))], tab := [] } : St)) 0 (fun y => o1 = LR.out y) ?_ ?_ ?_
  · refine Wk.of [] rfl rfl ?_ ?_
    · cbv
      all_goals exact ⟨⟨_, rfl, rfl⟩, ⟨_, rfl, rfl⟩, ⟨_, rfl, rfl⟩, trivial⟩
    · cbv
      all_goals exact trivial
  · rintro ⟨⟨k1, v2, v1⟩, hk1, hi1, h_1⟩ hq1
    have hm1 := (hq1.1 0 _ _ rfl)
    try dsimp only at hk1 hi1 h_1
    clear hq1
    cbv
    by_cases hc1_ : k1 < a0.length
    · have hb1 : lt v2 (llen (r_I64 a0)) = true := ltL_true_I64 hg ht hi1 hc1_
      have hs1 := stepL_I64 hg ht hi1 hc1_ hm1
      obtain ⟨z1, hz1⟩ := some_of_lt hc1_
      rw [drop_of_some hz1] at h_1
      rw [L_heldIntS_l1] at h_1
      try rw [← hg] at h_1
      try rw [← ht] at h_1
      try dsimp only at h_1
      rw [hb1]
      cbv
      refine AStep.mk (nn_L hi1) ?_
      cbv
      refine AGet.mk _ (r_getL_I64 hg ht hi1 hz1) ?_
      cbv
      cases hb2 : (eq z1 v1) with
      | true =>
        rw [br_true hb2] at h_1
        cbv
        try rw [hg] at h_1
        try rw [ht] at h_1
        refine ⟨⟨(k1 + 1, (wrap .i64 (add v2 1)), (wrap .i64 (add v1 1))), hc1_, hs1, h_1⟩, Wk.of [] rfl rfl ?_ ?_, meas_L hc1_⟩
        · cbv
          all_goals exact ⟨⟨_, rfl, rfl⟩, ⟨_, rfl, rfl⟩, ⟨_, rfl, rfl⟩, trivial⟩
        · cbv
          all_goals exact trivial
      | false =>
        rw [br_false hb2] at h_1
        cbv
        subst h_1
        try dsimp only [lr, lrL, lrp, lrpL] at h
        subst h
        exact ARet.mk trivial hX.symm
    · have hb1 : lt v2 (llen (r_I64 a0)) = false := ltL_false_I64 hg ht hi1 hc1_
      rw [List.drop_of_length_le (Nat.le_of_not_lt hc1_)] at h_1
      rw [L_heldIntS_l1] at h_1
      try rw [← hg] at h_1
      try rw [← ht] at h_1
      try dsimp only at h_1
      rw [hb1]
      cbv
      refine ⟨v1, Wk.of [] rfl rfl ?_ ?_, h_1.symm⟩
      · cbv
        all_goals exact ⟨⟨_, rfl, rfl⟩, trivial⟩
      · cbv
        all_goals exact trivial
  · rintro y1 hy1
    replace hy1 := hy1.symm
    subst hy1
    try dsimp only [lr, lrL, lrp, lrpL] at h
    cbv
    subst h
    exact ARet.mk trivial hX.symm
end Go.Vs
namespace Go.Vs
set_option maxRecDepth 100000
def ir56 : J :=
  .seq (.reg none [⟨(some 2), none, .mv (.k (V.b false))⟩] [0])
  (.seq (.reg none [⟨(some 3), none, .mv (.t 0)⟩,
     ⟨(some 4), none, .len false (.t 3)⟩,
     ⟨(some 5), none, .bin .gtr .i (.t 4) (.k (V.i 4096))⟩,
     ⟨(some 2), none, .mv (.t 5)⟩] [2])
  (.ret))
def rv56 : List RV := [.t 2]
open Go.Proofs Go.IntWalk
set_option linter.unusedVariables false
set_option maxRecDepth 100000
set_option maxHeartbeats 4000000
def L_big (g : G) (t : TE) (a0 : List Int) : Bool :=
  (g.lt 4096 (g.llen (t.r_U8 a0)))
theorem fit56 : codeFit Try.prog Try.f56.ntmps (Try.f56.body.getD .skip) ir56 = true := by kernel_rfl
theorem c_L_big {g : G} {t : TE} {a0 : List Int} {r : Bool} (hg : g = G.real) (ht : t = TE.real) (h : L_big g t a0 = r) : Fn Try.prog 56 [.c (.s 1 (t.r_U8 a0))] (.c (.r (.v (.bool r)))) := by
  obtain ⟨X, hX⟩ := hide (.c (.r (.v (.bool r))) : X)
  rw [← hX]
  refine fn_of (rvs := rv56) (j := ir56) Try.func56 rfl fit56 (Nat.le_of_ble_eq_true rfl) (by kernel_rfl) prog_mixed ?_
  intro g2 F hg2 hF
  obtain rfl : g2 = g := hg2.unique.trans hg.symm
  clear hg2
  obtain ⟨wrap, lt, le, eq, quo, rem, band, bor, bxor, shl, shr, nat, int, add, sub, mul, cat, seq, slt, sub3, byte, llen, nadd, nsub, dlen, dapp, dset, drep, rd, rda, up, rsub, dsub, all, sle, slen⟩ := g2
  obtain ⟨r_S, d_S, r_Trip, d_Trip, r_Leg, d_Leg, r_I64, d_I64, r_Order, d_Order, r_Booking, d_Booking, r_Scan, d_Scan, r_U8, d_U8, r_LI64, d_LI64⟩ := t
  unfold L_big at h
  try dsimp only at h
  cbv
  subst h
  exact ARet.mk trivial hX.symm
end Go.Vs
namespace Go.Vs
set_option maxRecDepth 100000
def ir61 : J :=
  .seq (.reg none [⟨(some 4), none, .mv (.k (V.b false))⟩] [0, 1])
  (.seq (.seq (.reg none [⟨(some 6), none, .mv (.t 0)⟩,
      ⟨(some 7), none, .len false (.t 6)⟩,
      ⟨(some 8), none, .mv (.t 1)⟩,
      ⟨(some 9), none, .len false (.t 8)⟩,
      ⟨(some 10), none, .bin .neq .i (.t 7) (.t 9)⟩] [0, 1, 10])
   (.cond (.t 10)
    (.seq (.reg none [⟨(some 4), none, .mv (.k (V.b false))⟩] [4])
     (.ret))
    (.skip)))
  (.seq (.seq (.reg none [⟨(some 5), none, .mv (.k (V.i 0))⟩] [0, 1, 5])
   (.bl 0 (.seq (.seq (.reg none [⟨(some 11), none, .mv (.t 5)⟩,
        ⟨(some 12), none, .mv (.t 0)⟩,
        ⟨(some 13), none, .len false (.t 12)⟩,
        ⟨(some 14), none, .bin .lss .i (.t 11) (.t 13)⟩] [0, 1, 5, 14])
     (.cond (.t 14)
      (.skip)
      (.exit 0)))
    (.seq (.block 1 (.seq (.reg (some [[], [], [0, 1], [0, 1, 2], [], [], [4, 5], [4, 5, 6], [0, 1, 2, 3, 4, 5, 6, 7]]) [⟨(some 17), none, .mv (.t 0)⟩,
         ⟨(some 18), none, .mv (.t 5)⟩,
         ⟨(some 19), none, .ia 2 (.t 17) (.t 18)⟩,
         ⟨(some 20), none, .ld true 2 (.t 19)⟩,
         ⟨(some 21), none, .mv (.t 1)⟩,
         ⟨(some 22), none, .mv (.t 5)⟩,
         ⟨(some 23), none, .ia 2 (.t 21) (.t 22)⟩,
         ⟨(some 24), none, .ld true 2 (.t 23)⟩,
         ⟨(some 25), none, .eqs true [.i, .i] (.t 20) (.t 24)⟩] [0, 1, 5, 25])
      (.cond (.t 25)
       (.seq (.reg none [⟨(some 4), none, .mv (.k (V.b false))⟩] [4])
        (.ret))
       (.skip))))
    (.reg none [⟨(some 15), none, .mv (.t 5)⟩,
      ⟨(some 16), none, .bin .add .i (.t 15) (.k (V.i 1))⟩,
      ⟨(some 5), none, .mv (.t 16)⟩] [0, 1, 5])))))
  (.seq (.reg none [⟨(some 4), none, .mv (.k (V.b true))⟩] [4])
  (.ret))))
def rv61 : List RV := [.t 4]
open Go.Proofs Go.IntWalk
set_option linter.unusedVariables false
set_option maxRecDepth 100000
set_option maxHeartbeats 4000000
def L_trips_l1 (g : G) (t : TE) (a1 : List Trip) : List Trip → Int → Option (LR Bool Unit)
  | [], v1 =>
    some (LR.out ())
  | z1 :: ls1, v1 =>
    gt a1 (g.nat v1) fun x1 =>
    br (g.all [(g.eq z1.Leg x1.Leg), (g.eq z1.Day x1.Day)])
    (
     L_trips_l1 g t a1 ls1 (g.wrap .i64 (g.add v1 1)))
    (
     some (LR.ret false))
def L_trips (g : G) (t : TE) (a0 : List Trip) (a1 : List Trip) : Option Bool :=
  br (g.eq (g.llen (t.r_Trip a0)) (g.llen (t.r_Trip a1)))
  (
   cl (L_trips_l1 g t a1 a0 0) fun o1 => lr o1 fun y1 =>
   some true)
  (
   some false)
theorem fit61 : codeFit Try.prog Try.f61.ntmps (Try.f61.body.getD .skip) ir61 = true := by kernel_rfl
theorem c_L_trips {g : G} {t : TE} {a0 : List Trip} {a1 : List Trip} {r : Bool} (hg : g = G.real) (ht : t = TE.real) (h : L_trips g t a0 a1 = some r) : Fn Try.prog 61 [.c (.s 2 (t.r_Trip a0)), .c (.s 2 (t.r_Trip a1))] (.c (.r (.v (.bool r)))) := by
  obtain ⟨X, hX⟩ := hide (.c (.r (.v (.bool r))) : X)
  rw [← hX]
  refine fn_of (rvs := rv61) (j := ir61) Try.func61 rfl fit61 (Nat.le_of_ble_eq_true rfl) (by kernel_rfl) prog_mixed ?_
  intro g2 F hg2 hF
  obtain rfl : g2 = g := hg2.unique.trans hg.symm
  clear hg2
  obtain ⟨wrap, lt, le, eq, quo, rem, band, bor, bxor, shl, shr, nat, int, add, sub, mul, cat, seq, slt, sub3, byte, llen, nadd, nsub, dlen, dapp, dset, drep, rd, rda, up, rsub, dsub, all, sle, slen⟩ := g2
  obtain ⟨r_S, d_S, r_Trip, d_Trip, r_Leg, d_Leg, r_I64, d_I64, r_Order, d_Order, r_Booking, d_Booking, r_Scan, d_Scan, r_U8, d_U8, r_LI64, d_LI64⟩ := t
  unfold L_trips at h
  try dsimp only at h
  cbv
  cases hb1 : (eq (llen (r_Trip a0)) (llen (r_Trip a1))) with
  | true =>
    rw [br_true hb1] at h
    cbv
    obtain ⟨o1, ho1, h⟩ := of_cl h
    try dsimp only at h
    try rw [hg] at ho1
    try rw [ht] at ho1
    refine ABL.mk { p : Nat × Int // p.1 ≤ a0.length ∧ p.2 = ((p.1 : Nat) : Int) ∧ L_trips_l1 G.real TE.real a1 (List.drop p.1 a0) p.2 = some o1 } (fun ⟨⟨k1, v1⟩, _⟩ => ({ sl := [(0, .c (.r (.s 2 (r_Trip a0)))), (1, .c (.r (.s 2 (r_Trip a1)))), (5, .c (.r (.v (.int .i64 v1))))], tab := [] } : St)) 0 (fun p => a0.length - p.1.1) ⟨(0, 0), Nat.zero_le _, rfl, ho1⟩ (Unit) (fun _ => ({ sl := [], tab := [] } : St)) 0 (fun y => o1 = LR.out y) ?_ ?_ ?_
    · refine Wk.of [] rfl rfl ?_ ?_
      · cbv
        all_goals exact ⟨⟨_, rfl, rfl⟩, ⟨_, rfl, rfl⟩, ⟨_, rfl, rfl⟩, trivial⟩
      · cbv
        all_goals exact trivial
    · rintro ⟨⟨k1, v1⟩, hk1, hi1, h_1⟩ hq1
      have hm1 := (hq1.1 0 _ _ rfl)
      try dsimp only at hk1 hi1 h_1
      clear hq1
      cbv
      by_cases hc1_ : k1 < a0.length
      · have hb2 : lt v1 (llen (r_Trip a0)) = true := ltL_true_Trip hg ht hi1 hc1_
        have hs1 := stepL_Trip hg ht hi1 hc1_ hm1
        obtain ⟨z1, hz1⟩ := some_of_lt hc1_
        rw [drop_of_some hz1] at h_1
        rw [L_trips_l1] at h_1
        obtain ⟨z1_Leg, z1_Day⟩ := z1
        try rw [← hg] at h_1
        try rw [← ht] at h_1
        try dsimp only at h_1
        rw [hb2]
        cbv
        refine AStep.mk (nn_L hi1) ?_
        cbv
        refine AGet.mk _ (r_getL_Trip hg ht hi1 hz1) ?_
        cbv
        refine AStep.mk (nn_L hi1) ?_
        cbv
        obtain ⟨x1, hx1, h_1⟩ := of_gt h_1
        obtain ⟨x1_Leg, x1_Day⟩ := x1
        try dsimp only at h_1
        refine AGet.mk _ (r_get_Trip hg ht hx1) ?_
        cbv
        cases hb3 : (all [(eq z1_Leg x1_Leg), (eq z1_Day x1_Day)]) with
        | true =>
          rw [br_true hb3] at h_1
          cbv
          try rw [hg] at h_1
          try rw [ht] at h_1
          refine ⟨⟨(k1 + 1, (wrap .i64 (add v1 1))), hc1_, hs1, h_1⟩, Wk.of [] rfl rfl ?_ ?_, meas_L hc1_⟩
          · cbv
            all_goals exact ⟨⟨_, rfl, rfl⟩, ⟨_, rfl, rfl⟩, ⟨_, rfl, rfl⟩, trivial⟩
          · cbv
            all_goals exact trivial
        | false =>
          rw [br_false hb3] at h_1
          cbv
          obtain rfl := Option.some.inj h_1
          try dsimp only [lr, lrL, lrp, lrpL] at h
          obtain rfl := Option.some.inj h
          exact ARet.mk trivial hX.symm
      · have hb2 : lt v1 (llen (r_Trip a0)) = false := ltL_false_Trip hg ht hi1 hc1_
        rw [List.drop_of_length_le (Nat.le_of_not_lt hc1_)] at h_1
        rw [L_trips_l1] at h_1
        try rw [← hg] at h_1
        try rw [← ht] at h_1
        try dsimp only at h_1
        rw [hb2]
        cbv
        refine ⟨(), Wk.of [] rfl rfl ?_ ?_, (Option.some.inj h_1).symm⟩
        · cbv
          all_goals exact trivial
        · cbv
          all_goals exact trivial
    · rintro _ hy1
      replace hy1 := hy1.symm
      subst hy1
      try dsimp only [lr, lrL, lrp, lrpL] at h
      cbv
      obtain rfl := Option.some.inj h
      exact ARet.mk trivial hX.symm
  | false =>
    rw [br_false hb1] at h
    cbv
    obtain rfl := Option.some.inj h
    exact ARet.mk trivial hX.symm
end Go.Vs
namespace Go.Vs
set_option maxRecDepth 100000
def ir62 : J :=
  .seq (.reg none [⟨(some 4), none, .mv (.k (V.i 0))⟩] [0, 1])
  (.seq (.seq (.reg none [⟨(some 5), none, .mv (.k (V.i 0))⟩] [0, 1, 5])
   (.bl 0 (.seq (.seq (.reg none [⟨(some 6), none, .mv (.t 5)⟩,
        ⟨(some 7), none, .mv (.t 0)⟩,
        ⟨(some 8), none, .len false (.t 7)⟩,
        ⟨(some 9), none, .bin .lss .i (.t 6) (.t 8)⟩] [0, 1, 5, 9])
     (.cond (.t 9)
      (.skip)
      (.exit 0)))
    (.seq (.block 1 (.seq (.seq (.reg none [⟨(some 12), none, .mv (.t 0)⟩,
          ⟨(some 13), none, .mv (.t 5)⟩,
          ⟨(some 14), none, .ia 2 (.t 12) (.t 13)⟩,
          ⟨(some 15), none, .fa 0 (.t 14)⟩,
          ⟨(some 16), none, .ld false 1 (.t 15)⟩,
          ⟨(some 17), none, .mv (.t 1)⟩,
          ⟨(some 18), none, .bin .neq .i (.t 16) (.t 17)⟩] [0, 1, 5, 18])
       (.cond (.t 18)
        (.seq (.reg none [⟨(some 4), none, .mv (.k (V.i (-1)))⟩] [4])
         (.ret))
        (.skip)))
      (.seq (.reg none [⟨(some 19), none, .mv (.t 1)⟩,
         ⟨(some 20), none, .bin .add .i (.t 19) (.k (V.i 1))⟩,
         ⟨(some 1), none, .mv (.t 20)⟩] [0, 1, 5])
      (.seq (.seq (.reg none [⟨(some 21), none, .mv (.t 0)⟩,
          ⟨(some 22), none, .mv (.t 5)⟩,
          ⟨(some 23), none, .ia 2 (.t 21) (.t 22)⟩,
          ⟨(some 24), none, .fa 1 (.t 23)⟩,
          ⟨(some 25), none, .ld false 1 (.t 24)⟩,
          ⟨(some 26), none, .mv (.t 1)⟩,
          ⟨(some 27), none, .bin .neq .i (.t 25) (.t 26)⟩] [0, 1, 5, 27])
       (.cond (.t 27)
        (.seq (.reg none [⟨(some 4), none, .mv (.k (V.i (-1)))⟩] [4])
         (.ret))
        (.skip)))
      (.reg none [⟨(some 28), none, .mv (.t 1)⟩,
        ⟨(some 29), none, .bin .add .i (.t 28) (.k (V.i 1))⟩,
        ⟨(some 1), none, .mv (.t 29)⟩] [0, 1, 5])))))
    (.reg none [⟨(some 10), none, .mv (.t 5)⟩,
      ⟨(some 11), none, .bin .add .i (.t 10) (.k (V.i 1))⟩,
      ⟨(some 5), none, .mv (.t 11)⟩] [0, 1, 5])))))
  (.seq (.reg none [⟨(some 30), none, .mv (.t 1)⟩,
     ⟨(some 4), none, .mv (.t 30)⟩] [4])
  (.ret)))
def rv62 : List RV := [.t 4]
open Go.Proofs Go.IntWalk
set_option linter.unusedVariables false
set_option maxRecDepth 100000
set_option maxHeartbeats 4000000
def L_heldTripS_l1 (g : G) (t : TE) : List Trip → Int → LR Int Int
  | [], v1 =>
    (LR.out v1)
  | z1 :: ls1, v1 =>
    br (g.eq z1.Leg v1)
    (
     br (g.eq z1.Day (g.wrap .i64 (g.add v1 1)))
     (
      L_heldTripS_l1 g t ls1 (g.wrap .i64 (g.add (g.wrap .i64 (g.add v1 1)) 1)))
     (
      (LR.ret (-1))))
    (
     (LR.ret (-1)))
def L_heldTripS (g : G) (t : TE) (a0 : List Trip) (a1 : Int) : Int :=
  lP (L_heldTripS_l1 g t a0 a1) fun o1 => lrp o1 fun y1 =>
  y1
theorem fit62 : codeFit Try.prog Try.f62.ntmps (Try.f62.body.getD .skip) ir62 = true := by kernel_rfl
theorem c_L_heldTripS {g : G} {t : TE} {a0 : List Trip} {a1 : Int} {r : Int} (hg : g = G.real) (ht : t = TE.real) (h : L_heldTripS g t a0 a1 = r) : Fn Try.prog 62 [.c (.s 2 (t.r_Trip a0)), .c (.v (.int .i64 a1))] (.c (.r (.v (.int .i64 r)))) := by
  obtain ⟨X, hX⟩ := hide (.c (.r (.v (.int .i64 r))) : X)
  rw [← hX]
  refine fn_of (rvs := rv62) (j := ir62) Try.func62 rfl fit62 (Nat.le_of_ble_eq_true rfl) (by kernel_rfl) prog_mixed ?_
  intro g2 F hg2 hF
  obtain rfl : g2 = g := hg2.unique.trans hg.symm
  clear hg2
  obtain ⟨wrap, lt, le, eq, quo, rem, band, bor, bxor, shl, shr, nat, int, add, sub, mul, cat, seq, slt, sub3, byte, llen, nadd, nsub, dlen, dapp, dset, drep, rd, rda, up, rsub, dsub, all, sle, slen⟩ := g2
  obtain ⟨r_S, d_S, r_Trip, d_Trip, r_Leg, d_Leg, r_I64, d_I64, r_Order, d_Order, r_Booking, d_Booking, r_Scan, d_Scan, r_U8, d_U8, r_LI64, d_LI64⟩ := t
  unfold L_heldTripS at h
  try dsimp only at h
  cbv
  obtain ⟨o1, ho1, h⟩ := of_lP h
  try dsimp only at h
  try rw [hg] at ho1
  try rw [ht] at ho1
  refine ABL.mk { p : Nat × Int × Int // p.1 ≤ a0.length ∧ p.2.1 = ((p.1 : Nat) : Int) ∧ L_heldTripS_l1 G.real TE.real (List.drop p.1 a0) p.2.2 = o1 } (fun ⟨⟨k1, v2, v1⟩, _⟩ => ({ sl := [(0, .c (.r (.s 2 (r_Trip a0)))), (1, .c (.r (.v (.int .i64 v1)))), (5, .c (.r (.v (.int .i64 v2))))], tab := [] } : St)) 0 (fun p => a0.length - p.1.1) ⟨(0, 0, a1), Nat.zero_le _, rfl, ho1⟩ (Int) (fun y1 => ({ sl := [(1, .c (.r (.v (.int .i64 y1))))], tab := [] } : St)) 0 (fun y => o1 = LR.out y) ?_ ?_ ?_
  · refine Wk.of [] rfl rfl ?_ ?_
    · cbv
      all_goals exact ⟨⟨_, rfl, rfl⟩, ⟨_, rfl, rfl⟩, ⟨_, rfl, rfl⟩, trivial⟩
    · cbv
      all_goals exact trivial
  · rintro ⟨⟨k1, v2, v1⟩, hk1, hi1, h_1⟩ hq1
    have hm1 := (hq1.1 0 _ _ rfl)
    try dsimp only at hk1 hi1 h_1
    clear hq1
    cbv
    by_cases hc1_ : k1 < a0.length
    · have hb1 : lt v2 (llen (r_Trip a0)) = true := ltL_true_Trip hg ht hi1 hc1_
      have hs1 := stepL_Trip hg ht hi1 hc1_ hm1
      obtain ⟨z1, hz1⟩ := some_of_lt hc1_
      rw [drop_of_some hz1] at h_1
      rw [L_heldTripS_l1] at h_1
      obtain ⟨z1_Leg, z1_Day⟩ := z1
      try rw [← hg] at h_1
      try rw [← ht] at h_1
      try dsimp only at h_1
      rw [hb1]
      cbv
      refine AStep.mk (nn_L hi1) ?_
      cbv
      refine AGet.mk _ (r_getL_Trip hg ht hi1 hz1) ?_
      cbv
      cases hb2 : (eq z1_Leg v1) with
      | true =>
        rw [br_true hb2] at h_1
        cbv
        refine AStep.mk (nn_L hi1) ?_
        cbv
        refine AGet.mk _ (r_getL_Trip hg ht hi1 hz1) ?_
        cbv
        cases hb3 : (eq z1_Day (wrap .i64 (add v1 1))) with
        | true =>
          rw [br_true hb3] at h_1
          cbv
          try rw [hg] at h_1
          try rw [ht] at h_1
          refine ⟨⟨(k1 + 1, (wrap .i64 (add v2 1)), (wrap .i64 (add (wrap .i64 (add v1 1)) 1))), hc1_, hs1, h_1⟩, Wk.of [] rfl rfl ?_ ?_, meas_L hc1_⟩
          · cbv
            all_goals exact ⟨⟨_, rfl, rfl⟩, ⟨_, rfl, rfl⟩, ⟨_, rfl, rfl⟩, trivial⟩
          · cbv
            all_goals exact trivial
        | false =>
          rw [br_false hb3] at h_1
          cbv
          subst h_1
          try dsimp only [lr, lrL, lrp, lrpL] at h
          subst h
          exact ARet.mk trivial hX.symm
      | false =>
        rw [br_false hb2] at h_1
        cbv
        subst h_1
        try dsimp only [lr, lrL, lrp, lrpL] at h
        subst h
        exact ARet.mk trivial hX.symm
    · have hb1 : lt v2 (llen (r_Trip a0)) = false := ltL_false_Trip hg ht hi1 hc1_
      rw [List.drop_of_length_le (Nat.le_of_not_lt hc1_)] at h_1
      rw [L_heldTripS_l1] at h_1
      try rw [← hg] at h_1
      try rw [← ht] at h_1
      try dsimp only at h_1
      rw [hb1]
      cbv
      refine ⟨v1, Wk.of [] rfl rfl ?_ ?_, h_1.symm⟩
      · cbv
        all_goals exact ⟨⟨_, rfl, rfl⟩, trivial⟩
      · cbv
        all_goals exact trivial
  · rintro y1 hy1
    replace hy1 := hy1.symm
    subst hy1
    try dsimp only [lr, lrL, lrp, lrpL] at h
    cbv
    subst h
    exact ARet.mk trivial hX.symm
end Go.Vs
