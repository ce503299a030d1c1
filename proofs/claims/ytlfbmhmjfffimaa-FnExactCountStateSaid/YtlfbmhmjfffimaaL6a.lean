/- Part of the proofs of this seat's laws: L6a. No condition. -/
import Derived.Test.YtlfbmhmjfffimaaTy
import Derived.Test.YtlfbmhmjfffimaaTIRall
import Derived.Test.YtlfbmhmjfffimaaL4a
import Derived.Test.YtlfbmhmjfffimaaL1a
import Derived.Test.YtlfbmhmjfffimaaL5a
import Derived.Test.YtlfbmhmjfffimaaL3b
import Derived.Test.YtlfbmhmjfffimaaL1c
import Derived.Test.YtlfbmhmjfffimaaL2b
set_option linter.unusedVariables false
set_option linter.unusedSimpArgs false
set_option linter.unusedSectionVars false
namespace Go.Vs
set_option maxRecDepth 100000
def ir5 : J :=
  .seq (.reg none [⟨(some 2), none, .box (.t 0)⟩,
     ⟨(some 4), none, .mv (.k (V.b false))⟩] [1, 2])
  (.seq (.reg none [⟨(some 5), none, .mv (.k (V.i 1048576))⟩] [1, 2, 5])
  (.seq (.reg none [⟨(some 9), none, .ld true 10 (.t 2)⟩,
     ⟨(some 10), none, .mv (.t 5)⟩,
     ⟨(some 11), none, .call 23 true [(.t 9), (.t 10)]⟩,
     ⟨(some 5), none, .mv (.t 11)⟩] [1, 2, 5])
  (.seq (.seq (.reg none [⟨(some 12), none, .mv (.t 5)⟩,
      ⟨(some 13), none, .bin .lss .i (.t 12) (.k (V.i 0))⟩] [1, 2, 13])
   (.cond (.t 13)
    (.seq (.reg none [⟨(some 4), none, .mv (.k (V.b true))⟩] [4])
     (.ret))
    (.skip)))
  (.seq (.reg none [⟨(some 14), none, .ld true 10 (.t 2)⟩,
     ⟨(some 15), none, .call 25 true [(.t 14)]⟩,
     ⟨(some 16), none, .mv (.t 1)⟩,
     ⟨(some 17), none, .call 24 true [(.t 15), (.t 16)]⟩,
     ⟨(some 6), none, .mv (.t 17)⟩] [1, 2, 6])
  (.seq (.reg none [⟨(some 18), none, .ld true 10 (.t 2)⟩,
     ⟨(some 19), none, .call 25 true [(.t 18)]⟩,
     ⟨(some 7), none, .alloc [.n 6, .n 1, .r (.v (.int .i64 0)), .n 11, .n 4, .n 2, .r (.v (.int .i64 0)), .n 6, .n 1, .r (.v (.int .i64 0))]⟩,
     ⟨none, none, .st 10 (.t 7) (.t 19)⟩] [1, 2, 6, 7])
  (.seq (.reg none [⟨(some 20), none, .ld true 10 (.t 7)⟩,
     ⟨(some 21), none, .mv (.t 1)⟩,
     ⟨(some 22), none, .call 26 true [(.t 20), (.t 21)]⟩,
     ⟨(some 8), none, .mv (.t 22)⟩] [2, 6, 7, 8])
  (.seq (.seq (.reg none [⟨(some 23), none, .mv (.t 8)⟩,
      ⟨(some 24), none, .mv (.t 6)⟩,
      ⟨(some 25), none, .bin .neq .i (.t 23) (.t 24)⟩] [2, 7, 25])
   (.cond (.t 25)
    (.seq (.reg none [⟨(some 4), none, .mv (.k (V.b false))⟩] [4])
     (.ret))
    (.skip)))
  (.seq (.seq (.reg (some [[], [], [1], [0, 1, 2], [0, 1, 2, 3]]) [⟨(some 26), none, .ld true 10 (.t 7)⟩,
      ⟨(some 27), none, .ld true 10 (.t 2)⟩,
      ⟨(some 28), none, .call 25 true [(.t 27)]⟩,
      ⟨(some 29), none, .call 27 true [(.t 26), (.t 28)]⟩,
      ⟨(some 30), none, .not (.t 29)⟩] [30])
   (.cond (.t 30)
    (.seq (.reg none [⟨(some 4), none, .mv (.k (V.b false))⟩] [4])
     (.ret))
    (.skip)))
  (.seq (.reg none [⟨(some 4), none, .mv (.k (V.b true))⟩] [4])
  (.ret))))))))))
def rv5 : List RV := [.t 4]
open Go.Proofs Go.IntWalk
set_option linter.unusedVariables false
set_option maxRecDepth 100000
set_option maxHeartbeats 4000000
def L_FnExactCountState (g : G) (t : TE) (a0 : World) (a1 : Int) : Option Bool :=
  lP (L_szWorld g t (World.mk (Network.mk a0.Network.Legs a0.Network.Off a0.Network.Change) a0.Orders a0.Bookings a0.Closed a0.Now a0.Scans a0.Skip a0.Made) 1048576) fun x1 =>
  br (g.lt x1 0)
  (
   some true)
  (
   cl (L_toWorld g t (World.mk (Network.mk a0.Network.Legs a0.Network.Off a0.Network.Change) a0.Orders a0.Bookings a0.Closed a0.Now a0.Scans a0.Skip a0.Made)) fun x2 =>
   lP (S_CountState g t (World.mk (Network.mk x2.Network.Legs x2.Network.Off x2.Network.Change) x2.Orders x2.Bookings x2.Closed x2.Now x2.Scans x2.Skip x2.Made) a1) fun x3 =>
   cl (L_toWorld g t (World.mk (Network.mk a0.Network.Legs a0.Network.Off a0.Network.Change) a0.Orders a0.Bookings a0.Closed a0.Now a0.Scans a0.Skip a0.Made)) fun x4 =>
   lP (I_CountState g t (World.mk (Network.mk x4.Network.Legs x4.Network.Off x4.Network.Change) x4.Orders x4.Bookings x4.Closed x4.Now x4.Scans x4.Skip x4.Made) a1) fun x5 =>
   br (g.eq x5 x3)
   (
    cl (L_toWorld g t (World.mk (Network.mk a0.Network.Legs a0.Network.Off a0.Network.Change) a0.Orders a0.Bookings a0.Closed a0.Now a0.Scans a0.Skip a0.Made)) fun x6 =>
    cl (L_eqWorld g t (World.mk (Network.mk x4.Network.Legs x4.Network.Off x4.Network.Change) x4.Orders x4.Bookings x4.Closed x4.Now x4.Scans x4.Skip x4.Made) (World.mk (Network.mk x6.Network.Legs x6.Network.Off x6.Network.Change) x6.Orders x6.Bookings x6.Closed x6.Now x6.Scans x6.Skip x6.Made)) fun x7 =>
    br x7
    (
     some true)
    (
     some false))
   (
    some false))
theorem fit5 : codeFit Try.prog Try.f5.ntmps (Try.f5.body.getD .skip) ir5 = true := by kernel_rfl
theorem c_L_FnExactCountState {g : G} {t : TE} {a0 : World} {a1 : Int} {r : Bool} (hg : g = G.real) (ht : t = TE.real) (h : L_FnExactCountState g t a0 a1 = some r) : Fn Try.prog 5 [.g (World.rs t a0), .c (.v (.int .i64 a1))] (.c (.r (.v (.bool r)))) := by
  obtain ⟨X, hX⟩ := hide (.c (.r (.v (.bool r))) : X)
  rw [← hX]
  refine fn_of (rvs := rv5) (j := ir5) Try.func5 rfl fit5 (Nat.le_of_ble_eq_true rfl) (by kernel_rfl) prog_mixed ?_
  intro g2 F hg2 hF
  obtain rfl : g2 = g := hg2.unique.trans hg.symm
  clear hg2
  obtain ⟨wrap, lt, le, eq, quo, rem, band, bor, bxor, shl, shr, nat, int, add, sub, mul, cat, seq, slt, sub3, byte, llen, nadd, nsub, dlen, dapp, dset, drep, rd, rda, up, rsub, dsub, all, sle, slen⟩ := g2
  obtain ⟨r_S, d_S, r_Trip, d_Trip, r_Leg, d_Leg, r_I64, d_I64, r_Order, d_Order, r_Booking, d_Booking, r_Scan, d_Scan, r_U8, d_U8, r_LI64, d_LI64⟩ := t
  obtain ⟨⟨a0_Network_Legs, a0_Network_Off, a0_Network_Change⟩, a0_Orders, a0_Bookings, a0_Closed, a0_Now, a0_Scans, a0_Skip, a0_Made⟩ := a0
  unfold L_FnExactCountState at h
  try dsimp only at h
  cbv
  obtain ⟨x1, hx1, h⟩ := of_lP h
  try dsimp only at h
  refine ACall.mk _ _ rfl (hF _ _ _ (c_L_szWorld hg ht hx1)) (.inl rfl) (Nat.le_of_ble_eq_true rfl) ?_
  cbv
  cases hb1 : (lt x1 0) with
  | true =>
    rw [br_true hb1] at h
    cbv
    obtain rfl := Option.some.inj h
    exact ARet.mk trivial hX.symm
  | false =>
    rw [br_false hb1] at h
    cbv
    obtain ⟨x2, hx2, h⟩ := of_cl h
    obtain ⟨⟨x2_Network_Legs, x2_Network_Off, x2_Network_Change⟩, x2_Orders, x2_Bookings, x2_Closed, x2_Now, x2_Scans, x2_Skip, x2_Made⟩ := x2
    try dsimp only at h
    refine ACall.mk _ _ rfl (hF _ _ _ (c_L_toWorld hg ht hx2)) (.inl rfl) (Nat.le_of_ble_eq_true rfl) ?_
    cbv
    refine AStep.mk ⟨(lend_Leg ht (dlen_Leg hg ht _)), ⟨(lend_I64 ht (dlen_I64 hg ht _)), ⟨(lend_Order ht (dlen_Order hg ht _)), ⟨(lend_Booking ht (dlen_Booking hg ht _)), ⟨(lend_Trip ht (dlen_Trip hg ht _)), ⟨(lend_Scan ht (dlen_Scan hg ht _)), (lend_I64 ht (dlen_I64 hg ht _))⟩⟩⟩⟩⟩⟩ ?_
    cbv
    obtain ⟨x3, hx3, h⟩ := of_lP h
    try dsimp only at h
    refine ACall.mk _ _ (by rw [show rd (d_Leg x2_Network_Legs) 0 (dlen (d_Leg x2_Network_Legs)) = r_Leg x2_Network_Legs from rdw_Leg hg ht (dlen_Leg hg ht _), show rd (d_I64 x2_Network_Off) 0 (dlen (d_I64 x2_Network_Off)) = r_I64 x2_Network_Off from rdw_I64 hg ht (dlen_I64 hg ht _), show rd (d_Order x2_Orders) 0 (dlen (d_Order x2_Orders)) = r_Order x2_Orders from rdw_Order hg ht (dlen_Order hg ht _), show rd (d_Booking x2_Bookings) 0 (dlen (d_Booking x2_Bookings)) = r_Booking x2_Bookings from rdw_Booking hg ht (dlen_Booking hg ht _), show rd (d_Trip x2_Closed) 0 (dlen (d_Trip x2_Closed)) = r_Trip x2_Closed from rdw_Trip hg ht (dlen_Trip hg ht _), show rd (d_Scan x2_Scans) 0 (dlen (d_Scan x2_Scans)) = r_Scan x2_Scans from rdw_Scan hg ht (dlen_Scan hg ht _), show rd (d_I64 x2_Skip) 0 (dlen (d_I64 x2_Skip)) = r_I64 x2_Skip from rdw_I64 hg ht (dlen_I64 hg ht _)]; try rfl) (hF _ _ _ (c_S_CountState hg ht hx3)) (.inr rfl) (Nat.le_of_ble_eq_true rfl) ?_
    cbv
    obtain ⟨x4, hx4, h⟩ := of_cl h
    obtain ⟨⟨x4_Network_Legs, x4_Network_Off, x4_Network_Change⟩, x4_Orders, x4_Bookings, x4_Closed, x4_Now, x4_Scans, x4_Skip, x4_Made⟩ := x4
    try dsimp only at h
    refine ACall.mk _ _ rfl (hF _ _ _ (c_L_toWorld hg ht hx4)) (.inl rfl) (Nat.le_of_ble_eq_true rfl) ?_
    cbv
    refine AStep.mk ⟨(lend_Leg ht (dlen_Leg hg ht _)), ⟨(lend_I64 ht (dlen_I64 hg ht _)), ⟨(lend_Order ht (dlen_Order hg ht _)), ⟨(lend_Booking ht (dlen_Booking hg ht _)), ⟨(lend_Trip ht (dlen_Trip hg ht _)), ⟨(lend_Scan ht (dlen_Scan hg ht _)), (lend_I64 ht (dlen_I64 hg ht _))⟩⟩⟩⟩⟩⟩ ?_
    cbv
    obtain ⟨x5, hx5, h⟩ := of_lP h
    try dsimp only at h
    refine ACall.mk _ _ (by rw [show rd (d_Leg x4_Network_Legs) 0 (dlen (d_Leg x4_Network_Legs)) = r_Leg x4_Network_Legs from rdw_Leg hg ht (dlen_Leg hg ht _), show rd (d_I64 x4_Network_Off) 0 (dlen (d_I64 x4_Network_Off)) = r_I64 x4_Network_Off from rdw_I64 hg ht (dlen_I64 hg ht _), show rd (d_Order x4_Orders) 0 (dlen (d_Order x4_Orders)) = r_Order x4_Orders from rdw_Order hg ht (dlen_Order hg ht _), show rd (d_Booking x4_Bookings) 0 (dlen (d_Booking x4_Bookings)) = r_Booking x4_Bookings from rdw_Booking hg ht (dlen_Booking hg ht _), show rd (d_Trip x4_Closed) 0 (dlen (d_Trip x4_Closed)) = r_Trip x4_Closed from rdw_Trip hg ht (dlen_Trip hg ht _), show rd (d_Scan x4_Scans) 0 (dlen (d_Scan x4_Scans)) = r_Scan x4_Scans from rdw_Scan hg ht (dlen_Scan hg ht _), show rd (d_I64 x4_Skip) 0 (dlen (d_I64 x4_Skip)) = r_I64 x4_Skip from rdw_I64 hg ht (dlen_I64 hg ht _)]; try rfl) (hF _ _ _ (c_I_CountState hg ht hx5)) (.inr rfl) (Nat.le_of_ble_eq_true rfl) ?_
    cbv
    cases hb2 : (eq x5 x3) with
    | true =>
      rw [br_true hb2] at h
      cbv
      obtain ⟨x6, hx6, h⟩ := of_cl h
      obtain ⟨⟨x6_Network_Legs, x6_Network_Off, x6_Network_Change⟩, x6_Orders, x6_Bookings, x6_Closed, x6_Now, x6_Scans, x6_Skip, x6_Made⟩ := x6
      try dsimp only at h
      refine ACall.mk _ _ rfl (hF _ _ _ (c_L_toWorld hg ht hx6)) (.inl rfl) (Nat.le_of_ble_eq_true rfl) ?_
      cbv
      refine AStep.mk ⟨⟨(lend_Leg ht (dlen_Leg hg ht _)), ⟨(lend_I64 ht (dlen_I64 hg ht _)), ⟨(lend_Order ht (dlen_Order hg ht _)), ⟨(lend_Booking ht (dlen_Booking hg ht _)), ⟨(lend_Trip ht (dlen_Trip hg ht _)), ⟨(lend_Scan ht (dlen_Scan hg ht _)), (lend_I64 ht (dlen_I64 hg ht _))⟩⟩⟩⟩⟩⟩, ⟨(lend_Leg ht (dlen_Leg hg ht _)), ⟨(lend_I64 ht (dlen_I64 hg ht _)), ⟨(lend_Order ht (dlen_Order hg ht _)), ⟨(lend_Booking ht (dlen_Booking hg ht _)), ⟨(lend_Trip ht (dlen_Trip hg ht _)), ⟨(lend_Scan ht (dlen_Scan hg ht _)), (lend_I64 ht (dlen_I64 hg ht _))⟩⟩⟩⟩⟩⟩⟩ ?_
      cbv
      obtain ⟨x7, hx7, h⟩ := of_cl h
      try dsimp only at h
      refine ACall.mk _ _ (by rw [show rd (d_Leg x4_Network_Legs) 0 (dlen (d_Leg x4_Network_Legs)) = r_Leg x4_Network_Legs from rdw_Leg hg ht (dlen_Leg hg ht _), show rd (d_I64 x4_Network_Off) 0 (dlen (d_I64 x4_Network_Off)) = r_I64 x4_Network_Off from rdw_I64 hg ht (dlen_I64 hg ht _), show rd (d_Order x4_Orders) 0 (dlen (d_Order x4_Orders)) = r_Order x4_Orders from rdw_Order hg ht (dlen_Order hg ht _), show rd (d_Booking x4_Bookings) 0 (dlen (d_Booking x4_Bookings)) = r_Booking x4_Bookings from rdw_Booking hg ht (dlen_Booking hg ht _), show rd (d_Trip x4_Closed) 0 (dlen (d_Trip x4_Closed)) = r_Trip x4_Closed from rdw_Trip hg ht (dlen_Trip hg ht _), show rd (d_Scan x4_Scans) 0 (dlen (d_Scan x4_Scans)) = r_Scan x4_Scans from rdw_Scan hg ht (dlen_Scan hg ht _), show rd (d_I64 x4_Skip) 0 (dlen (d_I64 x4_Skip)) = r_I64 x4_Skip from rdw_I64 hg ht (dlen_I64 hg ht _), show rd (d_Leg x6_Network_Legs) 0 (dlen (d_Leg x6_Network_Legs)) = r_Leg x6_Network_Legs from rdw_Leg hg ht (dlen_Leg hg ht _), show rd (d_I64 x6_Network_Off) 0 (dlen (d_I64 x6_Network_Off)) = r_I64 x6_Network_Off from rdw_I64 hg ht (dlen_I64 hg ht _), show rd (d_Order x6_Orders) 0 (dlen (d_Order x6_Orders)) = r_Order x6_Orders from rdw_Order hg ht (dlen_Order hg ht _), show rd (d_Booking x6_Bookings) 0 (dlen (d_Booking x6_Bookings)) = r_Booking x6_Bookings from rdw_Booking hg ht (dlen_Booking hg ht _), show rd (d_Trip x6_Closed) 0 (dlen (d_Trip x6_Closed)) = r_Trip x6_Closed from rdw_Trip hg ht (dlen_Trip hg ht _), show rd (d_Scan x6_Scans) 0 (dlen (d_Scan x6_Scans)) = r_Scan x6_Scans from rdw_Scan hg ht (dlen_Scan hg ht _), show rd (d_I64 x6_Skip) 0 (dlen (d_I64 x6_Skip)) = r_I64 x6_Skip from rdw_I64 hg ht (dlen_I64 hg ht _)]; try rfl) (hF _ _ _ (c_L_eqWorld hg ht hx7)) (.inr rfl) (Nat.le_of_ble_eq_true rfl) ?_
      cbv
      cases hb3 : x7 with
      | true =>
        rw [br_true hb3] at h
        cbv
        obtain rfl := Option.some.inj h
        exact ARet.mk trivial hX.symm
      | false =>
        rw [br_false hb3] at h
        cbv
        obtain rfl := Option.some.inj h
        exact ARet.mk trivial hX.symm
    | false =>
      rw [br_false hb2] at h
      cbv
      obtain rfl := Option.some.inj h
      exact ARet.mk trivial hX.symm
end Go.Vs
namespace Go.Vs
set_option maxRecDepth 100000
def ir83 : J :=
  .seq (.reg none [⟨(some 2), none, .box (.t 0)⟩,
     ⟨(some 3), none, .box (.t 1)⟩,
     ⟨(some 4), none, .mv (.k (V.b false))⟩] [2, 3])
  (.seq (.reg none [⟨(some 5), none, .ld true 3 (.t 2)⟩,
     ⟨(some 6), none, .fa 0 (.t 3)⟩,
     ⟨(some 7), none, .ld false 1 (.t 6)⟩,
     ⟨(some 8), none, .fa 1 (.t 3)⟩,
     ⟨(some 9), none, .ld false 1 (.t 8)⟩,
     ⟨(some 10), none, .call 126 true [(.t 5), (.t 7), (.t 9)]⟩,
     ⟨(some 4), none, .mv (.t 10)⟩] [4])
  (.ret))
def rv83 : List RV := [.t 4]
open Go.Proofs Go.IntWalk
set_option linter.unusedVariables false
set_option maxRecDepth 100000
set_option maxHeartbeats 4000000
def S_IsTrip (g : G) (t : TE) (a0 : Network) (a1 : Trip) : Option Bool :=
  cl (S_RunsOn g t a0 a1.Leg a1.Day) fun x1 =>
  some x1
theorem fit83 : codeFit Try.prog Try.f83.ntmps (Try.f83.body.getD .skip) ir83 = true := by kernel_rfl
theorem c_S_IsTrip {g : G} {t : TE} {a0 : Network} {a1 : Trip} {r : Bool} (hg : g = G.real) (ht : t = TE.real) (h : S_IsTrip g t a0 a1 = some r) : Fn Try.prog 83 [.g (Network.rs t a0), .g (Trip.rs t a1)] (.c (.r (.v (.bool r)))) := by
  obtain ⟨X, hX⟩ := hide (.c (.r (.v (.bool r))) : X)
  rw [← hX]
  refine fn_of (rvs := rv83) (j := ir83) Try.func83 rfl fit83 (Nat.le_of_ble_eq_true rfl) (by kernel_rfl) prog_mixed ?_
  intro g2 F hg2 hF
  obtain rfl : g2 = g := hg2.unique.trans hg.symm
  clear hg2
  obtain ⟨wrap, lt, le, eq, quo, rem, band, bor, bxor, shl, shr, nat, int, add, sub, mul, cat, seq, slt, sub3, byte, llen, nadd, nsub, dlen, dapp, dset, drep, rd, rda, up, rsub, dsub, all, sle, slen⟩ := g2
  obtain ⟨r_S, d_S, r_Trip, d_Trip, r_Leg, d_Leg, r_I64, d_I64, r_Order, d_Order, r_Booking, d_Booking, r_Scan, d_Scan, r_U8, d_U8, r_LI64, d_LI64⟩ := t
  obtain ⟨a0_Legs, a0_Off, a0_Change⟩ := a0
  obtain ⟨a1_Leg, a1_Day⟩ := a1
  unfold S_IsTrip at h
  try dsimp only at h
  cbv
  obtain ⟨x1, hx1, h⟩ := of_cl h
  try dsimp only at h
  refine ACall.mk _ _ rfl (hF _ _ _ (c_S_RunsOn hg ht hx1)) (.inl rfl) (Nat.le_of_ble_eq_true rfl) ?_
  cbv
  obtain rfl := Option.some.inj h
  exact ARet.mk trivial hX.symm
end Go.Vs
namespace Go.Vs
set_option maxRecDepth 100000
def ir101 : J :=
  .seq (.reg none [⟨(some 2), none, .box (.t 0)⟩,
     ⟨(some 4), none, .mv (.k (V.b false))⟩] [1, 2])
  (.seq (.seq (.reg none [⟨(some 7), none, .ld true 3 (.t 2)⟩,
      ⟨(some 8), none, .call 87 true [(.t 7)]⟩,
      ⟨(some 9), none, .not (.t 8)⟩,
      ⟨(some 10), none, .mv (.t 9)⟩,
      ⟨(some 11), (some (10, false)), .mv (.t 1)⟩,
      ⟨(some 12), (some (10, false)), .len false (.t 11)⟩,
      ⟨(some 13), (some (10, false)), .bin .gtr .i (.t 12) (.k (V.i 120))⟩,
      ⟨(some 14), none, .pick (.t 10) (.k (V.b true)) (.t 13)⟩] [1, 2, 14])
   (.cond (.t 14)
    (.seq (.reg none [⟨(some 4), none, .mv (.k (V.b false))⟩] [4])
     (.ret))
    (.skip)))
  (.seq (.seq (.reg none [⟨(some 15), none, .mv (.t 1)⟩,
      ⟨(some 16), none, .len false (.t 15)⟩,
      ⟨(some 17), none, .mv (.k (V.i 0))⟩] [1, 2, 15, 16, 17])
   (.bl 0 (.seq (.reg none [⟨(some 18), none, .bin .lss .i (.t 17) (.t 16)⟩] [1, 2, 15, 16, 17, 18])
    (.seq (.cond (.t 18)
      (.skip)
      (.exit 0))
    (.seq (.block 1 (.seq (.reg none [⟨(some 19), none, .mv (.t 17)⟩,
         ⟨(some 20), none, .ia 4 (.t 15) (.t 17)⟩,
         ⟨(some 21), none, .ld true 4 (.t 20)⟩,
         ⟨(some 6), none, .alloc [.r (.v (.int .i64 0)), .r (.v (.int .i64 0)), .r (.v (.int .i64 0)), .r (.v (.int .i64 0))]⟩,
         ⟨(some 5), none, .mv (.t 19)⟩,
         ⟨none, none, .st 4 (.t 6) (.t 21)⟩] [1, 2, 5, 6, 15, 16, 17])
      (.seq (.reg (some [[], [0], [0, 1], [0, 1, 2], [0, 1, 2], [0, 1, 2, 4], [0, 1, 2, 3, 4, 5], [0, 1, 2, 3, 4, 5, 6], [0, 1, 2], [0, 1, 2, 3, 4, 5, 6, 7, 8], [0, 1, 2, 3, 4, 5, 6, 7, 8, 9], [0, 1, 2, 3, 4, 5, 6, 7, 8, 9, 10], [0, 1, 2, 3, 4, 5, 6, 7, 8, 9, 10, 11], [0, 1, 2, 3, 4, 5, 6, 7, 8, 9, 10, 11, 12], [0, 1, 2, 3, 4, 5, 6, 7, 8, 9, 10, 11, 12], [0, 1, 2, 3, 4, 5, 6, 7, 8, 9, 10, 11, 12, 14], [0, 1, 2, 3, 4, 5, 6, 7, 8, 9, 10, 11, 12, 13, 14, 15], [0, 1, 2, 3, 4, 5, 6, 7, 8, 9, 10, 11, 12, 13, 14, 15, 16], [0, 1, 2, 3, 4, 5, 6, 7, 8, 9, 10, 11, 12, 13, 14, 15, 16, 17], [0, 1, 2, 3, 4, 5, 6, 7, 8, 9, 10, 11, 12, 13, 14, 15, 16, 17, 18], [0, 1, 2, 3, 4, 5, 6, 7, 8, 9, 10, 11, 12, 13, 14, 15, 16, 17, 18, 19], [0, 1, 2, 3, 4, 5, 6, 7, 8, 9, 10, 11, 12, 13, 14, 15, 16, 17, 18, 19, 20], [0, 1, 2, 3, 4, 5, 6, 7, 8, 9, 10, 11, 12, 13, 14, 15, 16, 17, 18, 19, 20, 21], [0, 1, 2, 3, 4, 5, 6, 7, 8, 9, 10, 11, 12, 13, 14, 15, 16, 17, 18, 19, 20, 21, 22], [0, 1, 2, 3, 4, 5, 6, 7, 8, 9, 10, 11, 12, 13, 14, 15, 16, 17, 18, 19, 20, 21, 22, 23], [0, 1, 2, 3, 4, 5, 6, 7, 8, 9, 10, 11, 12, 13, 14, 15, 16, 17, 18, 19, 20, 21, 22, 23, 24], [0, 1, 2, 3, 4, 5, 6, 7, 8, 9, 10, 11, 12, 13, 14, 15, 16, 17, 18, 19, 20, 21, 22, 23, 24, 25], [0, 1, 2, 3, 4, 5, 6, 7, 8, 9, 10, 11, 12, 13, 14, 15, 16, 17, 18, 19, 20, 21, 22, 23, 24, 25, 26], [0, 1, 2, 3, 4, 5, 6, 7, 8, 9, 10, 11, 12, 13, 14, 15, 16, 17, 18, 19, 20, 21, 22, 23, 24, 25, 26, 27], [0, 1, 2, 3, 4, 5, 6, 7, 8, 9, 10, 11, 12, 13, 14, 15, 16, 17, 18, 19, 20, 21, 22, 23, 24, 25, 26, 27, 28], [0, 1, 2, 3, 4, 5, 6, 7, 8, 9, 10, 11, 12, 13, 14, 15, 16, 17, 18, 19, 20, 21, 22, 23, 24, 25, 26, 27, 28, 29], [0, 1, 2, 3, 4, 5, 6, 7, 8, 9, 10, 11, 12, 13, 14, 15, 16, 17, 18, 19, 20, 21, 22, 23, 24, 25, 26, 27, 28, 29, 30], [0, 1, 2, 3, 4, 5, 6, 7, 8, 9, 10, 11, 12, 13, 14, 15, 16, 17, 18, 19, 20, 21, 22, 23, 24, 25, 26, 27, 28, 29, 30, 31], [0, 1, 2, 3, 4, 5, 6, 7, 8, 9, 10, 11, 12, 13, 14, 15, 16, 17, 18, 19, 20, 21, 22, 23, 24, 25, 26, 27, 28, 29, 30, 31], [0, 1, 2, 3, 4, 5, 6, 7, 8, 9, 10, 11, 12, 13, 14, 15, 16, 17, 18, 19, 20, 21, 22, 23, 24, 25, 26, 27, 28, 29, 30, 31, 33], [0, 1, 2, 3, 4, 5, 6, 7, 8, 9, 10, 11, 12, 13, 14, 15, 16, 17, 18, 19, 20, 21, 22, 23, 24, 25, 26, 27, 28, 29, 30, 31, 32, 33, 34], [0, 1, 2, 3, 4, 5, 6, 7, 8, 9, 10, 11, 12, 13, 14, 15, 16, 17, 18, 19, 20, 21, 22, 23, 24, 25, 26, 27, 28, 29, 30, 31], [0, 1, 2, 3, 4, 5, 6, 7, 8, 9, 10, 11, 12, 13, 14, 15, 16, 17, 18, 19, 20, 21, 22, 23, 24, 25, 26, 27, 28, 29, 30, 31, 36], [0, 1, 2, 3, 4, 5, 6, 7, 8, 9, 10, 11, 12, 13, 14, 15, 16, 17, 18, 19, 20, 21, 22, 23, 24, 25, 26, 27, 28, 29, 30, 31], [0, 1, 2, 3, 4, 5, 6, 7, 8, 9, 10, 11, 12, 13, 14, 15, 16, 17, 18, 19, 20, 21, 22, 23, 24, 25, 26, 27, 28, 29, 30, 31, 38], [0, 1, 2, 3, 4, 5, 6, 7, 8, 9, 10, 11, 12, 13, 14, 15, 16, 17, 18, 19, 20, 21, 22, 23, 24, 25, 26, 27, 28, 29, 30, 31, 38, 39], [0, 1, 2, 3, 4, 5, 6, 7, 8, 9, 10, 11, 12, 13, 14, 15, 16, 17, 18, 19, 20, 21, 22, 23, 24, 25, 26, 27, 28, 29, 30, 31, 36, 37, 38, 39, 40], [0, 1, 2, 3, 4, 5, 6, 7, 8, 9, 10, 11, 12, 13, 14, 15, 16, 17, 18, 19, 20, 21, 22, 23, 24, 25, 26, 27, 28, 29, 30, 31, 36, 37, 38, 39, 40, 41], [0, 1, 2, 3, 4, 5, 6, 7, 8, 9, 10, 11, 12, 13, 14, 15, 16, 17, 18, 19, 20, 21, 22, 23, 24, 25, 26, 27, 28, 29, 30, 31, 36, 37, 38, 39, 40, 41, 42], [0, 1, 2, 3, 4, 5, 6, 7, 8, 9, 10, 11, 12, 13, 14, 15, 16, 17, 18, 19, 20, 21, 22, 23, 24, 25, 26, 27, 28, 29, 30, 31, 32, 33, 34, 35, 36, 37, 38, 39, 40, 41, 42, 43], [0, 1, 2, 3, 4, 5, 6, 7, 8, 9, 10, 11, 12, 13, 14, 15, 16, 17, 18, 19, 20, 21, 22, 23, 24, 25, 26, 27, 28, 29, 30, 31, 32, 33, 34, 35, 36, 37, 38, 39, 40, 41, 42, 43, 44]]) [⟨(some 22), none, .mv (.t 5)⟩,
         ⟨(some 23), none, .bin .gtr .i (.t 22) (.k (V.i 0))⟩,
         ⟨(some 24), none, .mv (.t 23)⟩,
         ⟨(some 25), (some (24, true)), .mv (.t 1)⟩,
         ⟨(some 26), (some (24, true)), .mv (.t 5)⟩,
         ⟨(some 27), (some (24, true)), .bin .sub .i (.t 26) (.k (V.i 1))⟩,
         ⟨(some 28), (some (24, true)), .ia 4 (.t 25) (.t 27)⟩,
         ⟨(some 29), (some (24, true)), .ld true 4 (.t 28)⟩,
         ⟨(some 30), (some (24, true)), .ld true 4 (.t 6)⟩,
         ⟨(some 31), (some (24, true)), .call 141 true [(.t 29), (.t 30)]⟩,
         ⟨(some 32), (some (24, true)), .bin .geq .i (.t 31) (.k (V.i 0))⟩,
         ⟨(some 33), none, .pick (.t 24) (.t 32) (.k (V.b false))⟩,
         ⟨(some 34), none, .mv (.t 33)⟩,
         ⟨(some 35), (some (34, false)), .ld true 3 (.t 2)⟩,
         ⟨(some 36), (some (34, false)), .fa 1 (.t 6)⟩,
         ⟨(some 37), (some (34, false)), .ld true 2 (.t 36)⟩,
         ⟨(some 38), (some (34, false)), .call 91 true [(.t 35), (.t 37)]⟩,
         ⟨(some 39), (some (34, false)), .not (.t 38)⟩,
         ⟨(some 40), none, .pick (.t 34) (.k (V.b true)) (.t 39)⟩,
         ⟨(some 41), none, .mv (.t 40)⟩,
         ⟨(some 42), (some (41, false)), .fa 0 (.t 6)⟩,
         ⟨(some 43), (some (41, false)), .ld false 1 (.t 42)⟩,
         ⟨(some 44), (some (41, false)), .call 88 true [(.t 43), (.k (V.i 1)), (.k (V.i 9999))]⟩,
         ⟨(some 45), (some (41, false)), .not (.t 44)⟩,
         ⟨(some 46), none, .pick (.t 41) (.k (V.b true)) (.t 45)⟩,
         ⟨(some 47), none, .mv (.t 46)⟩,
         ⟨(some 48), (some (47, false)), .fa 3 (.t 6)⟩,
         ⟨(some 49), (some (47, false)), .ld false 1 (.t 48)⟩,
         ⟨(some 50), (some (47, false)), .call 88 true [(.t 49), (.k (V.i 1)), (.k (V.i 1000000))]⟩,
         ⟨(some 51), (some (47, false)), .not (.t 50)⟩,
         ⟨(some 52), none, .pick (.t 47) (.k (V.b true)) (.t 51)⟩,
         ⟨(some 53), none, .mv (.t 52)⟩,
         ⟨(some 54), (some (53, false)), .mv (.t 1)⟩,
         ⟨(some 55), (some (53, false)), .fa 1 (.t 6)⟩,
         ⟨(some 56), (some (53, false)), .ld true 2 (.t 55)⟩,
         ⟨(some 57), (some (53, false)), .call 142 true [(.t 54), (.t 56)]⟩,
         ⟨(some 58), (some (53, false)), .fa 0 (.t 2)⟩,
         ⟨(some 59), (some (53, false)), .ld false 1 (.t 58)⟩,
         ⟨(some 60), (some (53, false)), .fa 1 (.t 6)⟩,
         ⟨(some 61), (some (53, false)), .fa 0 (.t 60)⟩,
         ⟨(some 62), (some (53, false)), .ld false 1 (.t 61)⟩,
         ⟨(some 63), (some (53, false)), .ia 6 (.t 59) (.t 62)⟩,
         ⟨(some 64), (some (53, false)), .fa 5 (.t 63)⟩,
         ⟨(some 65), (some (53, false)), .ld false 1 (.t 64)⟩,
         ⟨(some 66), (some (53, false)), .bin .gtr .i (.t 57) (.t 65)⟩,
         ⟨(some 67), none, .pick (.t 53) (.k (V.b true)) (.t 66)⟩] [1, 2, 15, 16, 17, 67])
      (.cond (.t 67)
       (.seq (.reg none [⟨(some 4), none, .mv (.k (V.b false))⟩] [4])
        (.ret))
       (.skip)))))
    (.reg none [⟨(some 68), none, .bin .add .i (.t 17) (.k (V.i 1))⟩,
      ⟨(some 17), none, .mv (.t 68)⟩] [1, 2, 15, 16, 17]))))))
  (.seq (.reg none [⟨(some 4), none, .mv (.k (V.b true))⟩] [4])
  (.ret))))
def rv101 : List RV := [.t 4]
open Go.Proofs Go.IntWalk
set_option linter.unusedVariables false
set_option maxRecDepth 100000
set_option maxHeartbeats 4000000
def I_AreBookings_l1 (g : G) (t : TE) (a0 : Network) (a1 : List Booking) : List Booking → Int → Option (LR Bool Unit)
  | [], v1 =>
    some (LR.out ())
  | z1 :: ls1, v1 =>
    br (g.lt 0 v1)
    (
     gd ((0 ≤ (g.wrap .i64 (g.sub v1 1)))) <|
     gt a1 (g.nat (g.wrap .i64 (g.sub v1 1))) fun x2 =>
     lP (I_compareBookings g t (Booking.mk x2.Thing (Trip.mk x2.Trip.Leg x2.Trip.Day) x2.Weight) (Booking.mk z1.Thing (Trip.mk z1.Trip.Leg z1.Trip.Day) z1.Weight)) fun x3 =>
     br (g.le 0 x3)
     (
      some (LR.ret false))
     (
      cl (I_IsTrip g t a0 (Trip.mk z1.Trip.Leg z1.Trip.Day)) fun x4 =>
      br x4
      (
       lP (I_within g t z1.Thing 1 9999) fun x5 =>
       br x5
       (
        lP (I_within g t z1.Weight 1 1000000) fun x6 =>
        br x6
        (
         lP (I_LoadOf g t a1 (Trip.mk z1.Trip.Leg z1.Trip.Day)) fun x7 =>
         gd ((0 ≤ z1.Trip.Leg)) <|
         gt a0.Legs (g.nat z1.Trip.Leg) fun x8 =>
         br (g.lt x8.Room x7)
         (
          some (LR.ret false))
         (
          I_AreBookings_l1 g t a0 a1 ls1 (g.wrap .i64 (g.add v1 1))))
        (
         some (LR.ret false)))
       (
        some (LR.ret false)))
      (
       some (LR.ret false))))
    (
     cl (I_IsTrip g t a0 (Trip.mk z1.Trip.Leg z1.Trip.Day)) fun x9 =>
     br x9
     (
      lP (I_within g t z1.Thing 1 9999) fun x10 =>
      br x10
      (
       lP (I_within g t z1.Weight 1 1000000) fun x11 =>
       br x11
       (
        lP (I_LoadOf g t a1 (Trip.mk z1.Trip.Leg z1.Trip.Day)) fun x12 =>
        gd ((0 ≤ z1.Trip.Leg)) <|
        gt a0.Legs (g.nat z1.Trip.Leg) fun x13 =>
        br (g.lt x13.Room x12)
        (
         some (LR.ret false))
        (
         I_AreBookings_l1 g t a0 a1 ls1 (g.wrap .i64 (g.add v1 1))))
       (
        some (LR.ret false)))
      (
       some (LR.ret false)))
     (
      some (LR.ret false)))
def I_AreBookings (g : G) (t : TE) (a0 : Network) (a1 : List Booking) : Option Bool :=
  cl (I_IsNetwork g t a0) fun x1 =>
  br x1
  (
   br (g.lt 120 (g.llen (t.r_Booking a1)))
   (
    some false)
   (
    cl (I_AreBookings_l1 g t a0 a1 a1 0) fun o1 => lr o1 fun y1 =>
    some true))
  (
   some false)
theorem fit101 : codeFit Try.prog Try.f101.ntmps (Try.f101.body.getD .skip) ir101 = true := by kernel_rfl
theorem c_I_AreBookings {g : G} {t : TE} {a0 : Network} {a1 : List Booking} {r : Bool} (hg : g = G.real) (ht : t = TE.real) (h : I_AreBookings g t a0 a1 = some r) : Fn Try.prog 101 [.g (Network.rs t a0), .c (.s 4 (t.r_Booking a1))] (.c (.r (.v (.bool r)))) := by
  obtain ⟨X, hX⟩ := hide (.c (.r (.v (.bool r))) : X)
  rw [← hX]
  refine fn_of (rvs := rv101) (j := ir101) Try.func101 rfl fit101 (Nat.le_of_ble_eq_true rfl) (by kernel_rfl) prog_mixed ?_
  intro g2 F hg2 hF
  obtain rfl : g2 = g := hg2.unique.trans hg.symm
  clear hg2
  obtain ⟨wrap, lt, le, eq, quo, rem, band, bor, bxor, shl, shr, nat, int, add, sub, mul, cat, seq, slt, sub3, byte, llen, nadd, nsub, dlen, dapp, dset, drep, rd, rda, up, rsub, dsub, all, sle, slen⟩ := g2
  obtain ⟨r_S, d_S, r_Trip, d_Trip, r_Leg, d_Leg, r_I64, d_I64, r_Order, d_Order, r_Booking, d_Booking, r_Scan, d_Scan, r_U8, d_U8, r_LI64, d_LI64⟩ := t
  obtain ⟨a0_Legs, a0_Off, a0_Change⟩ := a0
  unfold I_AreBookings at h
  try dsimp only at h
  cbv
  obtain ⟨x1, hx1, h⟩ := of_cl h
  try dsimp only at h
  refine ACall.mk _ _ rfl (hF _ _ _ (c_I_IsNetwork hg ht hx1)) (.inl rfl) (Nat.le_of_ble_eq_true rfl) ?_
  cbv
  cases hb1 : x1 with
  | true =>
    rw [br_true hb1] at h
    cbv
    try (rw [hb1]; cbv)
    try (rw [hb1]; cbv)
    try (rw [hb1]; cbv)
    cases hb2 : (lt 120 (llen (r_Booking a1))) with
    | true =>
      rw [br_true hb2] at h
      cbv
      obtain rfl := Option.some.inj h
      exact ARet.mk trivial hX.symm
    | false =>
      rw [br_false hb2] at h
      cbv
      obtain ⟨o1, ho1, h⟩ := of_cl h
      try dsimp only at h
      try rw [hg] at ho1
      try rw [ht] at ho1
      refine ABL.mk { p : Nat × Int // p.1 ≤ a1.length ∧ p.2 = ((p.1 : Nat) : Int) ∧ I_AreBookings_l1 G.real TE.real (Network.mk a0_Legs a0_Off a0_Change) a1 (List.drop p.1 a1) p.2 = some o1 } (fun ⟨⟨k1, v1⟩, _⟩ => ({ sl := [(1, .c (.r (.s 4 (r_Booking a1)))), (2, .c (.p 0 3 0 0)), (15, .c (.r (.s 4 (r_Booking a1)))), (16, .c (.r (.v (.int .i64 (llen (r_Booking a1)))))), (17, .c (.r (.v (.int .i64 v1))))], tab := [(0, some (.foc 3 [] [.r (.s 6 (r_Leg a0_Legs)), .r (.s 1 (r_I64 a0_Off)), .r (.v (.int .i64 a0_Change))] []))] } : St)) 1 (fun p => a1.length - p.1.1) ⟨(0, 0), Nat.zero_le _, rfl, ho1⟩ (Unit) (fun _ => ({ sl := [], tab := [] } : St)) 0 (fun y => o1 = LR.out y) ?_ ?_ ?_
      · refine Wk.of [(0, some 0)] rfl rfl ?_ ?_
        · cbv
          all_goals exact ⟨⟨_, rfl, rfl⟩, ⟨_, rfl, rfl⟩, ⟨_, rfl, rfl⟩, ⟨_, rfl, rfl⟩, ⟨_, rfl, rfl⟩, trivial⟩
        · cbv
          all_goals exact ⟨⟨_, rfl, _, rfl, rfl, rfl, rfl, trivial⟩, trivial⟩
      · rintro ⟨⟨k1, v1⟩, hk1, hi1, h_1⟩ hq1
        have hm1 := (hq1.1 1 _ _ rfl)
        try dsimp only at hk1 hi1 h_1
        clear hq1
        cbv
        by_cases hc1_ : k1 < a1.length
        · have hb3 : lt v1 (llen (r_Booking a1)) = true := ltL_true_Booking hg ht hi1 hc1_
          have hs1 := stepL_Booking hg ht hi1 hc1_ hm1
          obtain ⟨z1, hz1⟩ := some_of_lt hc1_
          rw [drop_of_some hz1] at h_1
          rw [I_AreBookings_l1] at h_1
          obtain ⟨z1_Thing, ⟨z1_Trip_Leg, z1_Trip_Day⟩, z1_Weight⟩ := z1
          try rw [← hg] at h_1
          try rw [← ht] at h_1
          try dsimp only at h_1
          rw [hb3]
          cbv
          refine AStep.mk (nn_L hi1) ?_
          cbv
          refine AGet.mk _ (r_getL_Booking hg ht hi1 hz1) ?_
          cbv
          cases hb4 : (lt 0 v1) with
          | true =>
            rw [br_true hb4] at h_1
            cbv
            try (rw [hb4]; cbv)
            try (rw [hb4]; cbv)
            try (rw [hb4]; cbv)
            obtain ⟨hc1, h_1⟩ := of_gd h_1
            refine AStep.mk hc1 ?_
            cbv
            obtain ⟨x2, hx2, h_1⟩ := of_gt h_1
            obtain ⟨x2_Thing, ⟨x2_Trip_Leg, x2_Trip_Day⟩, x2_Weight⟩ := x2
            try dsimp only at h_1
            refine AGet.mk _ (r_get_Booking hg ht hx2) ?_
            cbv
            try (rw [hb4]; cbv)
            try (rw [hb4]; cbv)
            try (rw [hb4]; cbv)
            obtain ⟨x3, hx3, h_1⟩ := of_lP h_1
            try dsimp only at h_1
            refine ACall.mk _ _ rfl (hF _ _ _ (c_I_compareBookings hg ht hx3)) (.inl rfl) (Nat.le_of_ble_eq_true rfl) ?_
            cbv
            try (rw [hb4]; cbv)
            try (rw [hb4]; cbv)
            cases hb5 : (le 0 x3) with
            | true =>
              rw [br_true hb5] at h_1
              cbv
              try (rw [hb5]; cbv)
              try (rw [hb5]; cbv)
              try (rw [hb5]; cbv)
              try (rw [hb5]; cbv)
              try (rw [hb5]; cbv)
              obtain rfl := Option.some.inj h_1
              try dsimp only [lr, lrL, lrp, lrpL] at h
              obtain rfl := Option.some.inj h
              exact ARet.mk trivial hX.symm
            | false =>
              rw [br_false hb5] at h_1
              cbv
              try (rw [hb5]; cbv)
              try (rw [hb5]; cbv)
              try (rw [hb5]; cbv)
              obtain ⟨x4, hx4, h_1⟩ := of_cl h_1
              try dsimp only at h_1
              refine ACall.mk _ _ rfl (hF _ _ _ (c_I_IsTrip hg ht hx4)) (.inl rfl) (Nat.le_of_ble_eq_true rfl) ?_
              cbv
              try (rw [hb5]; cbv)
              try (rw [hb5]; cbv)
              cases hb6 : x4 with
              | true =>
                rw [br_true hb6] at h_1
                cbv
                try (rw [hb6]; cbv)
                try (rw [hb6]; cbv)
                obtain ⟨x5, hx5, h_1⟩ := of_lP h_1
                try dsimp only at h_1
                refine ACall.mk _ _ rfl (hF _ _ _ (c_I_within hg ht hx5)) (.inl rfl) (Nat.le_of_ble_eq_true rfl) ?_
                cbv
                try (rw [hb6]; cbv)
                try (rw [hb6]; cbv)
                cases hb7 : x5 with
                | true =>
                  rw [br_true hb7] at h_1
                  cbv
                  try (rw [hb7]; cbv)
                  try (rw [hb7]; cbv)
                  obtain ⟨x6, hx6, h_1⟩ := of_lP h_1
                  try dsimp only at h_1
                  refine ACall.mk _ _ rfl (hF _ _ _ (c_I_within hg ht hx6)) (.inl rfl) (Nat.le_of_ble_eq_true rfl) ?_
                  cbv
                  try (rw [hb7]; cbv)
                  try (rw [hb7]; cbv)
                  cases hb8 : x6 with
                  | true =>
                    rw [br_true hb8] at h_1
                    cbv
                    try (rw [hb8]; cbv)
                    try (rw [hb8]; cbv)
                    try (rw [hb8]; cbv)
                    obtain ⟨x7, hx7, h_1⟩ := of_lP h_1
                    try dsimp only at h_1
                    refine ACall.mk _ _ rfl (hF _ _ _ (c_I_LoadOf hg ht hx7)) (.inl rfl) (Nat.le_of_ble_eq_true rfl) ?_
                    cbv
                    try (rw [hb8]; cbv)
                    try (rw [hb8]; cbv)
                    try (rw [hb8]; cbv)
                    try (rw [hb8]; cbv)
                    try (rw [hb8]; cbv)
                    try (rw [hb8]; cbv)
                    obtain ⟨hc2, h_1⟩ := of_gd h_1
                    refine AStep.mk hc2 ?_
                    cbv
                    obtain ⟨x8, hx8, h_1⟩ := of_gt h_1
                    obtain ⟨x8_From, x8_To, x8_Start, x8_Takes, x8_Days, x8_Room⟩ := x8
                    try dsimp only at h_1
                    refine AGet.mk _ (r_get_Leg hg ht hx8) ?_
                    cbv
                    try (rw [hb8]; cbv)
                    try (rw [hb8]; cbv)
                    try (rw [hb8]; cbv)
                    try (rw [hb8]; cbv)
                    cases hb9 : (lt x8_Room x7) with
                    | true =>
                      rw [br_true hb9] at h_1
                      cbv
                      obtain rfl := Option.some.inj h_1
                      try dsimp only [lr, lrL, lrp, lrpL] at h
                      obtain rfl := Option.some.inj h
                      exact ARet.mk trivial hX.symm
                    | false =>
                      rw [br_false hb9] at h_1
                      cbv
                      try rw [hg] at h_1
                      try rw [ht] at h_1
                      refine ⟨⟨(k1 + 1, (wrap .i64 (add v1 1))), hc1_, hs1, h_1⟩, Wk.of [(0, some 0)] rfl rfl ?_ ?_, meas_L hc1_⟩
                      · cbv
                        all_goals exact ⟨⟨_, rfl, rfl⟩, ⟨_, rfl, rfl⟩, ⟨_, rfl, rfl⟩, ⟨_, rfl, rfl⟩, ⟨_, rfl, rfl⟩, trivial⟩
                      · cbv
                        all_goals exact ⟨⟨_, rfl, _, rfl, rfl, rfl, rfl, trivial⟩, trivial⟩
                  | false =>
                    rw [br_false hb8] at h_1
                    cbv
                    try (rw [hb8]; cbv)
                    try (rw [hb8]; cbv)
                    try (rw [hb8]; cbv)
                    try (rw [hb8]; cbv)
                    try (rw [hb8]; cbv)
                    try (rw [hb8]; cbv)
                    try (rw [hb8]; cbv)
                    try (rw [hb8]; cbv)
                    try (rw [hb8]; cbv)
                    try (rw [hb8]; cbv)
                    try (rw [hb8]; cbv)
                    try (rw [hb8]; cbv)
                    try (rw [hb8]; cbv)
                    obtain rfl := Option.some.inj h_1
                    try dsimp only [lr, lrL, lrp, lrpL] at h
                    obtain rfl := Option.some.inj h
                    exact ARet.mk trivial hX.symm
                | false =>
                  rw [br_false hb7] at h_1
                  cbv
                  try (rw [hb7]; cbv)
                  try (rw [hb7]; cbv)
                  try (rw [hb7]; cbv)
                  try (rw [hb7]; cbv)
                  obtain rfl := Option.some.inj h_1
                  try dsimp only [lr, lrL, lrp, lrpL] at h
                  obtain rfl := Option.some.inj h
                  exact ARet.mk trivial hX.symm
              | false =>
                rw [br_false hb6] at h_1
                cbv
                try (rw [hb6]; cbv)
                try (rw [hb6]; cbv)
                try (rw [hb6]; cbv)
                try (rw [hb6]; cbv)
                obtain rfl := Option.some.inj h_1
                try dsimp only [lr, lrL, lrp, lrpL] at h
                obtain rfl := Option.some.inj h
                exact ARet.mk trivial hX.symm
          | false =>
            rw [br_false hb4] at h_1
            cbv
            try (rw [hb4]; cbv)
            try (rw [hb4]; cbv)
            try (rw [hb4]; cbv)
            try (rw [hb4]; cbv)
            try (rw [hb4]; cbv)
            try (rw [hb4]; cbv)
            try (rw [hb4]; cbv)
            try (rw [hb4]; cbv)
            obtain ⟨x9, hx9, h_1⟩ := of_cl h_1
            try dsimp only at h_1
            refine ACall.mk _ _ rfl (hF _ _ _ (c_I_IsTrip hg ht hx9)) (.inl rfl) (Nat.le_of_ble_eq_true rfl) ?_
            cbv
            cases hb10 : x9 with
            | true =>
              rw [br_true hb10] at h_1
              cbv
              try (rw [hb10]; cbv)
              try (rw [hb10]; cbv)
              obtain ⟨x10, hx10, h_1⟩ := of_lP h_1
              try dsimp only at h_1
              refine ACall.mk _ _ rfl (hF _ _ _ (c_I_within hg ht hx10)) (.inl rfl) (Nat.le_of_ble_eq_true rfl) ?_
              cbv
              try (rw [hb10]; cbv)
              try (rw [hb10]; cbv)
              cases hb11 : x10 with
              | true =>
                rw [br_true hb11] at h_1
                cbv
                try (rw [hb11]; cbv)
                try (rw [hb11]; cbv)
                obtain ⟨x11, hx11, h_1⟩ := of_lP h_1
                try dsimp only at h_1
                refine ACall.mk _ _ rfl (hF _ _ _ (c_I_within hg ht hx11)) (.inl rfl) (Nat.le_of_ble_eq_true rfl) ?_
                cbv
                try (rw [hb11]; cbv)
                try (rw [hb11]; cbv)
                cases hb12 : x11 with
                | true =>
                  rw [br_true hb12] at h_1
                  cbv
                  try (rw [hb12]; cbv)
                  try (rw [hb12]; cbv)
                  try (rw [hb12]; cbv)
                  obtain ⟨x12, hx12, h_1⟩ := of_lP h_1
                  try dsimp only at h_1
                  refine ACall.mk _ _ rfl (hF _ _ _ (c_I_LoadOf hg ht hx12)) (.inl rfl) (Nat.le_of_ble_eq_true rfl) ?_
                  cbv
                  try (rw [hb12]; cbv)
                  try (rw [hb12]; cbv)
                  try (rw [hb12]; cbv)
                  try (rw [hb12]; cbv)
                  try (rw [hb12]; cbv)
                  try (rw [hb12]; cbv)
                  obtain ⟨hc3, h_1⟩ := of_gd h_1
                  refine AStep.mk hc3 ?_
                  cbv
                  obtain ⟨x13, hx13, h_1⟩ := of_gt h_1
                  obtain ⟨x13_From, x13_To, x13_Start, x13_Takes, x13_Days, x13_Room⟩ := x13
                  try dsimp only at h_1
                  refine AGet.mk _ (r_get_Leg hg ht hx13) ?_
                  cbv
                  try (rw [hb12]; cbv)
                  try (rw [hb12]; cbv)
                  try (rw [hb12]; cbv)
                  try (rw [hb12]; cbv)
                  cases hb13 : (lt x13_Room x12) with
                  | true =>
                    rw [br_true hb13] at h_1
                    cbv
                    obtain rfl := Option.some.inj h_1
                    try dsimp only [lr, lrL, lrp, lrpL] at h
                    obtain rfl := Option.some.inj h
                    exact ARet.mk trivial hX.symm
                  | false =>
                    rw [br_false hb13] at h_1
                    cbv
                    try rw [hg] at h_1
                    try rw [ht] at h_1
                    refine ⟨⟨(k1 + 1, (wrap .i64 (add v1 1))), hc1_, hs1, h_1⟩, Wk.of [(0, some 0)] rfl rfl ?_ ?_, meas_L hc1_⟩
                    · cbv
                      all_goals exact ⟨⟨_, rfl, rfl⟩, ⟨_, rfl, rfl⟩, ⟨_, rfl, rfl⟩, ⟨_, rfl, rfl⟩, ⟨_, rfl, rfl⟩, trivial⟩
                    · cbv
                      all_goals exact ⟨⟨_, rfl, _, rfl, rfl, rfl, rfl, trivial⟩, trivial⟩
                | false =>
                  rw [br_false hb12] at h_1
                  cbv
                  try (rw [hb12]; cbv)
                  try (rw [hb12]; cbv)
                  try (rw [hb12]; cbv)
                  try (rw [hb12]; cbv)
                  try (rw [hb12]; cbv)
                  try (rw [hb12]; cbv)
                  try (rw [hb12]; cbv)
                  try (rw [hb12]; cbv)
                  try (rw [hb12]; cbv)
                  try (rw [hb12]; cbv)
                  try (rw [hb12]; cbv)
                  try (rw [hb12]; cbv)
                  try (rw [hb12]; cbv)
                  obtain rfl := Option.some.inj h_1
                  try dsimp only [lr, lrL, lrp, lrpL] at h
                  obtain rfl := Option.some.inj h
                  exact ARet.mk trivial hX.symm
              | false =>
                rw [br_false hb11] at h_1
                cbv
                try (rw [hb11]; cbv)
                try (rw [hb11]; cbv)
                try (rw [hb11]; cbv)
                try (rw [hb11]; cbv)
                obtain rfl := Option.some.inj h_1
                try dsimp only [lr, lrL, lrp, lrpL] at h
                obtain rfl := Option.some.inj h
                exact ARet.mk trivial hX.symm
            | false =>
              rw [br_false hb10] at h_1
              cbv
              try (rw [hb10]; cbv)
              try (rw [hb10]; cbv)
              try (rw [hb10]; cbv)
              try (rw [hb10]; cbv)
              obtain rfl := Option.some.inj h_1
              try dsimp only [lr, lrL, lrp, lrpL] at h
              obtain rfl := Option.some.inj h
              exact ARet.mk trivial hX.symm
        · have hb3 : lt v1 (llen (r_Booking a1)) = false := ltL_false_Booking hg ht hi1 hc1_
          rw [List.drop_of_length_le (Nat.le_of_not_lt hc1_)] at h_1
          rw [I_AreBookings_l1] at h_1
          try rw [← hg] at h_1
          try rw [← ht] at h_1
          try dsimp only at h_1
          rw [hb3]
          cbv
          refine ⟨(), Wk.of [] rfl rfl ?_ ?_, (Option.some.inj h_1).symm⟩
          · cbv
            all_goals exact trivial
          · cbv
            all_goals exact trivial
      · rintro _ hy1
        replace hy1 := hy1.symm
        subst hy1
        try dsimp only [lr, lrL, lrp, lrpL] at h
        cbv
        obtain rfl := Option.some.inj h
        exact ARet.mk trivial hX.symm
  | false =>
    rw [br_false hb1] at h
    cbv
    try (rw [hb1]; cbv)
    try (rw [hb1]; cbv)
    try (rw [hb1]; cbv)
    obtain rfl := Option.some.inj h
    exact ARet.mk trivial hX.symm
end Go.Vs
