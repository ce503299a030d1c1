/- Part of the proofs of this seat's laws: L4a. No condition. -/
import Derived.Test.YtlfbmhmjfffimaaTy
import Derived.Test.YtlfbmhmjfffimaaTIRall
import Derived.Test.YtlfbmhmjfffimaaL2a
import Derived.Test.YtlfbmhmjfffimaaL1a
import Derived.Test.YtlfbmhmjfffimaaL3a
import Derived.Test.YtlfbmhmjfffimaaL1b
import Derived.Test.YtlfbmhmjfffimaaL1c
import Derived.Test.YtlfbmhmjfffimaaL3b
import Derived.Test.YtlfbmhmjfffimaaL2b
set_option linter.unusedVariables false
set_option linter.unusedSimpArgs false
set_option linter.unusedSectionVars false
namespace Go.Vs
set_option maxRecDepth 100000
def ir4 : J :=
  .seq (.reg none [⟨(some 1), none, .box (.t 0)⟩,
     ⟨(some 2), none, .mv (.k (V.b false))⟩] [1])
  (.seq (.reg none [⟨(some 3), none, .mv (.k (V.i 1048576))⟩] [1, 3])
  (.seq (.reg none [⟨(some 7), none, .ld true 2 (.t 1)⟩,
     ⟨(some 8), none, .mv (.t 3)⟩,
     ⟨(some 9), none, .call 18 true [(.t 7), (.t 8)]⟩,
     ⟨(some 3), none, .mv (.t 9)⟩] [1, 3])
  (.seq (.seq (.reg none [⟨(some 10), none, .mv (.t 3)⟩,
      ⟨(some 11), none, .bin .lss .i (.t 10) (.k (V.i 0))⟩] [1, 11])
   (.cond (.t 11)
    (.seq (.reg none [⟨(some 2), none, .mv (.k (V.b true))⟩] [2])
     (.ret))
    (.skip)))
  (.seq (.reg none [⟨(some 12), none, .ld true 2 (.t 1)⟩,
     ⟨(some 13), none, .call 20 true [(.t 12)]⟩,
     ⟨(some 14), none, .call 19 true [(.t 13)]⟩,
     ⟨(some 4), none, .mv (.t 14)⟩] [1, 4])
  (.seq (.reg none [⟨(some 15), none, .ld true 2 (.t 1)⟩,
     ⟨(some 16), none, .call 20 true [(.t 15)]⟩,
     ⟨(some 5), none, .alloc [.n 1, .n 2]⟩,
     ⟨none, none, .st 2 (.t 5) (.t 16)⟩] [1, 4, 5])
  (.seq (.reg none [⟨(some 17), none, .ld true 2 (.t 5)⟩,
     ⟨(some 18), none, .call 21 true [(.t 17)]⟩,
     ⟨(some 6), none, .mv (.t 18)⟩] [1, 4, 5, 6])
  (.seq (.seq (.reg none [⟨(some 19), none, .mv (.t 6)⟩,
      ⟨(some 20), none, .mv (.t 4)⟩,
      ⟨(some 21), none, .bin .neq .i (.t 19) (.t 20)⟩] [1, 5, 21])
   (.cond (.t 21)
    (.seq (.reg none [⟨(some 2), none, .mv (.k (V.b false))⟩] [2])
     (.ret))
    (.skip)))
  (.seq (.seq (.reg (some [[], [], [1], [0, 1, 2], [0, 1, 2, 3]]) [⟨(some 22), none, .ld true 2 (.t 5)⟩,
      ⟨(some 23), none, .ld true 2 (.t 1)⟩,
      ⟨(some 24), none, .call 20 true [(.t 23)]⟩,
      ⟨(some 25), none, .call 22 true [(.t 22), (.t 24)]⟩,
      ⟨(some 26), none, .not (.t 25)⟩] [26])
   (.cond (.t 26)
    (.seq (.reg none [⟨(some 2), none, .mv (.k (V.b false))⟩] [2])
     (.ret))
    (.skip)))
  (.seq (.reg none [⟨(some 2), none, .mv (.k (V.b true))⟩] [2])
  (.ret))))))))))
def rv4 : List RV := [.t 2]
open Go.Proofs Go.IntWalk
set_option linter.unusedVariables false
set_option maxRecDepth 100000
set_option maxHeartbeats 4000000
def L_FnExactDoubt (g : G) (t : TE) (a0 : Belief) : Option Bool :=
  lP (L_szBelief g t a0 1048576) fun x1 =>
  br (g.lt x1 0)
  (
   some true)
  (
   cl (L_toBelief g t a0) fun x2 =>
   lP (S_Doubt g t x2) fun x3 =>
   cl (L_toBelief g t a0) fun x4 =>
   lP (I_Doubt g t x4) fun x5 =>
   br (g.eq x5 x3)
   (
    cl (L_toBelief g t a0) fun x6 =>
    cl (L_eqBelief g t x4 x6) fun x7 =>
    br x7
    (
     some true)
    (
     some false))
   (
    some false))
theorem fit4 : codeFit Try.prog Try.f4.ntmps (Try.f4.body.getD .skip) ir4 = true := by kernel_rfl
theorem c_L_FnExactDoubt {g : G} {t : TE} {a0 : Belief} {r : Bool} (hg : g = G.real) (ht : t = TE.real) (h : L_FnExactDoubt g t a0 = some r) : Fn Try.prog 4 [.g (Belief.rs t a0)] (.c (.r (.v (.bool r)))) := by
  obtain ⟨X, hX⟩ := hide (.c (.r (.v (.bool r))) : X)
  rw [← hX]
  refine fn_of (rvs := rv4) (j := ir4) Try.func4 rfl fit4 (Nat.le_of_ble_eq_true rfl) (by kernel_rfl) prog_mixed ?_
  intro g2 F hg2 hF
  obtain rfl : g2 = g := hg2.unique.trans hg.symm
  clear hg2
  obtain ⟨wrap, lt, le, eq, quo, rem, band, bor, bxor, shl, shr, nat, int, add, sub, mul, cat, seq, slt, sub3, byte, llen, nadd, nsub, dlen, dapp, dset, drep, rd, rda, up, rsub, dsub, all, sle, slen⟩ := g2
  obtain ⟨r_S, d_S, r_Trip, d_Trip, r_Leg, d_Leg, r_I64, d_I64, r_Order, d_Order, r_Booking, d_Booking, r_Scan, d_Scan, r_U8, d_U8, r_LI64, d_LI64⟩ := t
  obtain ⟨a0_Places, a0_Rides⟩ := a0
  unfold L_FnExactDoubt at h
  try dsimp only at h
  cbv
  obtain ⟨x1, hx1, h⟩ := of_lP h
  try dsimp only at h
  refine ACall.mk _ _ rfl (hF _ _ _ (c_L_szBelief hg ht hx1)) (.inl rfl) (Nat.le_of_ble_eq_true rfl) ?_
  cbv
  cases hb1 : (lt x1 0) with
  | true =>
    rw [br_true hb1] at h
    cbv
    obtain rfl := Option.some.inj h
    exact ARet.mk trivial hX.symm
  | false =>
    rw [br_false hb1] at h
    cbv
    obtain ⟨x2, hx2, h⟩ := of_cl h
    obtain ⟨x2_Places, x2_Rides⟩ := x2
    try dsimp only at h
    refine ACall.mk _ _ rfl (hF _ _ _ (c_L_toBelief hg ht hx2)) (.inl rfl) (Nat.le_of_ble_eq_true rfl) ?_
    cbv
    refine AStep.mk ⟨(lend_S ht (dlen_S hg ht _)), (lend_Trip ht (dlen_Trip hg ht _))⟩ ?_
    cbv
    obtain ⟨x3, hx3, h⟩ := of_lP h
    try dsimp only at h
    refine ACall.mk _ _ (by rw [show rd (d_S x2_Places) 0 (dlen (d_S x2_Places)) = r_S x2_Places from rdw_S hg ht (dlen_S hg ht _), show rd (d_Trip x2_Rides) 0 (dlen (d_Trip x2_Rides)) = r_Trip x2_Rides from rdw_Trip hg ht (dlen_Trip hg ht _)]; try rfl) (hF _ _ _ (c_S_Doubt hg ht hx3)) (.inr rfl) (Nat.le_of_ble_eq_true rfl) ?_
    cbv
    obtain ⟨x4, hx4, h⟩ := of_cl h
    obtain ⟨x4_Places, x4_Rides⟩ := x4
    try dsimp only at h
    refine ACall.mk _ _ rfl (hF _ _ _ (c_L_toBelief hg ht hx4)) (.inl rfl) (Nat.le_of_ble_eq_true rfl) ?_
    cbv
    refine AStep.mk ⟨(lend_S ht (dlen_S hg ht _)), (lend_Trip ht (dlen_Trip hg ht _))⟩ ?_
    cbv
    obtain ⟨x5, hx5, h⟩ := of_lP h
    try dsimp only at h
    refine ACall.mk _ _ (by rw [show rd (d_S x4_Places) 0 (dlen (d_S x4_Places)) = r_S x4_Places from rdw_S hg ht (dlen_S hg ht _), show rd (d_Trip x4_Rides) 0 (dlen (d_Trip x4_Rides)) = r_Trip x4_Rides from rdw_Trip hg ht (dlen_Trip hg ht _)]; try rfl) (hF _ _ _ (c_I_Doubt hg ht hx5)) (.inr rfl) (Nat.le_of_ble_eq_true rfl) ?_
    cbv
    cases hb2 : (eq x5 x3) with
    | true =>
      rw [br_true hb2] at h
      cbv
      obtain ⟨x6, hx6, h⟩ := of_cl h
      obtain ⟨x6_Places, x6_Rides⟩ := x6
      try dsimp only at h
      refine ACall.mk _ _ rfl (hF _ _ _ (c_L_toBelief hg ht hx6)) (.inl rfl) (Nat.le_of_ble_eq_true rfl) ?_
      cbv
      refine AStep.mk ⟨⟨(lend_S ht (dlen_S hg ht _)), (lend_Trip ht (dlen_Trip hg ht _))⟩, ⟨(lend_S ht (dlen_S hg ht _)), (lend_Trip ht (dlen_Trip hg ht _))⟩⟩ ?_
      cbv
      obtain ⟨x7, hx7, h⟩ := of_cl h
      try dsimp only at h
      refine ACall.mk _ _ (by rw [show rd (d_S x4_Places) 0 (dlen (d_S x4_Places)) = r_S x4_Places from rdw_S hg ht (dlen_S hg ht _), show rd (d_Trip x4_Rides) 0 (dlen (d_Trip x4_Rides)) = r_Trip x4_Rides from rdw_Trip hg ht (dlen_Trip hg ht _), show rd (d_S x6_Places) 0 (dlen (d_S x6_Places)) = r_S x6_Places from rdw_S hg ht (dlen_S hg ht _), show rd (d_Trip x6_Rides) 0 (dlen (d_Trip x6_Rides)) = r_Trip x6_Rides from rdw_Trip hg ht (dlen_Trip hg ht _)]; try rfl) (hF _ _ _ (c_L_eqBelief hg ht hx7)) (.inr rfl) (Nat.le_of_ble_eq_true rfl) ?_
      cbv
      cases hb3 : x7 with
      | true =>
        rw [br_true hb3] at h
        cbv
        obtain rfl := Option.some.inj h
        exact ARet.mk trivial hX.symm
      | false =>
        rw [br_false hb3] at h
        cbv
        obtain rfl := Option.some.inj h
        exact ARet.mk trivial hX.symm
    | false =>
      rw [br_false hb2] at h
      cbv
      obtain rfl := Option.some.inj h
      exact ARet.mk trivial hX.symm
end Go.Vs
namespace Go.Vs
set_option maxRecDepth 100000
def ir23 : J :=
  .seq (.reg none [⟨(some 2), none, .box (.t 0)⟩,
     ⟨(some 4), none, .mv (.k (V.i 0))⟩] [1, 2])
  (.seq (.reg none [⟨(some 5), none, .fa 0 (.t 2)⟩,
     ⟨(some 6), none, .ld true 3 (.t 5)⟩,
     ⟨(some 7), none, .mv (.t 1)⟩,
     ⟨(some 8), none, .call 28 true [(.t 6), (.t 7)]⟩,
     ⟨(some 1), none, .mv (.t 8)⟩] [1, 2])
  (.seq (.seq (.reg none [⟨(some 9), none, .mv (.t 1)⟩,
      ⟨(some 10), none, .bin .lss .i (.t 9) (.k (V.i 0))⟩] [1, 2, 10])
   (.cond (.t 10)
    (.seq (.reg none [⟨(some 4), none, .mv (.k (V.i (-1)))⟩] [4])
     (.ret))
    (.skip)))
  (.seq (.reg none [⟨(some 11), none, .fa 3 (.t 2)⟩,
     ⟨(some 12), none, .ld false 1 (.t 11)⟩,
     ⟨(some 13), none, .mv (.t 1)⟩,
     ⟨(some 14), none, .call 70 true [(.t 12), (.t 13)]⟩,
     ⟨(some 1), none, .mv (.t 14)⟩] [1, 2])
  (.seq (.seq (.reg none [⟨(some 15), none, .mv (.t 1)⟩,
      ⟨(some 16), none, .bin .lss .i (.t 15) (.k (V.i 0))⟩] [1, 2, 16])
   (.cond (.t 16)
    (.seq (.reg none [⟨(some 4), none, .mv (.k (V.i (-1)))⟩] [4])
     (.ret))
    (.skip)))
  (.seq (.reg none [⟨(some 17), none, .fa 4 (.t 2)⟩,
     ⟨(some 18), none, .ld false 1 (.t 17)⟩,
     ⟨(some 19), none, .mv (.t 1)⟩,
     ⟨(some 20), none, .call 42 true [(.t 18), (.t 19)]⟩,
     ⟨(some 1), none, .mv (.t 20)⟩] [1, 2])
  (.seq (.seq (.reg none [⟨(some 21), none, .mv (.t 1)⟩,
      ⟨(some 22), none, .bin .lss .i (.t 21) (.k (V.i 0))⟩] [1, 2, 22])
   (.cond (.t 22)
    (.seq (.reg none [⟨(some 4), none, .mv (.k (V.i (-1)))⟩] [4])
     (.ret))
    (.skip)))
  (.seq (.reg none [⟨(some 23), none, .fa 5 (.t 2)⟩,
     ⟨(some 24), none, .ld false 1 (.t 23)⟩,
     ⟨(some 25), none, .mv (.t 1)⟩,
     ⟨(some 26), none, .call 43 true [(.t 24), (.t 25)]⟩,
     ⟨(some 1), none, .mv (.t 26)⟩] [1, 2])
  (.seq (.seq (.reg none [⟨(some 27), none, .mv (.t 1)⟩,
      ⟨(some 28), none, .bin .lss .i (.t 27) (.k (V.i 0))⟩] [1, 2, 28])
   (.cond (.t 28)
    (.seq (.reg none [⟨(some 4), none, .mv (.k (V.i (-1)))⟩] [4])
     (.ret))
    (.skip)))
  (.seq (.reg none [⟨(some 29), none, .fa 7 (.t 2)⟩,
     ⟨(some 30), none, .ld false 1 (.t 29)⟩,
     ⟨(some 31), none, .mv (.t 1)⟩,
     ⟨(some 32), none, .call 71 true [(.t 30), (.t 31)]⟩,
     ⟨(some 1), none, .mv (.t 32)⟩] [1, 2])
  (.seq (.seq (.reg none [⟨(some 33), none, .mv (.t 1)⟩,
      ⟨(some 34), none, .bin .lss .i (.t 33) (.k (V.i 0))⟩] [1, 2, 34])
   (.cond (.t 34)
    (.seq (.reg none [⟨(some 4), none, .mv (.k (V.i (-1)))⟩] [4])
     (.ret))
    (.skip)))
  (.seq (.reg none [⟨(some 35), none, .fa 8 (.t 2)⟩,
     ⟨(some 36), none, .ld false 1 (.t 35)⟩,
     ⟨(some 37), none, .mv (.t 1)⟩,
     ⟨(some 38), none, .call 72 true [(.t 36), (.t 37)]⟩,
     ⟨(some 1), none, .mv (.t 38)⟩] [1])
  (.seq (.seq (.reg none [⟨(some 39), none, .mv (.t 1)⟩,
      ⟨(some 40), none, .bin .lss .i (.t 39) (.k (V.i 0))⟩] [1, 40])
   (.cond (.t 40)
    (.seq (.reg none [⟨(some 4), none, .mv (.k (V.i (-1)))⟩] [4])
     (.ret))
    (.skip)))
  (.seq (.reg none [⟨(some 41), none, .mv (.t 1)⟩,
     ⟨(some 4), none, .mv (.t 41)⟩] [4])
  (.ret))))))))))))))
def rv23 : List RV := [.t 4]
open Go.Proofs Go.IntWalk
set_option linter.unusedVariables false
set_option maxRecDepth 100000
set_option maxHeartbeats 4000000
def L_szWorld (g : G) (t : TE) (a0 : World) (a1 : Int) : Int :=
  lP (L_szNetwork g t (Network.mk a0.Network.Legs a0.Network.Off a0.Network.Change) a1) fun x1 =>
  br (g.lt x1 0)
  (
   (-1))
  (
   lP (L_szOrderS g t a0.Orders x1) fun x2 =>
   br (g.lt x2 0)
   (
    (-1))
   (
    lP (L_szBookingS g t a0.Bookings x2) fun x3 =>
    br (g.lt x3 0)
    (
     (-1))
    (
     lP (L_szTripS g t a0.Closed x3) fun x4 =>
     br (g.lt x4 0)
     (
      (-1))
     (
      lP (L_szScanS g t a0.Scans x4) fun x5 =>
      br (g.lt x5 0)
      (
       (-1))
      (
       lP (L_szIntS g t a0.Skip x5) fun x6 =>
       br (g.lt x6 0)
       (
        (-1))
       (
        x6))))))
theorem fit23 : codeFit Try.prog Try.f23.ntmps (Try.f23.body.getD .skip) ir23 = true := by kernel_rfl
theorem c_L_szWorld {g : G} {t : TE} {a0 : World} {a1 : Int} {r : Int} (hg : g = G.real) (ht : t = TE.real) (h : L_szWorld g t a0 a1 = r) : Fn Try.prog 23 [.g (World.rs t a0), .c (.v (.int .i64 a1))] (.c (.r (.v (.int .i64 r)))) := by
  obtain ⟨X, hX⟩ := hide (.c (.r (.v (.int .i64 r))) : X)
  rw [← hX]
  refine fn_of (rvs := rv23) (j := ir23) Try.func23 rfl fit23 (Nat.le_of_ble_eq_true rfl) (by kernel_rfl) prog_mixed ?_
  intro g2 F hg2 hF
  obtain rfl : g2 = g := hg2.unique.trans hg.symm
  clear hg2
  obtain ⟨wrap, lt, le, eq, quo, rem, band, bor, bxor, shl, shr, nat, int, add, sub, mul, cat, seq, slt, sub3, byte, llen, nadd, nsub, dlen, dapp, dset, drep, rd, rda, up, rsub, dsub, all, sle, slen⟩ := g2
  obtain ⟨r_S, d_S, r_Trip, d_Trip, r_Leg, d_Leg, r_I64, d_I64, r_Order, d_Order, r_Booking, d_Booking, r_Scan, d_Scan, r_U8, d_U8, r_LI64, d_LI64⟩ := t
  obtain ⟨⟨a0_Network_Legs, a0_Network_Off, a0_Network_Change⟩, a0_Orders, a0_Bookings, a0_Closed, a0_Now, a0_Scans, a0_Skip, a0_Made⟩ := a0
  unfold L_szWorld at h
  try dsimp only at h
  cbv
  obtain ⟨x1, hx1, h⟩ := of_lP h
  try dsimp only at h
  refine ACall.mk _ _ rfl (hF _ _ _ (c_L_szNetwork hg ht hx1)) (.inl rfl) (Nat.le_of_ble_eq_true rfl) ?_
  cbv
  cases hb1 : (lt x1 0) with
  | true =>
    rw [br_true hb1] at h
    cbv
    subst h
    exact ARet.mk trivial hX.symm
  | false =>
    rw [br_false hb1] at h
    cbv
    obtain ⟨x2, hx2, h⟩ := of_lP h
    try dsimp only at h
    refine ACall.mk _ _ rfl (hF _ _ _ (c_L_szOrderS hg ht hx2)) (.inl rfl) (Nat.le_of_ble_eq_true rfl) ?_
    cbv
    cases hb2 : (lt x2 0) with
    | true =>
      rw [br_true hb2] at h
      cbv
      subst h
      exact ARet.mk trivial hX.symm
    | false =>
      rw [br_false hb2] at h
      cbv
      obtain ⟨x3, hx3, h⟩ := of_lP h
      try dsimp only at h
      refine ACall.mk _ _ rfl (hF _ _ _ (c_L_szBookingS hg ht hx3)) (.inl rfl) (Nat.le_of_ble_eq_true rfl) ?_
      cbv
      cases hb3 : (lt x3 0) with
      | true =>
        rw [br_true hb3] at h
        cbv
        subst h
        exact ARet.mk trivial hX.symm
      | false =>
        rw [br_false hb3] at h
        cbv
        obtain ⟨x4, hx4, h⟩ := of_lP h
        try dsimp only at h
        refine ACall.mk _ _ rfl (hF _ _ _ (c_L_szTripS hg ht hx4)) (.inl rfl) (Nat.le_of_ble_eq_true rfl) ?_
        cbv
        cases hb4 : (lt x4 0) with
        | true =>
          rw [br_true hb4] at h
          cbv
          subst h
          exact ARet.mk trivial hX.symm
        | false =>
          rw [br_false hb4] at h
          cbv
          obtain ⟨x5, hx5, h⟩ := of_lP h
          try dsimp only at h
          refine ACall.mk _ _ rfl (hF _ _ _ (c_L_szScanS hg ht hx5)) (.inl rfl) (Nat.le_of_ble_eq_true rfl) ?_
          cbv
          cases hb5 : (lt x5 0) with
          | true =>
            rw [br_true hb5] at h
            cbv
            subst h
            exact ARet.mk trivial hX.symm
          | false =>
            rw [br_false hb5] at h
            cbv
            obtain ⟨x6, hx6, h⟩ := of_lP h
            try dsimp only at h
            refine ACall.mk _ _ rfl (hF _ _ _ (c_L_szIntS hg ht hx6)) (.inl rfl) (Nat.le_of_ble_eq_true rfl) ?_
            cbv
            cases hb6 : (lt x6 0) with
            | true =>
              rw [br_true hb6] at h
              cbv
              subst h
              exact ARet.mk trivial hX.symm
            | false =>
              rw [br_false hb6] at h
              cbv
              subst h
              exact ARet.mk trivial hX.symm
end Go.Vs
namespace Go.Vs
set_option maxRecDepth 100000
def ir73 : J :=
  .seq (.reg none [⟨(some 2), none, .mv (.k (.c (.n 11)))⟩] [0])
  (.seq (.reg none [⟨(some 5), none, .mv (.t 0)⟩,
     ⟨(some 6), none, .len false (.t 5)⟩,
     ⟨(some 7), none, .mk 11 128 [.r (.v (.string .empty)), .r (.v (.string .empty)), .r (.v (.int .i64 0)), .r (.v (.int .i64 0)), .r (.v (.int .i64 0)), .r (.v (.int .i64 0)), .n 2, .r (.v (.int .i64 0)), .r (.v (.int .i64 0)), .r (.v (.string .empty)), .r (.v (.int .i64 0))] (.t 6)⟩,
     ⟨(some 3), none, .mv (.t 7)⟩] [0, 3])
  (.seq (.seq (.reg none [⟨(some 4), none, .mv (.k (V.i 0))⟩] [0, 3, 4])
   (.bl 0 (.seq (.seq (.reg none [⟨(some 8), none, .mv (.t 4)⟩,
        ⟨(some 9), none, .mv (.t 0)⟩,
        ⟨(some 10), none, .len false (.t 9)⟩,
        ⟨(some 11), none, .bin .lss .i (.t 8) (.t 10)⟩] [0, 3, 4, 11])
     (.cond (.t 11)
      (.skip)
      (.exit 0)))
    (.seq (.block 1 (.reg none [⟨(some 14), none, .mv (.t 3)⟩,
        ⟨(some 15), none, .mv (.t 4)⟩,
        ⟨(some 16), none, .mv (.t 0)⟩,
        ⟨(some 17), none, .mv (.t 4)⟩,
        ⟨(some 18), none, .ia 11 (.t 16) (.t 17)⟩,
        ⟨(some 19), none, .ld true 11 (.t 18)⟩,
        ⟨(some 20), none, .call 121 true [(.t 19)]⟩,
        ⟨(some 21), none, .ia 11 (.t 14) (.t 15)⟩,
        ⟨none, none, .st 11 (.t 21) (.t 20)⟩] [0, 3, 4]))
    (.reg none [⟨(some 12), none, .mv (.t 4)⟩,
      ⟨(some 13), none, .bin .add .i (.t 12) (.k (V.i 1))⟩,
      ⟨(some 4), none, .mv (.t 13)⟩] [0, 3, 4])))))
  (.seq (.reg none [⟨(some 22), none, .mv (.t 3)⟩,
     ⟨(some 2), none, .mv (.t 22)⟩] [2])
  (.ret))))
def rv73 : List RV := [.t 2]
open Go.Proofs Go.IntWalk
set_option linter.unusedVariables false
set_option maxRecDepth 100000
set_option maxHeartbeats 4000000
def L_toOrderS_l1 (g : G) (t : TE) : List Order → Int → List Order → Option (List Order)
  | [], v1, w1 =>
    some w1
  | z1 :: ls1, v1, w1 =>
    cl (L_toOrder g t z1) fun x1 =>
    gd ((0 ≤ v1 ∧ v1 < (((g.dlen (t.d_Order w1)) : Nat) : Int))) <|
    gt w1 (g.nat v1) fun x2 =>
    lP (List.set w1 (g.nat v1) (Order.mk x1.From x1.To x1.Service x1.Weight x1.At x1.Due x1.Way x1.Gone x1.State x1.Place x1.Ended)) fun (l2 : List Order) =>
    L_toOrderS_l1 g t ls1 (g.wrap .i64 (g.add v1 1)) l2
def L_toOrderS (g : G) (t : TE) (a0 : List Order) : Option (List Order) :=
  gd ((0 ≤ (g.llen (t.r_Order a0)) ∧ 128 * (g.llen (t.r_Order a0)) ≤ 70368744177664 ∧ (g.llen (t.r_Order a0)) ≤ 4611686018427387904)) <|
  lP (List.replicate (g.nat (g.llen (t.r_Order a0))) (Order.mk ByteArray.empty ByteArray.empty 0 0 0 0 [] 0 0 ByteArray.empty 0)) fun (l1 : List Order) =>
  cl (L_toOrderS_l1 g t a0 0 l1) fun y1 =>
  some y1
theorem fit73 : codeFit Try.prog Try.f73.ntmps (Try.f73.body.getD .skip) ir73 = true := by kernel_rfl
theorem c_L_toOrderS {g : G} {t : TE} {a0 : List Order} {r : List Order} (hg : g = G.real) (ht : t = TE.real) (h : L_toOrderS g t a0 = some r) : Fn Try.prog 73 [.c (.s 11 (t.r_Order a0))] (.c (.o 11 (t.d_Order r))) := by
  obtain ⟨X, hX⟩ := hide (.c (.o 11 (t.d_Order r)) : X)
  rw [← hX]
  refine fn_of (rvs := rv73) (j := ir73) Try.func73 rfl fit73 (Nat.le_of_ble_eq_true rfl) (by kernel_rfl) prog_mixed ?_
  intro g2 F hg2 hF
  obtain rfl : g2 = g := hg2.unique.trans hg.symm
  clear hg2
  obtain ⟨wrap, lt, le, eq, quo, rem, band, bor, bxor, shl, shr, nat, int, add, sub, mul, cat, seq, slt, sub3, byte, llen, nadd, nsub, dlen, dapp, dset, drep, rd, rda, up, rsub, dsub, all, sle, slen⟩ := g2
  obtain ⟨r_S, d_S, r_Trip, d_Trip, r_Leg, d_Leg, r_I64, d_I64, r_Order, d_Order, r_Booking, d_Booking, r_Scan, d_Scan, r_U8, d_U8, r_LI64, d_LI64⟩ := t
  have hnil_S : d_S [] = [] := d_nil_S ht
  have hnil_Trip : d_Trip [] = [] := d_nil_Trip ht
  have hnil_Leg : d_Leg [] = [] := d_nil_Leg ht
  have hnil_I64 : d_I64 [] = [] := d_nil_I64 ht
  have hnil_Order : d_Order [] = [] := d_nil_Order ht
  have hnil_Booking : d_Booking [] = [] := d_nil_Booking ht
  have hnil_Scan : d_Scan [] = [] := d_nil_Scan ht
  have hnil_U8 : d_U8 [] = [] := d_nil_U8 ht
  have hnil_LI64 : d_LI64 [] = [] := d_nil_LI64 ht
  unfold L_toOrderS at h
  try dsimp only at h
  cbv
  obtain ⟨hc2, h⟩ := of_gd h
  refine AStep.mk (mk_ok hc2) ?_
  cbv
  obtain ⟨l1, hl1, h⟩ := of_lP h
  try dsimp only at h
  refine ANew.mk (d_Order l1) (dlen (d_Order l1)) (by rw [← hl1]; have e := drep_Order hg ht (llen (r_Order a0)) (Order.mk ByteArray.empty ByteArray.empty 0 0 0 0 [] 0 0 ByteArray.empty 0); dsimp only [Order.ds] at e; (try simp only [hnil_S, hnil_Trip, hnil_Leg, hnil_I64, hnil_Order, hnil_Booking, hnil_Scan, hnil_U8, hnil_LI64] at e); exact e) (by rw [← hl1]; exact drepn_Order hg ht _ (Order.mk ByteArray.empty ByteArray.empty 0 0 0 0 [] 0 0 ByteArray.empty 0)) ?_
  cbv
  obtain ⟨o1, ho1, h⟩ := of_cl h
  try dsimp only at h
  try rw [hg] at ho1
  try rw [ht] at ho1
  refine ABL.mk { p : Nat × Int × List Order // p.1 ≤ a0.length ∧ p.2.1 = ((p.1 : Nat) : Int) ∧ L_toOrderS_l1 G.real TE.real (List.drop p.1 a0) p.2.1 p.2.2 = some o1 } (fun ⟨⟨k1, v1, w1⟩, _⟩ => ({ sl := [(0, .c (.r (.s 11 (r_Order a0)))), (3, .c (.f 0 11 0 (dlen (d_Order w1)))), (4, .c (.r (.v (.int .i64 v1))))], tab := [(0, some (.arr 11 (d_Order w1)))] } : St)) 1 (fun p => a0.length - p.1.1) ⟨(0, 0, l1), Nat.zero_le _, rfl, ho1⟩ (List Order) (fun y1 => ({ sl := [(3, .c (.f 0 11 0 (dlen (d_Order y1))))], tab := [(0, some (.arr 11 (d_Order y1)))] } : St)) 1 (fun y => o1 = y) ?_ ?_ ?_
  · refine Wk.of [(0, some 48)] rfl rfl ?_ ?_
    · cbv
      all_goals exact ⟨⟨_, rfl, rfl⟩, ⟨_, rfl, rfl⟩, ⟨_, rfl, rfl⟩, trivial⟩
    · cbv
      all_goals exact ⟨⟨_, rfl, rfl⟩, trivial⟩
  · rintro ⟨⟨k1, v1, w1⟩, hk1, hi1, h_1⟩ hq1
    have hm1 := (hq1.1 0 _ _ rfl)
    try dsimp only at hk1 hi1 h_1
    clear hq1
    cbv
    by_cases hc1_ : k1 < a0.length
    · have hb1 : lt v1 (llen (r_Order a0)) = true := ltL_true_Order hg ht hi1 hc1_
      have hs1 := stepL_Order hg ht hi1 hc1_ hm1
      obtain ⟨z1, hz1⟩ := some_of_lt hc1_
      rw [drop_of_some hz1] at h_1
      rw [L_toOrderS_l1] at h_1
      obtain ⟨z1_From, z1_To, z1_Service, z1_Weight, z1_At, z1_Due, z1_Way, z1_Gone, z1_State, z1_Place, z1_Ended⟩ := z1
      try rw [← hg] at h_1
      try rw [← ht] at h_1
      try dsimp only at h_1
      rw [hb1]
      cbv
      refine AStep.mk (nn_L hi1) ?_
      cbv
      refine AGet.mk _ (r_getL_Order hg ht hi1 hz1) ?_
      cbv
      obtain ⟨x1, hx1, h_1⟩ := of_cl h_1
      obtain ⟨x1_From, x1_To, x1_Service, x1_Weight, x1_At, x1_Due, x1_Way, x1_Gone, x1_State, x1_Place, x1_Ended⟩ := x1
      try dsimp only at h_1
      refine ACall.mk _ _ rfl (hF _ _ _ (c_L_toOrder hg ht hx1)) (.inl rfl) (Nat.le_of_ble_eq_true rfl) ?_
      cbv
      obtain ⟨hc1, h_1⟩ := of_gd h_1
      refine AStep.mk hc1 ?_
      cbv
      refine AStep.mk ⟨rfl, (dlen_Trip hg ht _)⟩ ?_
      cbv
      obtain ⟨x2, hx2, h_1⟩ := of_gt h_1
      obtain ⟨x2_From, x2_To, x2_Service, x2_Weight, x2_At, x2_Due, x2_Way, x2_Gone, x2_State, x2_Place, x2_Ended⟩ := x2
      try dsimp only at h_1
      refine AGet.mk _ (d_get_Order hg ht hx2) ?_
      cbv
      obtain ⟨l2, hl2, h_1⟩ := of_lP h_1
      try dsimp only at h_1
      refine ANew.mk (d_Order l2) _ (by rw [← hl2]; exact dset_Order hg ht _ _ (Order.mk x1_From x1_To x1_Service x1_Weight x1_At x1_Due x1_Way x1_Gone x1_State x1_Place x1_Ended)) rfl ?_
      have hnl2 : (dlen (d_Order w1)) = (d_Order l2).length := (by rw [← hl2, dsetl_Order ht]; exact (dlen_Order hg ht _))
      cbv
      try rw [hg] at h_1
      try rw [ht] at h_1
      refine ⟨⟨(k1 + 1, (wrap .i64 (add v1 1)), l2), hc1_, hs1, h_1⟩, Wk.of [(0, some 0)] rfl rfl ?_ ?_, meas_L hc1_⟩
      · cbv
        all_goals try rw [show (dlen (d_Order w1)) = (dlen (d_Order l2)) from (hnl2).trans (dlen_Order hg ht _).symm]
        all_goals exact ⟨⟨_, rfl, rfl⟩, ⟨_, rfl, rfl⟩, ⟨_, rfl, rfl⟩, trivial⟩
      · cbv
        all_goals try rw [show (dlen (d_Order w1)) = (dlen (d_Order l2)) from (hnl2).trans (dlen_Order hg ht _).symm]
        all_goals exact ⟨⟨_, rfl, rfl⟩, trivial⟩
    · have hb1 : lt v1 (llen (r_Order a0)) = false := ltL_false_Order hg ht hi1 hc1_
      rw [List.drop_of_length_le (Nat.le_of_not_lt hc1_)] at h_1
      rw [L_toOrderS_l1] at h_1
      try rw [← hg] at h_1
      try rw [← ht] at h_1
      try dsimp only at h_1
      rw [hb1]
      cbv
      refine ⟨w1, Wk.of [(0, some 0)] rfl rfl ?_ ?_, (Option.some.inj h_1).symm⟩
      · cbv
        all_goals exact ⟨⟨_, rfl, rfl⟩, trivial⟩
      · cbv
        all_goals exact ⟨⟨_, rfl, rfl⟩, trivial⟩
  · rintro y1 hy1
    replace hy1 := hy1.symm
    subst hy1
    try dsimp only [lr, lrL, lrp, lrpL] at h
    cbv
    obtain rfl := Option.some.inj h
    exact ARet.mk ⟨rfl, (dlen_Order hg ht _)⟩ hX.symm
end Go.Vs
namespace Go.Vs
set_option maxRecDepth 100000
def ir76 : J :=
  .seq (.reg none [⟨(some 4), none, .mv (.k (V.b false))⟩] [0, 1])
  (.seq (.seq (.reg none [⟨(some 6), none, .mv (.t 0)⟩,
      ⟨(some 7), none, .len false (.t 6)⟩,
      ⟨(some 8), none, .mv (.t 1)⟩,
      ⟨(some 9), none, .len false (.t 8)⟩,
      ⟨(some 10), none, .bin .neq .i (.t 7) (.t 9)⟩] [0, 1, 10])
   (.cond (.t 10)
    (.seq (.reg none [⟨(some 4), none, .mv (.k (V.b false))⟩] [4])
     (.ret))
    (.skip)))
  (.seq (.seq (.reg none [⟨(some 5), none, .mv (.k (V.i 0))⟩] [0, 1, 5])
   (.bl 0 (.seq (.seq (.reg none [⟨(some 11), none, .mv (.t 5)⟩,
        ⟨(some 12), none, .mv (.t 0)⟩,
        ⟨(some 13), none, .len false (.t 12)⟩,
        ⟨(some 14), none, .bin .lss .i (.t 11) (.t 13)⟩] [0, 1, 5, 14])
     (.cond (.t 14)
      (.skip)
      (.exit 0)))
    (.seq (.block 1 (.seq (.reg (some [[], [], [0, 1], [0, 1, 2], [], [], [4, 5], [4, 5, 6], [0, 1, 2, 3, 4, 5, 6, 7], [0, 1, 2, 3, 4, 5, 6, 7, 8]]) [⟨(some 17), none, .mv (.t 0)⟩,
         ⟨(some 18), none, .mv (.t 5)⟩,
         ⟨(some 19), none, .ia 11 (.t 17) (.t 18)⟩,
         ⟨(some 20), none, .ld true 11 (.t 19)⟩,
         ⟨(some 21), none, .mv (.t 1)⟩,
         ⟨(some 22), none, .mv (.t 5)⟩,
         ⟨(some 23), none, .ia 11 (.t 21) (.t 22)⟩,
         ⟨(some 24), none, .ld true 11 (.t 23)⟩,
         ⟨(some 25), none, .call 122 true [(.t 20), (.t 24)]⟩,
         ⟨(some 26), none, .not (.t 25)⟩] [0, 1, 5, 26])
      (.cond (.t 26)
       (.seq (.reg none [⟨(some 4), none, .mv (.k (V.b false))⟩] [4])
        (.ret))
       (.skip))))
    (.reg none [⟨(some 15), none, .mv (.t 5)⟩,
      ⟨(some 16), none, .bin .add .i (.t 15) (.k (V.i 1))⟩,
      ⟨(some 5), none, .mv (.t 16)⟩] [0, 1, 5])))))
  (.seq (.reg none [⟨(some 4), none, .mv (.k (V.b true))⟩] [4])
  (.ret))))
def rv76 : List RV := [.t 4]
open Go.Proofs Go.IntWalk
set_option linter.unusedVariables false
set_option maxRecDepth 100000
set_option maxHeartbeats 4000000
def L_eqOrderS_l1 (g : G) (t : TE) (a1 : List Order) : List Order → Int → Option (LR Bool Unit)
  | [], v1 =>
    some (LR.out ())
  | z1 :: ls1, v1 =>
    gt a1 (g.nat v1) fun x1 =>
    cl (L_eqOrder g t z1 x1) fun x2 =>
    br x2
    (
     L_eqOrderS_l1 g t a1 ls1 (g.wrap .i64 (g.add v1 1)))
    (
     some (LR.ret false))
def L_eqOrderS (g : G) (t : TE) (a0 : List Order) (a1 : List Order) : Option Bool :=
  br (g.eq (g.llen (t.r_Order a0)) (g.llen (t.r_Order a1)))
  (
   cl (L_eqOrderS_l1 g t a1 a0 0) fun o1 => lr o1 fun y1 =>
   some true)
  (
   some false)
theorem fit76 : codeFit Try.prog Try.f76.ntmps (Try.f76.body.getD .skip) ir76 = true := by kernel_rfl
theorem c_L_eqOrderS {g : G} {t : TE} {a0 : List Order} {a1 : List Order} {r : Bool} (hg : g = G.real) (ht : t = TE.real) (h : L_eqOrderS g t a0 a1 = some r) : Fn Try.prog 76 [.c (.s 11 (t.r_Order a0)), .c (.s 11 (t.r_Order a1))] (.c (.r (.v (.bool r)))) := by
  obtain ⟨X, hX⟩ := hide (.c (.r (.v (.bool r))) : X)
  rw [← hX]
  refine fn_of (rvs := rv76) (j := ir76) Try.func76 rfl fit76 (Nat.le_of_ble_eq_true rfl) (by kernel_rfl) prog_mixed ?_
  intro g2 F hg2 hF
  obtain rfl : g2 = g := hg2.unique.trans hg.symm
  clear hg2
  obtain ⟨wrap, lt, le, eq, quo, rem, band, bor, bxor, shl, shr, nat, int, add, sub, mul, cat, seq, slt, sub3, byte, llen, nadd, nsub, dlen, dapp, dset, drep, rd, rda, up, rsub, dsub, all, sle, slen⟩ := g2
  obtain ⟨r_S, d_S, r_Trip, d_Trip, r_Leg, d_Leg, r_I64, d_I64, r_Order, d_Order, r_Booking, d_Booking, r_Scan, d_Scan, r_U8, d_U8, r_LI64, d_LI64⟩ := t
  unfold L_eqOrderS at h
  try dsimp only at h
  cbv
  cases hb1 : (eq (llen (r_Order a0)) (llen (r_Order a1))) with
  | true =>
    rw [br_true hb1] at h
    cbv
    obtain ⟨o1, ho1, h⟩ := of_cl h
    try dsimp only at h
    try rw [hg] at ho1
    try rw [ht] at ho1
    refine ABL.mk { p : Nat × Int // p.1 ≤ a0.length ∧ p.2 = ((p.1 : Nat) : Int) ∧ L_eqOrderS_l1 G.real TE.real a1 (List.drop p.1 a0) p.2 = some o1 } (fun ⟨⟨k1, v1⟩, _⟩ => ({ sl := [(0, .c (.r (.s 11 (r_Order a0)))), (1, .c (.r (.s 11 (r_Order a1)))), (5, .c (.r (.v (.int .i64 v1))))], tab := [] } : St)) 0 (fun p => a0.length - p.1.1) ⟨(0, 0), Nat.zero_le _, rfl, ho1⟩ (Unit) (fun _ => ({ sl := [], tab := [] } : St)) 0 (fun y => o1 = LR.out y) ?_ ?_ ?_
    · refine Wk.of [] rfl rfl ?_ ?_
      · cbv
        all_goals exact ⟨⟨_, rfl, rfl⟩, ⟨_, rfl, rfl⟩, ⟨_, rfl, rfl⟩, trivial⟩
      · cbv
        all_goals exact trivial
    · rintro ⟨⟨k1, v1⟩, hk1, hi1, h_1⟩ hq1
      have hm1 := (hq1.1 0 _ _ rfl)
      try dsimp only at hk1 hi1 h_1
      clear hq1
      cbv
      by_cases hc1_ : k1 < a0.length
      · have hb2 : lt v1 (llen (r_Order a0)) = true := ltL_true_Order hg ht hi1 hc1_
        have hs1 := stepL_Order hg ht hi1 hc1_ hm1
        obtain ⟨z1, hz1⟩ := some_of_lt hc1_
        rw [drop_of_some hz1] at h_1
        rw [L_eqOrderS_l1] at h_1
        obtain ⟨z1_From, z1_To, z1_Service, z1_Weight, z1_At, z1_Due, z1_Way, z1_Gone, z1_State, z1_Place, z1_Ended⟩ := z1
        try rw [← hg] at h_1
        try rw [← ht] at h_1
        try dsimp only at h_1
        rw [hb2]
        cbv
        refine AStep.mk (nn_L hi1) ?_
        cbv
        refine AGet.mk _ (r_getL_Order hg ht hi1 hz1) ?_
        cbv
        refine AStep.mk (nn_L hi1) ?_
        cbv
        obtain ⟨x1, hx1, h_1⟩ := of_gt h_1
        obtain ⟨x1_From, x1_To, x1_Service, x1_Weight, x1_At, x1_Due, x1_Way, x1_Gone, x1_State, x1_Place, x1_Ended⟩ := x1
        try dsimp only at h_1
        refine AGet.mk _ (r_get_Order hg ht hx1) ?_
        cbv
        obtain ⟨x2, hx2, h_1⟩ := of_cl h_1
        try dsimp only at h_1
        refine ACall.mk _ _ rfl (hF _ _ _ (c_L_eqOrder hg ht hx2)) (.inl rfl) (Nat.le_of_ble_eq_true rfl) ?_
        cbv
        cases hb3 : x2 with
        | true =>
          rw [br_true hb3] at h_1
          cbv
          try rw [hg] at h_1
          try rw [ht] at h_1
          refine ⟨⟨(k1 + 1, (wrap .i64 (add v1 1))), hc1_, hs1, h_1⟩, Wk.of [] rfl rfl ?_ ?_, meas_L hc1_⟩
          · cbv
            all_goals exact ⟨⟨_, rfl, rfl⟩, ⟨_, rfl, rfl⟩, ⟨_, rfl, rfl⟩, trivial⟩
          · cbv
            all_goals exact trivial
        | false =>
          rw [br_false hb3] at h_1
          cbv
          obtain rfl := Option.some.inj h_1
          try dsimp only [lr, lrL, lrp, lrpL] at h
          obtain rfl := Option.some.inj h
          exact ARet.mk trivial hX.symm
      · have hb2 : lt v1 (llen (r_Order a0)) = false := ltL_false_Order hg ht hi1 hc1_
        rw [List.drop_of_length_le (Nat.le_of_not_lt hc1_)] at h_1
        rw [L_eqOrderS_l1] at h_1
        try rw [← hg] at h_1
        try rw [← ht] at h_1
        try dsimp only at h_1
        rw [hb2]
        cbv
        refine ⟨(), Wk.of [] rfl rfl ?_ ?_, (Option.some.inj h_1).symm⟩
        · cbv
          all_goals exact trivial
        · cbv
          all_goals exact trivial
    · rintro _ hy1
      replace hy1 := hy1.symm
      subst hy1
      try dsimp only [lr, lrL, lrp, lrpL] at h
      cbv
      obtain rfl := Option.some.inj h
      exact ARet.mk trivial hX.symm
  | false =>
    rw [br_false hb1] at h
    cbv
    obtain rfl := Option.some.inj h
    exact ARet.mk trivial hX.symm
end Go.Vs
namespace Go.Vs
set_option maxRecDepth 100000
def ir79 : J :=
  .seq (.reg none [⟨(some 1), none, .box (.t 0)⟩,
     ⟨(some 2), none, .mv (.k (V.b false))⟩] [1])
  (.seq (.seq (.reg none [⟨(some 3), none, .mv (.k (V.i 0))⟩] [1, 3])
   (.bl 0 (.seq (.seq (.reg none [⟨(some 5), none, .mv (.t 3)⟩,
        ⟨(some 6), none, .fa 0 (.t 1)⟩,
        ⟨(some 7), none, .ld false 1 (.t 6)⟩,
        ⟨(some 8), none, .len false (.t 7)⟩,
        ⟨(some 9), none, .bin .lss .i (.t 5) (.t 8)⟩] [1, 3, 9])
     (.cond (.t 9)
      (.skip)
      (.exit 0)))
    (.seq (.block 1 (.seq (.reg none [⟨(some 12), none, .fa 0 (.t 1)⟩,
         ⟨(some 13), none, .ld false 1 (.t 12)⟩,
         ⟨(some 14), none, .mv (.t 3)⟩,
         ⟨(some 15), none, .ia 6 (.t 13) (.t 14)⟩,
         ⟨(some 16), none, .ld true 6 (.t 15)⟩,
         ⟨(some 17), none, .call 125 true [(.t 16)]⟩,
         ⟨(some 18), none, .not (.t 17)⟩] [1, 3, 18])
      (.cond (.t 18)
       (.seq (.reg none [⟨(some 2), none, .mv (.k (V.b false))⟩] [2])
        (.ret))
       (.skip))))
    (.reg none [⟨(some 10), none, .mv (.t 3)⟩,
      ⟨(some 11), none, .bin .add .i (.t 10) (.k (V.i 1))⟩,
      ⟨(some 3), none, .mv (.t 11)⟩] [1, 3])))))
  (.seq (.seq (.reg none [⟨(some 4), none, .mv (.k (V.i 0))⟩] [1, 4])
   (.bl 2 (.seq (.seq (.reg none [⟨(some 19), none, .mv (.t 4)⟩,
        ⟨(some 20), none, .fa 1 (.t 1)⟩,
        ⟨(some 21), none, .ld false 1 (.t 20)⟩,
        ⟨(some 22), none, .len false (.t 21)⟩,
        ⟨(some 23), none, .bin .lss .i (.t 19) (.t 22)⟩] [1, 4, 23])
     (.cond (.t 23)
      (.skip)
      (.exit 2)))
    (.seq (.block 3 (.seq (.reg (some [[], [0], [], [0, 1, 2], [0, 1, 2, 3], [0, 1, 2, 3, 4], [0, 1, 2, 3, 4, 5], [0, 1, 2, 3, 4, 5, 6], [0, 1, 2, 3, 4, 5, 6, 7], [0, 1, 2, 3, 4, 5, 6, 7, 8], [0, 1, 2, 3, 4, 5, 6, 7, 8, 9], [0, 1, 2, 3, 4, 5, 6, 7, 8, 9, 10], [0, 1, 2, 3, 4, 5, 6, 7, 8, 9, 10, 11], [0, 1, 2, 3, 4, 5, 6, 7, 8, 9, 10], [0, 1, 2, 3, 4, 5, 6, 7, 8, 9, 10, 13], [0, 1, 2, 3, 4, 5, 6, 7, 8, 9, 10, 11, 12, 13, 14], [0, 1, 2, 3, 4, 5, 6, 7, 8, 9, 10, 11, 12, 13, 14, 15], [0, 1, 2, 3, 4, 5, 6, 7, 8, 9, 10], [0, 1, 2, 3, 4, 5, 6, 7, 8, 9, 10, 17], [0, 1, 2, 3, 4, 5, 6, 7, 8, 9, 10], [0, 1, 2, 3, 4, 5, 6, 7, 8, 9, 10, 17, 18, 19], [0, 1, 2, 3, 4, 5, 6, 7, 8, 9, 10, 17, 18, 19, 20], [0, 1, 2, 3, 4, 5, 6, 7, 8, 9, 10, 11, 12, 13, 14, 15, 16, 17, 18, 19, 20, 21], [0, 1, 2, 3, 4, 5, 6, 7, 8, 9, 10, 11, 12, 13, 14, 15, 16, 17, 18, 19, 20, 21, 22], [0, 1, 2, 3, 4, 5, 6, 7, 8, 9, 10, 11, 12, 13, 14, 15, 16, 17, 18, 19, 20, 21, 22, 23]]) [⟨(some 26), none, .fa 1 (.t 1)⟩,
         ⟨(some 27), none, .ld false 1 (.t 26)⟩,
         ⟨(some 28), none, .mv (.t 4)⟩,
         ⟨(some 29), none, .ia 1 (.t 27) (.t 28)⟩,
         ⟨(some 30), none, .ld false 1 (.t 29)⟩,
         ⟨(some 31), none, .call 80 true [(.t 30), (.k (V.i 0)), (.k (V.i 60))]⟩,
         ⟨(some 32), none, .not (.t 31)⟩,
         ⟨(some 33), none, .mv (.t 32)⟩,
         ⟨(some 34), (some (33, false)), .mv (.t 4)⟩,
         ⟨(some 35), (some (33, false)), .bin .gtr .i (.t 34) (.k (V.i 0))⟩,
         ⟨(some 36), (some (33, false)), .mv (.t 35)⟩,
         ⟨(some 37), (some (36, true)), .fa 1 (.t 1)⟩,
         ⟨(some 38), (some (36, true)), .ld false 1 (.t 37)⟩,
         ⟨(some 39), (some (36, true)), .mv (.t 4)⟩,
         ⟨(some 40), (some (36, true)), .bin .sub .i (.t 39) (.k (V.i 1))⟩,
         ⟨(some 41), (some (36, true)), .ia 1 (.t 38) (.t 40)⟩,
         ⟨(some 42), (some (36, true)), .ld false 1 (.t 41)⟩,
         ⟨(some 43), (some (36, true)), .fa 1 (.t 1)⟩,
         ⟨(some 44), (some (36, true)), .ld false 1 (.t 43)⟩,
         ⟨(some 45), (some (36, true)), .mv (.t 4)⟩,
         ⟨(some 46), (some (36, true)), .ia 1 (.t 44) (.t 45)⟩,
         ⟨(some 47), (some (36, true)), .ld false 1 (.t 46)⟩,
         ⟨(some 48), (some (36, true)), .bin .geq .i (.t 42) (.t 47)⟩,
         ⟨(some 49), (some (33, false)), .pick (.t 36) (.t 48) (.k (V.b false))⟩,
         ⟨(some 50), none, .pick (.t 33) (.k (V.b true)) (.t 49)⟩] [1, 4, 50])
      (.cond (.t 50)
       (.seq (.reg none [⟨(some 2), none, .mv (.k (V.b false))⟩] [2])
        (.ret))
       (.skip))))
    (.reg none [⟨(some 24), none, .mv (.t 4)⟩,
      ⟨(some 25), none, .bin .add .i (.t 24) (.k (V.i 1))⟩,
      ⟨(some 4), none, .mv (.t 25)⟩] [1, 4])))))
  (.seq (.reg none [⟨(some 51), none, .fa 0 (.t 1)⟩,
     ⟨(some 52), none, .ld false 1 (.t 51)⟩,
     ⟨(some 53), none, .len false (.t 52)⟩,
     ⟨(some 54), none, .bin .leq .i (.t 53) (.k (V.i 20))⟩,
     ⟨(some 55), none, .mv (.t 54)⟩,
     ⟨(some 56), (some (55, true)), .fa 1 (.t 1)⟩,
     ⟨(some 57), (some (55, true)), .ld false 1 (.t 56)⟩,
     ⟨(some 58), (some (55, true)), .len false (.t 57)⟩,
     ⟨(some 59), (some (55, true)), .bin .leq .i (.t 58) (.k (V.i 10))⟩,
     ⟨(some 60), none, .pick (.t 55) (.t 59) (.k (V.b false))⟩,
     ⟨(some 61), none, .mv (.t 60)⟩,
     ⟨(some 62), (some (61, true)), .fa 2 (.t 1)⟩,
     ⟨(some 63), (some (61, true)), .ld false 1 (.t 62)⟩,
     ⟨(some 64), (some (61, true)), .call 80 true [(.t 63), (.k (V.i 0)), (.k (V.i 240))]⟩,
     ⟨(some 65), none, .pick (.t 61) (.t 64) (.k (V.b false))⟩,
     ⟨(some 2), none, .mv (.t 65)⟩] [2])
  (.ret))))
def rv79 : List RV := [.t 2]
open Go.Proofs Go.IntWalk
set_option linter.unusedVariables false
set_option maxRecDepth 100000
set_option maxHeartbeats 4000000
def S_IsNetwork_l2 (g : G) (t : TE) (a0 : Network) : List Int → Int → Option (LR Bool Unit)
  | [], v2 =>
    some (LR.out ())
  | z2 :: ls2, v2 =>
    lP (S_l1In g t z2 0 60) fun x2 =>
    br x2
    (
     br (g.lt 0 v2)
     (
      gd ((0 ≤ (g.wrap .i64 (g.sub v2 1)))) <|
      gt a0.Off (g.nat (g.wrap .i64 (g.sub v2 1))) fun x3 =>
      br (g.le z2 x3)
      (
       some (LR.ret false))
      (
       S_IsNetwork_l2 g t a0 ls2 (g.wrap .i64 (g.add v2 1))))
     (
      S_IsNetwork_l2 g t a0 ls2 (g.wrap .i64 (g.add v2 1))))
    (
     some (LR.ret false))
def S_IsNetwork_l1 (g : G) (t : TE) : List Leg → Option (LR Bool Unit)
  | [] =>
    some (LR.out ())
  | z1 :: ls1 =>
    cl (S_IsLeg g t z1) fun x1 =>
    br x1
    (
     S_IsNetwork_l1 g t ls1)
    (
     some (LR.ret false))
def S_IsNetwork (g : G) (t : TE) (a0 : Network) : Option Bool :=
  cl (S_IsNetwork_l1 g t a0.Legs) fun o1 => lr o1 fun y1 =>
  cl (S_IsNetwork_l2 g t a0 a0.Off 0) fun o2 => lr o2 fun y2 =>
  br (g.le (g.llen (t.r_Leg a0.Legs)) 20)
  (
   br (g.le (g.llen (t.r_I64 a0.Off)) 10)
   (
    lP (S_l1In g t a0.Change 0 240) fun x4 =>
    some x4)
   (
    some false))
  (
   some false)
theorem fit79 : codeFit Try.prog Try.f79.ntmps (Try.f79.body.getD .skip) ir79 = true := by kernel_rfl
theorem c_S_IsNetwork {g : G} {t : TE} {a0 : Network} {r : Bool} (hg : g = G.real) (ht : t = TE.real) (h : S_IsNetwork g t a0 = some r) : Fn Try.prog 79 [.g (Network.rs t a0)] (.c (.r (.v (.bool r)))) := by
  obtain ⟨X, hX⟩ := hide (.c (.r (.v (.bool r))) : X)
  rw [← hX]
  refine fn_of (rvs := rv79) (j := ir79) Try.func79 rfl fit79 (Nat.le_of_ble_eq_true rfl) (by kernel_rfl) prog_mixed ?_
  intro g2 F hg2 hF
  obtain rfl : g2 = g := hg2.unique.trans hg.symm
  clear hg2
  obtain ⟨wrap, lt, le, eq, quo, rem, band, bor, bxor, shl, shr, nat, int, add, sub, mul, cat, seq, slt, sub3, byte, llen, nadd, nsub, dlen, dapp, dset, drep, rd, rda, up, rsub, dsub, all, sle, slen⟩ := g2
  obtain ⟨r_S, d_S, r_Trip, d_Trip, r_Leg, d_Leg, r_I64, d_I64, r_Order, d_Order, r_Booking, d_Booking, r_Scan, d_Scan, r_U8, d_U8, r_LI64, d_LI64⟩ := t
  obtain ⟨a0_Legs, a0_Off, a0_Change⟩ := a0
  unfold S_IsNetwork at h
  try dsimp only at h
  cbv
  obtain ⟨o1, ho1, h⟩ := of_cl h
  try dsimp only at h
  try rw [hg] at ho1
  try rw [ht] at ho1
  refine ABL.mk { p : Nat × Int // p.1 ≤ a0_Legs.length ∧ p.2 = ((p.1 : Nat) : Int) ∧ S_IsNetwork_l1 G.real TE.real (List.drop p.1 a0_Legs) = some o1 } (fun ⟨⟨k1, v1⟩, _⟩ => ({ sl := [(1, .c (.p 0 3 0 0)), (3, .c (.r (.v (.int .i64 v1))))], tab := [(0, some (.foc 3 [] [.r (.s 6 (r_Leg a0_Legs)), .r (.s 1 (r_I64 a0_Off)), .r (.v (.int .i64 a0_Change))] []))] } : St)) 1 (fun p => a0_Legs.length - p.1.1) ⟨(0, 0), Nat.zero_le _, rfl, ho1⟩ (Unit) (fun _ => ({ sl := [(1, .c (.p 0 3 0 0))], tab := [(0, some (.foc 3 [] [.r (.s 6 (r_Leg a0_Legs)), .r (.s 1 (r_I64 a0_Off)), .r (.v (.int .i64 a0_Change))] []))] } : St)) 1 (fun y => o1 = LR.out y) ?_ ?_ ?_
  · refine Wk.of [(0, some 0)] rfl rfl ?_ ?_
    · cbv
      all_goals exact ⟨⟨_, rfl, rfl⟩, ⟨_, rfl, rfl⟩, trivial⟩
    · cbv
      all_goals exact ⟨⟨_, rfl, _, rfl, rfl, rfl, rfl, trivial⟩, trivial⟩
  · rintro ⟨⟨k1, v1⟩, hk1, hi1, h_1⟩ hq1
    have hm1 := (hq1.2.2.1 0 _ _ _ _ 0 _ _ rfl rfl)
    try dsimp only at hk1 hi1 h_1
    clear hq1
    cbv
    by_cases hc1_ : k1 < a0_Legs.length
    · have hb1 : lt v1 (llen (r_Leg a0_Legs)) = true := ltL_true_Leg hg ht hi1 hc1_
      have hs1 := stepL_Leg hg ht hi1 hc1_ hm1
      obtain ⟨z1, hz1⟩ := some_of_lt hc1_
      rw [drop_of_some hz1] at h_1
      rw [S_IsNetwork_l1] at h_1
      obtain ⟨z1_From, z1_To, z1_Start, z1_Takes, z1_Days, z1_Room⟩ := z1
      try rw [← hg] at h_1
      try rw [← ht] at h_1
      try dsimp only at h_1
      rw [hb1]
      cbv
      refine AStep.mk (nn_L hi1) ?_
      cbv
      refine AGet.mk _ (r_getL_Leg hg ht hi1 hz1) ?_
      cbv
      obtain ⟨x1, hx1, h_1⟩ := of_cl h_1
      try dsimp only at h_1
      refine ACall.mk _ _ rfl (hF _ _ _ (c_S_IsLeg hg ht hx1)) (.inl rfl) (Nat.le_of_ble_eq_true rfl) ?_
      cbv
      cases hb2 : x1 with
      | true =>
        rw [br_true hb2] at h_1
        cbv
        try rw [hg] at h_1
        try rw [ht] at h_1
        refine ⟨⟨(k1 + 1, (wrap .i64 (add v1 1))), hc1_, hs1, h_1⟩, Wk.of [(0, some 0)] rfl rfl ?_ ?_, meas_L hc1_⟩
        · cbv
          all_goals exact ⟨⟨_, rfl, rfl⟩, ⟨_, rfl, rfl⟩, trivial⟩
        · cbv
          all_goals exact ⟨⟨_, rfl, _, rfl, rfl, rfl, rfl, trivial⟩, trivial⟩
      | false =>
        rw [br_false hb2] at h_1
        cbv
        obtain rfl := Option.some.inj h_1
        try dsimp only [lr, lrL, lrp, lrpL] at h
        obtain rfl := Option.some.inj h
        exact ARet.mk trivial hX.symm
    · have hb1 : lt v1 (llen (r_Leg a0_Legs)) = false := ltL_false_Leg hg ht hi1 hc1_
      rw [List.drop_of_length_le (Nat.le_of_not_lt hc1_)] at h_1
      rw [S_IsNetwork_l1] at h_1
      try rw [← hg] at h_1
      try rw [← ht] at h_1
      try dsimp only at h_1
      rw [hb1]
      cbv
      refine ⟨(), Wk.of [(0, some 0)] rfl rfl ?_ ?_, (Option.some.inj h_1).symm⟩
      · cbv
        all_goals exact ⟨⟨_, rfl, rfl⟩, trivial⟩
      · cbv
        all_goals exact ⟨⟨_, rfl, _, rfl, rfl, rfl, rfl, trivial⟩, trivial⟩
  · rintro _ hy1
    replace hy1 := hy1.symm
    subst hy1
    try dsimp only [lr, lrL, lrp, lrpL] at h
    cbv
    obtain ⟨o2, ho2, h⟩ := of_cl h
    try dsimp only at h
    try rw [hg] at ho2
    try rw [ht] at ho2
    refine ABL.mk { p : Nat × Int // p.1 ≤ a0_Off.length ∧ p.2 = ((p.1 : Nat) : Int) ∧ S_IsNetwork_l2 G.real TE.real (Network.mk a0_Legs a0_Off a0_Change) (List.drop p.1 a0_Off) p.2 = some o2 } (fun ⟨⟨k2, v2⟩, _⟩ => ({ sl := [(1, .c (.p 0 3 0 0)), (4, .c (.r (.v (.int .i64 v2))))], tab := [(0, some (.foc 3 [] [.r (.s 6 (r_Leg a0_Legs)), .r (.s 1 (r_I64 a0_Off)), .r (.v (.int .i64 a0_Change))] []))] } : St)) 1 (fun p => a0_Off.length - p.1.1) ⟨(0, 0), Nat.zero_le _, rfl, ho2⟩ (Unit) (fun _ => ({ sl := [(1, .c (.p 0 3 0 0))], tab := [(0, some (.foc 3 [] [.r (.s 6 (r_Leg a0_Legs)), .r (.s 1 (r_I64 a0_Off)), .r (.v (.int .i64 a0_Change))] []))] } : St)) 1 (fun y => o2 = LR.out y) ?_ ?_ ?_
    · refine Wk.of [(0, some 0)] rfl rfl ?_ ?_
      · cbv
        all_goals exact ⟨⟨_, rfl, rfl⟩, ⟨_, rfl, rfl⟩, trivial⟩
      · cbv
        all_goals exact ⟨⟨_, rfl, _, rfl, rfl, rfl, rfl, trivial⟩, trivial⟩
    · rintro ⟨⟨k2, v2⟩, hk2, hi2, h_2⟩ hq2
      have hm2 := (hq2.2.2.1 0 _ _ _ _ 1 _ _ rfl rfl)
      try dsimp only at hk2 hi2 h_2
      clear hq2
      cbv
      by_cases hc2_ : k2 < a0_Off.length
      · have hb3 : lt v2 (llen (r_I64 a0_Off)) = true := ltL_true_I64 hg ht hi2 hc2_
        have hs2 := stepL_I64 hg ht hi2 hc2_ hm2
        obtain ⟨z2, hz2⟩ := some_of_lt hc2_
        rw [drop_of_some hz2] at h_2
        rw [S_IsNetwork_l2] at h_2
        try rw [← hg] at h_2
        try rw [← ht] at h_2
        try dsimp only at h_2
        rw [hb3]
        cbv
        refine AStep.mk (nn_L hi2) ?_
        cbv
        refine AGet.mk _ (r_getL_I64 hg ht hi2 hz2) ?_
        cbv
        obtain ⟨x2, hx2, h_2⟩ := of_lP h_2
        try dsimp only at h_2
        refine ACall.mk _ _ rfl (hF _ _ _ (c_S_l1In hg ht hx2)) (.inl rfl) (Nat.le_of_ble_eq_true rfl) ?_
        cbv
        cases hb4 : x2 with
        | true =>
          rw [br_true hb4] at h_2
          cbv
          try (rw [hb4]; cbv)
          try (rw [hb4]; cbv)
          cases hb5 : (lt 0 v2) with
          | true =>
            rw [br_true hb5] at h_2
            cbv
            try (rw [hb5]; cbv)
            try (rw [hb5]; cbv)
            try (rw [hb5]; cbv)
            try (rw [hb5]; cbv)
            obtain ⟨hc1, h_2⟩ := of_gd h_2
            refine AStep.mk hc1 ?_
            cbv
            obtain ⟨x3, hx3, h_2⟩ := of_gt h_2
            try dsimp only at h_2
            refine AGet.mk _ (r_get_I64 hg ht hx3) ?_
            cbv
            try (rw [hb5]; cbv)
            try (rw [hb5]; cbv)
            try (rw [hb5]; cbv)
            try (rw [hb5]; cbv)
            try (rw [hb5]; cbv)
            refine AStep.mk (nn_L hi2) ?_
            cbv
            refine AGet.mk _ (r_getL_I64 hg ht hi2 hz2) ?_
            cbv
            try (rw [hb5]; cbv)
            try (rw [hb5]; cbv)
            try (rw [hb4]; cbv)
            try (rw [hb5]; cbv)
            try (rw [hb4]; cbv)
            cases hb6 : (le z2 x3) with
            | true =>
              rw [br_true hb6] at h_2
              cbv
              obtain rfl := Option.some.inj h_2
              try dsimp only [lr, lrL, lrp, lrpL] at h
              obtain rfl := Option.some.inj h
              exact ARet.mk trivial hX.symm
            | false =>
              rw [br_false hb6] at h_2
              cbv
              try rw [hg] at h_2
              try rw [ht] at h_2
              refine ⟨⟨(k2 + 1, (wrap .i64 (add v2 1))), hc2_, hs2, h_2⟩, Wk.of [(0, some 0)] rfl rfl ?_ ?_, meas_L hc2_⟩
              · cbv
                all_goals exact ⟨⟨_, rfl, rfl⟩, ⟨_, rfl, rfl⟩, trivial⟩
              · cbv
                all_goals exact ⟨⟨_, rfl, _, rfl, rfl, rfl, rfl, trivial⟩, trivial⟩
          | false =>
            rw [br_false hb5] at h_2
            cbv
            try (rw [hb5]; cbv)
            try (rw [hb5]; cbv)
            try (rw [hb5]; cbv)
            try (rw [hb5]; cbv)
            try (rw [hb5]; cbv)
            try (rw [hb5]; cbv)
            try (rw [hb5]; cbv)
            try (rw [hb5]; cbv)
            try (rw [hb5]; cbv)
            try (rw [hb5]; cbv)
            try (rw [hb5]; cbv)
            try (rw [hb4]; cbv)
            try (rw [hb5]; cbv)
            try (rw [hb4]; cbv)
            try rw [hg] at h_2
            try rw [ht] at h_2
            refine ⟨⟨(k2 + 1, (wrap .i64 (add v2 1))), hc2_, hs2, h_2⟩, Wk.of [(0, some 0)] rfl rfl ?_ ?_, meas_L hc2_⟩
            · cbv
              all_goals exact ⟨⟨_, rfl, rfl⟩, ⟨_, rfl, rfl⟩, trivial⟩
            · cbv
              all_goals exact ⟨⟨_, rfl, _, rfl, rfl, rfl, rfl, trivial⟩, trivial⟩
        | false =>
          rw [br_false hb4] at h_2
          cbv
          try (rw [hb4]; cbv)
          try (rw [hb4]; cbv)
          try (rw [hb4]; cbv)
          try (rw [hb4]; cbv)
          obtain rfl := Option.some.inj h_2
          try dsimp only [lr, lrL, lrp, lrpL] at h
          obtain rfl := Option.some.inj h
          exact ARet.mk trivial hX.symm
      · have hb3 : lt v2 (llen (r_I64 a0_Off)) = false := ltL_false_I64 hg ht hi2 hc2_
        rw [List.drop_of_length_le (Nat.le_of_not_lt hc2_)] at h_2
        rw [S_IsNetwork_l2] at h_2
        try rw [← hg] at h_2
        try rw [← ht] at h_2
        try dsimp only at h_2
        rw [hb3]
        cbv
        refine ⟨(), Wk.of [(0, some 0)] rfl rfl ?_ ?_, (Option.some.inj h_2).symm⟩
        · cbv
          all_goals exact ⟨⟨_, rfl, rfl⟩, trivial⟩
        · cbv
          all_goals exact ⟨⟨_, rfl, _, rfl, rfl, rfl, rfl, trivial⟩, trivial⟩
    · rintro _ hy2
      replace hy2 := hy2.symm
      subst hy2
      try dsimp only [lr, lrL, lrp, lrpL] at h
      cbv
      cases hb7 : (le (llen (r_Leg a0_Legs)) 20) with
      | true =>
        rw [br_true hb7] at h
        cbv
        try (rw [hb7]; cbv)
        try (rw [hb7]; cbv)
        try (rw [hb7]; cbv)
        try (rw [hb7]; cbv)
        cases hb8 : (le (llen (r_I64 a0_Off)) 10) with
        | true =>
          rw [br_true hb8] at h
          cbv
          try (rw [hb8]; cbv)
          try (rw [hb8]; cbv)
          obtain ⟨x4, hx4, h⟩ := of_lP h
          try dsimp only at h
          refine ACall.mk _ _ rfl (hF _ _ _ (c_S_l1In hg ht hx4)) (.inl rfl) (Nat.le_of_ble_eq_true rfl) ?_
          cbv
          try (rw [hb8]; cbv)
          obtain rfl := Option.some.inj h
          exact ARet.mk trivial hX.symm
        | false =>
          rw [br_false hb8] at h
          cbv
          try (rw [hb8]; cbv)
          try (rw [hb8]; cbv)
          try (rw [hb8]; cbv)
          obtain rfl := Option.some.inj h
          exact ARet.mk trivial hX.symm
      | false =>
        rw [br_false hb7] at h
        cbv
        try (rw [hb7]; cbv)
        try (rw [hb7]; cbv)
        try (rw [hb7]; cbv)
        try (rw [hb7]; cbv)
        obtain rfl := Option.some.inj h
        exact ARet.mk trivial hX.symm
end Go.Vs
namespace Go.Vs
set_option maxRecDepth 100000
def ir130 : J :=
  .seq (.reg none [⟨(some 3), none, .box (.t 0)⟩,
     ⟨(some 6), none, .mv (.k (V.b false))⟩] [1, 2, 3])
  (.seq (.reg none [⟨(some 7), none, .ld true 3 (.t 3)⟩,
     ⟨(some 8), none, .call 87 true [(.t 7)]⟩,
     ⟨(some 9), none, .mv (.t 8)⟩,
     ⟨(some 10), (some (9, true)), .ld true 3 (.t 3)⟩,
     ⟨(some 11), (some (9, true)), .mv (.t 1)⟩,
     ⟨(some 12), (some (9, true)), .mv (.t 2)⟩,
     ⟨(some 13), (some (9, true)), .call 145 true [(.t 10), (.t 11), (.t 12)]⟩,
     ⟨(some 14), none, .pick (.t 9) (.t 13) (.k (V.b false))⟩,
     ⟨(some 6), none, .mv (.t 14)⟩] [6])
  (.ret))
def rv130 : List RV := [.t 6]
open Go.Proofs Go.IntWalk
set_option linter.unusedVariables false
set_option maxRecDepth 100000
set_option maxHeartbeats 4000000
def I_RunsOn (g : G) (t : TE) (a0 : Network) (a1 : Int) (a2 : Int) : Option Bool :=
  cl (I_IsNetwork g t a0) fun x1 =>
  br x1
  (
   cl (I_runs g t a0 a1 a2) fun x2 =>
   some x2)
  (
   some false)
theorem fit130 : codeFit Try.prog Try.f130.ntmps (Try.f130.body.getD .skip) ir130 = true := by kernel_rfl
theorem c_I_RunsOn {g : G} {t : TE} {a0 : Network} {a1 : Int} {a2 : Int} {r : Bool} (hg : g = G.real) (ht : t = TE.real) (h : I_RunsOn g t a0 a1 a2 = some r) : Fn Try.prog 130 [.g (Network.rs t a0), .c (.v (.int .i64 a1)), .c (.v (.int .i64 a2))] (.c (.r (.v (.bool r)))) := by
  obtain ⟨X, hX⟩ := hide (.c (.r (.v (.bool r))) : X)
  rw [← hX]
  refine fn_of (rvs := rv130) (j := ir130) Try.func130 rfl fit130 (Nat.le_of_ble_eq_true rfl) (by kernel_rfl) prog_mixed ?_
  intro g2 F hg2 hF
  obtain rfl : g2 = g := hg2.unique.trans hg.symm
  clear hg2
  obtain ⟨wrap, lt, le, eq, quo, rem, band, bor, bxor, shl, shr, nat, int, add, sub, mul, cat, seq, slt, sub3, byte, llen, nadd, nsub, dlen, dapp, dset, drep, rd, rda, up, rsub, dsub, all, sle, slen⟩ := g2
  obtain ⟨r_S, d_S, r_Trip, d_Trip, r_Leg, d_Leg, r_I64, d_I64, r_Order, d_Order, r_Booking, d_Booking, r_Scan, d_Scan, r_U8, d_U8, r_LI64, d_LI64⟩ := t
  obtain ⟨a0_Legs, a0_Off, a0_Change⟩ := a0
  unfold I_RunsOn at h
  try dsimp only at h
  cbv
  obtain ⟨x1, hx1, h⟩ := of_cl h
  try dsimp only at h
  refine ACall.mk _ _ rfl (hF _ _ _ (c_I_IsNetwork hg ht hx1)) (.inl rfl) (Nat.le_of_ble_eq_true rfl) ?_
  cbv
  cases hb1 : x1 with
  | true =>
    rw [br_true hb1] at h
    cbv
    try (rw [hb1]; cbv)
    try (rw [hb1]; cbv)
    try (rw [hb1]; cbv)
    obtain ⟨x2, hx2, h⟩ := of_cl h
    try dsimp only at h
    refine ACall.mk _ _ rfl (hF _ _ _ (c_I_runs hg ht hx2)) (.inl rfl) (Nat.le_of_ble_eq_true rfl) ?_
    cbv
    try (rw [hb1]; cbv)
    obtain rfl := Option.some.inj h
    exact ARet.mk trivial hX.symm
  | false =>
    rw [br_false hb1] at h
    cbv
    try (rw [hb1]; cbv)
    try (rw [hb1]; cbv)
    try (rw [hb1]; cbv)
    try (rw [hb1]; cbv)
    obtain rfl := Option.some.inj h
    exact ARet.mk trivial hX.symm
end Go.Vs
namespace Go.Vs
set_option maxRecDepth 100000
def ir99 : J :=
  .seq (.reg none [⟨(some 7), none, .box (.t 0)⟩,
     ⟨(some 14), none, .mv (.k (.c (.n 1)))⟩] [1, 2, 3, 4, 5, 6, 7])
  (.seq (.reg none [⟨(some 21), none, .mv (.t 5)⟩,
     ⟨(some 22), none, .call 138 true [(.t 21)]⟩,
     ⟨(some 15), none, .mv (.t 22)⟩] [1, 2, 3, 4, 5, 6, 7, 15])
  (.seq (.seq (.reg none [⟨(some 16), none, .mv (.k (V.i 0))⟩] [1, 2, 3, 4, 5, 6, 7, 15, 16])
   (.bl 0 (.seq (.seq (.reg none [⟨(some 23), none, .mv (.t 16)⟩,
        ⟨(some 24), none, .fa 0 (.t 7)⟩,
        ⟨(some 25), none, .ld false 1 (.t 24)⟩,
        ⟨(some 26), none, .len false (.t 25)⟩,
        ⟨(some 27), none, .bin .lss .i (.t 23) (.t 26)⟩] [1, 2, 3, 4, 5, 6, 7, 15, 16, 27])
     (.cond (.t 27)
      (.skip)
      (.exit 0)))
    (.seq (.block 1 (.seq (.reg none [⟨(some 30), none, .mv (.t 4)⟩,
         ⟨(some 31), none, .fa 0 (.t 7)⟩,
         ⟨(some 32), none, .ld false 1 (.t 31)⟩,
         ⟨(some 33), none, .mv (.t 16)⟩,
         ⟨(some 34), none, .ia 6 (.t 32) (.t 33)⟩,
         ⟨(some 35), none, .fa 0 (.t 34)⟩,
         ⟨(some 36), none, .ld false 1 (.t 35)⟩,
         ⟨(some 37), none, .call 81 true [(.t 30), (.t 36)]⟩,
         ⟨(some 17), none, .mv (.t 37)⟩] [1, 2, 3, 4, 5, 6, 7, 15, 16, 17])
      (.seq (.reg none [⟨(some 38), none, .mv (.t 4)⟩,
         ⟨(some 39), none, .fa 0 (.t 7)⟩,
         ⟨(some 40), none, .ld false 1 (.t 39)⟩,
         ⟨(some 41), none, .mv (.t 16)⟩,
         ⟨(some 42), none, .ia 6 (.t 40) (.t 41)⟩,
         ⟨(some 43), none, .fa 1 (.t 42)⟩,
         ⟨(some 44), none, .ld false 1 (.t 43)⟩,
         ⟨(some 45), none, .call 81 true [(.t 38), (.t 44)]⟩,
         ⟨(some 18), none, .mv (.t 45)⟩] [1, 2, 3, 4, 5, 6, 7, 15, 16, 17, 18])
      (.seq (.seq (.reg none [⟨(some 46), none, .mv (.t 5)⟩,
          ⟨(some 47), none, .mv (.t 17)⟩,
          ⟨(some 48), none, .ia 1 (.t 46) (.t 47)⟩,
          ⟨(some 49), none, .ld false 1 (.t 48)⟩,
          ⟨(some 50), none, .bin .lss .i (.t 49) (.k (V.i 0))⟩] [1, 2, 3, 4, 5, 6, 7, 15, 16, 17, 18, 50])
       (.cond (.t 50)
        (.exit 1)
        (.skip)))
      (.seq (.reg (some [[], [], [], [], [], [], [], [5, 6], [5, 6, 7], [], [], [9, 10], [4, 5, 6, 7, 8, 9, 10, 11], [], [0, 1, 2, 3, 4, 5, 6, 7, 8, 9, 10, 11, 12, 13], [0, 1, 2, 3, 4, 5, 6, 7, 8, 9, 10, 11, 12, 13, 14]]) [⟨(some 51), none, .ld true 3 (.t 7)⟩,
         ⟨(some 52), none, .mv (.t 1)⟩,
         ⟨(some 53), none, .mv (.t 2)⟩,
         ⟨(some 54), none, .mv (.t 16)⟩,
         ⟨(some 55), none, .ld true 3 (.t 7)⟩,
         ⟨(some 56), none, .mv (.t 5)⟩,
         ⟨(some 57), none, .mv (.t 17)⟩,
         ⟨(some 58), none, .ia 1 (.t 56) (.t 57)⟩,
         ⟨(some 59), none, .ld false 1 (.t 58)⟩,
         ⟨(some 60), none, .mv (.t 17)⟩,
         ⟨(some 61), none, .mv (.t 6)⟩,
         ⟨(some 62), none, .bin .eql .i (.t 60) (.t 61)⟩,
         ⟨(some 63), none, .call 140 true [(.t 55), (.t 59), (.t 62)]⟩,
         ⟨(some 64), none, .mv (.t 3)⟩,
         ⟨(some 65), none, .call 139 true [(.t 51), (.t 52), (.t 53), (.t 54), (.t 63), (.t 64)]⟩,
         ⟨(some 19), none, .mv (.t 65)⟩] [1, 2, 3, 4, 5, 6, 7, 15, 16, 18, 19])
      (.seq (.seq (.reg none [⟨(some 66), none, .mv (.t 19)⟩,
          ⟨(some 67), none, .bin .lss .i (.t 66) (.k (V.i 0))⟩] [1, 2, 3, 4, 5, 6, 7, 15, 16, 18, 19, 67])
       (.cond (.t 67)
        (.exit 1)
        (.skip)))
      (.seq (.reg none [⟨(some 68), none, .ld true 3 (.t 7)⟩,
         ⟨(some 69), none, .mv (.t 16)⟩,
         ⟨(some 70), none, .mv (.t 19)⟩,
         ⟨(some 71), none, .bld [.r (.v (.int .i64 0)), .r (.v (.int .i64 0))] [(0, 1, (.t 69)), (1, 1, (.t 70))]⟩,
         ⟨(some 72), none, .call 85 true [(.t 68), (.t 71)]⟩,
         ⟨(some 20), none, .mv (.t 72)⟩] [1, 2, 3, 4, 5, 6, 7, 15, 16, 18, 20])
      (.seq (.reg none [⟨(some 73), none, .mv (.t 15)⟩,
         ⟨(some 74), none, .mv (.t 18)⟩,
         ⟨(some 75), none, .ia 1 (.t 73) (.t 74)⟩,
         ⟨(some 76), none, .ld false 1 (.t 75)⟩,
         ⟨(some 77), none, .bin .lss .i (.t 76) (.k (V.i 0))⟩,
         ⟨(some 78), none, .mv (.t 77)⟩,
         ⟨(some 79), (some (78, false)), .mv (.t 20)⟩,
         ⟨(some 80), (some (78, false)), .mv (.t 15)⟩,
         ⟨(some 81), (some (78, false)), .mv (.t 18)⟩,
         ⟨(some 82), (some (78, false)), .ia 1 (.t 80) (.t 81)⟩,
         ⟨(some 83), (some (78, false)), .ld false 1 (.t 82)⟩,
         ⟨(some 84), (some (78, false)), .bin .lss .i (.t 79) (.t 83)⟩,
         ⟨(some 85), none, .pick (.t 78) (.k (V.b true)) (.t 84)⟩] [1, 2, 3, 4, 5, 6, 7, 15, 16, 18, 20, 85])
      (.cond (.t 85)
       (.reg none [⟨(some 86), none, .mv (.t 15)⟩,
          ⟨(some 87), none, .mv (.t 18)⟩,
          ⟨(some 88), none, .mv (.t 20)⟩,
          ⟨(some 89), none, .ia 1 (.t 86) (.t 87)⟩,
          ⟨none, none, .st 1 (.t 89) (.t 88)⟩] [1, 2, 3, 4, 5, 6, 7, 15, 16])
       (.skip))))))))))
    (.reg none [⟨(some 28), none, .mv (.t 16)⟩,
      ⟨(some 29), none, .bin .add .i (.t 28) (.k (V.i 1))⟩,
      ⟨(some 16), none, .mv (.t 29)⟩] [1, 2, 3, 4, 5, 6, 7, 15, 16])))))
  (.seq (.reg none [⟨(some 90), none, .mv (.t 15)⟩,
     ⟨(some 14), none, .mv (.t 90)⟩] [14])
  (.ret))))
def rv99 : List RV := [.t 14]
open Go.Proofs Go.IntWalk
set_option linter.unusedVariables false
set_option maxRecDepth 100000
set_option maxHeartbeats 4000000
def S_l6Round_l1 (g : G) (t : TE) (a0 : Network) (a1 : List Booking) (a2 : List Trip) (a3 : Int) (a4 : List ByteArray) (a5 : List Int) (a6 : Int) : List Leg → Int → List Int → Option (List Int)
  | [], v1, w1 =>
    some w1
  | z1 :: ls1, v1, w1 =>
    lP (S_l4Index g t a4 z1.From) fun x2 =>
    lP (S_l4Index g t a4 z1.To) fun x3 =>
    gd ((0 ≤ x2)) <|
    gt a5 (g.nat x2) fun x4 =>
    br (g.lt x4 0)
    (
     S_l6Round_l1 g t a0 a1 a2 a3 a4 a5 a6 ls1 (g.wrap .i64 (g.add v1 1)) w1)
    (
     gd ((0 ≤ x2)) <|
     lP (S_l4Ready g t a0 x4 (g.eq x2 a6)) fun x5 =>
     cl (S_l6Next g t a0 a1 a2 v1 x5 a3) fun x6 =>
     br (g.lt x6 0)
     (
      S_l6Round_l1 g t a0 a1 a2 a3 a4 a5 a6 ls1 (g.wrap .i64 (g.add v1 1)) w1)
     (
      cl (S_l3Ends g t a0 (Trip.mk v1 x6)) fun x7 =>
      gd ((0 ≤ x3 ∧ x3 < (((g.dlen (t.d_I64 w1)) : Nat) : Int))) <|
      gt w1 (g.nat x3) fun x8 =>
      br (g.lt x8 0)
      (
       gd ((0 ≤ x3 ∧ x3 < (((g.dlen (t.d_I64 w1)) : Nat) : Int))) <|
       lP (List.set w1 (g.nat x3) x7) fun (l1 : List Int) =>
       S_l6Round_l1 g t a0 a1 a2 a3 a4 a5 a6 ls1 (g.wrap .i64 (g.add v1 1)) l1)
      (
       gd ((0 ≤ x3 ∧ x3 < (((g.dlen (t.d_I64 w1)) : Nat) : Int))) <|
       br (g.lt x7 x8)
       (
        gd ((0 ≤ x3 ∧ x3 < (((g.dlen (t.d_I64 w1)) : Nat) : Int))) <|
        lP (List.set w1 (g.nat x3) x7) fun (l2 : List Int) =>
        S_l6Round_l1 g t a0 a1 a2 a3 a4 a5 a6 ls1 (g.wrap .i64 (g.add v1 1)) l2)
       (
        S_l6Round_l1 g t a0 a1 a2 a3 a4 a5 a6 ls1 (g.wrap .i64 (g.add v1 1)) w1))))
def S_l6Round (g : G) (t : TE) (a0 : Network) (a1 : List Booking) (a2 : List Trip) (a3 : Int) (a4 : List ByteArray) (a5 : List Int) (a6 : Int) : Option (List Int) :=
  cl (S_l1Ints g t a5) fun x1 =>
  cl (S_l6Round_l1 g t a0 a1 a2 a3 a4 a5 a6 a0.Legs 0 x1) fun y1 =>
  some y1
theorem fit99 : codeFit Try.prog Try.f99.ntmps (Try.f99.body.getD .skip) ir99 = true := by kernel_rfl
theorem c_S_l6Round {g : G} {t : TE} {a0 : Network} {a1 : List Booking} {a2 : List Trip} {a3 : Int} {a4 : List ByteArray} {a5 : List Int} {a6 : Int} {r : List Int} (hg : g = G.real) (ht : t = TE.real) (h : S_l6Round g t a0 a1 a2 a3 a4 a5 a6 = some r) : Fn Try.prog 99 [.g (Network.rs t a0), .c (.s 4 (t.r_Booking a1)), .c (.s 2 (t.r_Trip a2)), .c (.v (.int .i64 a3)), .c (.s 1 (t.r_S a4)), .c (.s 1 (t.r_I64 a5)), .c (.v (.int .i64 a6))] (.c (.o 1 (t.d_I64 r))) := by
  obtain ⟨X, hX⟩ := hide (.c (.o 1 (t.d_I64 r)) : X)
  rw [← hX]
  refine fn_of (rvs := rv99) (j := ir99) Try.func99 rfl fit99 (Nat.le_of_ble_eq_true rfl) (by kernel_rfl) prog_mixed ?_
  intro g2 F hg2 hF
  obtain rfl : g2 = g := hg2.unique.trans hg.symm
  clear hg2
  obtain ⟨wrap, lt, le, eq, quo, rem, band, bor, bxor, shl, shr, nat, int, add, sub, mul, cat, seq, slt, sub3, byte, llen, nadd, nsub, dlen, dapp, dset, drep, rd, rda, up, rsub, dsub, all, sle, slen⟩ := g2
  obtain ⟨r_S, d_S, r_Trip, d_Trip, r_Leg, d_Leg, r_I64, d_I64, r_Order, d_Order, r_Booking, d_Booking, r_Scan, d_Scan, r_U8, d_U8, r_LI64, d_LI64⟩ := t
  obtain ⟨a0_Legs, a0_Off, a0_Change⟩ := a0
  unfold S_l6Round at h
  try dsimp only at h
  cbv
  obtain ⟨x1, hx1, h⟩ := of_cl h
  try dsimp only at h
  refine ACall.mk _ _ rfl (hF _ _ _ (c_S_l1Ints hg ht hx1)) (.inl rfl) (Nat.le_of_ble_eq_true rfl) ?_
  cbv
  obtain ⟨o1, ho1, h⟩ := of_cl h
  try dsimp only at h
  try rw [hg] at ho1
  try rw [ht] at ho1
  refine ABL.mk { p : Nat × Int × List Int // p.1 ≤ a0_Legs.length ∧ p.2.1 = ((p.1 : Nat) : Int) ∧ S_l6Round_l1 G.real TE.real (Network.mk a0_Legs a0_Off a0_Change) a1 a2 a3 a4 a5 a6 (List.drop p.1 a0_Legs) p.2.1 p.2.2 = some o1 } (fun ⟨⟨k1, v1, w1⟩, _⟩ => ({ sl := [(1, .c (.r (.s 4 (r_Booking a1)))), (2, .c (.r (.s 2 (r_Trip a2)))), (3, .c (.r (.v (.int .i64 a3)))), (4, .c (.r (.s 1 (r_S a4)))), (5, .c (.r (.s 1 (r_I64 a5)))), (6, .c (.r (.v (.int .i64 a6)))), (7, .c (.p 0 3 0 0)), (15, .c (.f 1 1 0 (dlen (d_I64 w1)))), (16, .c (.r (.v (.int .i64 v1))))], tab := [(0, some (.foc 3 [] [.r (.s 6 (r_Leg a0_Legs)), .r (.s 1 (r_I64 a0_Off)), .r (.v (.int .i64 a0_Change))] [])), (1, some (.arr 1 (d_I64 w1)))] } : St)) 2 (fun p => a0_Legs.length - p.1.1) ⟨(0, 0, x1), Nat.zero_le _, rfl, ho1⟩ (List Int) (fun y1 => ({ sl := [(15, .c (.f 0 1 0 (dlen (d_I64 y1))))], tab := [(0, some (.arr 1 (d_I64 y1)))] } : St)) 1 (fun y => o1 = y) ?_ ?_ ?_
  · refine Wk.of [(0, some 0), (1, some 48)] rfl rfl ?_ ?_
    · cbv
      all_goals exact ⟨⟨_, rfl, rfl⟩, ⟨_, rfl, rfl⟩, ⟨_, rfl, rfl⟩, ⟨_, rfl, rfl⟩, ⟨_, rfl, rfl⟩, ⟨_, rfl, rfl⟩, ⟨_, rfl, rfl⟩, ⟨_, rfl, rfl⟩, ⟨_, rfl, rfl⟩, trivial⟩
    · cbv
      all_goals exact ⟨⟨_, rfl, _, rfl, rfl, rfl, rfl, trivial⟩, ⟨_, rfl, rfl⟩, trivial⟩
  · rintro ⟨⟨k1, v1, w1⟩, hk1, hi1, h_1⟩ hq1
    have hm1 := (hq1.2.2.1 0 _ _ _ _ 0 _ _ rfl rfl)
    try dsimp only at hk1 hi1 h_1
    clear hq1
    cbv
    by_cases hc1_ : k1 < a0_Legs.length
    · have hb1 : lt v1 (llen (r_Leg a0_Legs)) = true := ltL_true_Leg hg ht hi1 hc1_
      have hs1 := stepL_Leg hg ht hi1 hc1_ hm1
      obtain ⟨z1, hz1⟩ := some_of_lt hc1_
      rw [drop_of_some hz1] at h_1
      rw [S_l6Round_l1] at h_1
      obtain ⟨z1_From, z1_To, z1_Start, z1_Takes, z1_Days, z1_Room⟩ := z1
      try rw [← hg] at h_1
      try rw [← ht] at h_1
      try dsimp only at h_1
      rw [hb1]
      cbv
      refine AStep.mk (nn_L hi1) ?_
      cbv
      refine AGet.mk _ (r_getL_Leg hg ht hi1 hz1) ?_
      cbv
      obtain ⟨x2, hx2, h_1⟩ := of_lP h_1
      try dsimp only at h_1
      refine ACall.mk _ _ rfl (hF _ _ _ (c_S_l4Index hg ht hx2)) (.inl rfl) (Nat.le_of_ble_eq_true rfl) ?_
      cbv
      refine AStep.mk (nn_L hi1) ?_
      cbv
      refine AGet.mk _ (r_getL_Leg hg ht hi1 hz1) ?_
      cbv
      obtain ⟨x3, hx3, h_1⟩ := of_lP h_1
      try dsimp only at h_1
      refine ACall.mk _ _ rfl (hF _ _ _ (c_S_l4Index hg ht hx3)) (.inl rfl) (Nat.le_of_ble_eq_true rfl) ?_
      cbv
      obtain ⟨hc1, h_1⟩ := of_gd h_1
      refine AStep.mk hc1 ?_
      cbv
      obtain ⟨x4, hx4, h_1⟩ := of_gt h_1
      try dsimp only at h_1
      refine AGet.mk _ (r_get_I64 hg ht hx4) ?_
      cbv
      cases hb2 : (lt x4 0) with
      | true =>
        rw [br_true hb2] at h_1
        cbv
        try rw [hg] at h_1
        try rw [ht] at h_1
        refine ⟨⟨(k1 + 1, (wrap .i64 (add v1 1)), w1), hc1_, hs1, h_1⟩, Wk.of [(0, some 0), (1, some 1)] rfl rfl ?_ ?_, meas_L hc1_⟩
        · cbv
          all_goals exact ⟨⟨_, rfl, rfl⟩, ⟨_, rfl, rfl⟩, ⟨_, rfl, rfl⟩, ⟨_, rfl, rfl⟩, ⟨_, rfl, rfl⟩, ⟨_, rfl, rfl⟩, ⟨_, rfl, rfl⟩, ⟨_, rfl, rfl⟩, ⟨_, rfl, rfl⟩, trivial⟩
        · cbv
          all_goals exact ⟨⟨_, rfl, _, rfl, rfl, rfl, rfl, trivial⟩, ⟨_, rfl, rfl⟩, trivial⟩
      | false =>
        rw [br_false hb2] at h_1
        cbv
        obtain ⟨hc2, h_1⟩ := of_gd h_1
        refine AStep.mk hc2 ?_
        cbv
        refine AGet.mk _ (r_get_I64 hg ht hx4) ?_
        cbv
        obtain ⟨x5, hx5, h_1⟩ := of_lP h_1
        try dsimp only at h_1
        refine ACall.mk _ _ rfl (hF _ _ _ (c_S_l4Ready hg ht hx5)) (.inl rfl) (Nat.le_of_ble_eq_true rfl) ?_
        cbv
        obtain ⟨x6, hx6, h_1⟩ := of_cl h_1
        try dsimp only at h_1
        refine ACall.mk _ _ rfl (hF _ _ _ (c_S_l6Next hg ht hx6)) (.inl rfl) (Nat.le_of_ble_eq_true rfl) ?_
        cbv
        cases hb3 : (lt x6 0) with
        | true =>
          rw [br_true hb3] at h_1
          cbv
          try rw [hg] at h_1
          try rw [ht] at h_1
          refine ⟨⟨(k1 + 1, (wrap .i64 (add v1 1)), w1), hc1_, hs1, h_1⟩, Wk.of [(0, some 0), (1, some 1)] rfl rfl ?_ ?_, meas_L hc1_⟩
          · cbv
            all_goals exact ⟨⟨_, rfl, rfl⟩, ⟨_, rfl, rfl⟩, ⟨_, rfl, rfl⟩, ⟨_, rfl, rfl⟩, ⟨_, rfl, rfl⟩, ⟨_, rfl, rfl⟩, ⟨_, rfl, rfl⟩, ⟨_, rfl, rfl⟩, ⟨_, rfl, rfl⟩, trivial⟩
          · cbv
            all_goals exact ⟨⟨_, rfl, _, rfl, rfl, rfl, rfl, trivial⟩, ⟨_, rfl, rfl⟩, trivial⟩
        | false =>
          rw [br_false hb3] at h_1
          cbv
          obtain ⟨x7, hx7, h_1⟩ := of_cl h_1
          try dsimp only at h_1
          refine ACall.mk _ _ rfl (hF _ _ _ (c_S_l3Ends hg ht hx7)) (.inl rfl) (Nat.le_of_ble_eq_true rfl) ?_
          cbv
          obtain ⟨hc3, h_1⟩ := of_gd h_1
          refine AStep.mk hc3 ?_
          cbv
          obtain ⟨x8, hx8, h_1⟩ := of_gt h_1
          try dsimp only at h_1
          refine AGet.mk _ (d_get_I64 hg ht hx8) ?_
          cbv
          cases hb4 : (lt x8 0) with
          | true =>
            rw [br_true hb4] at h_1
            cbv
            try (rw [hb4]; cbv)
            try (rw [hb4]; cbv)
            try (rw [hb4]; cbv)
            try (rw [hb4]; cbv)
            try (rw [hb4]; cbv)
            try (rw [hb4]; cbv)
            obtain ⟨hc4, h_1⟩ := of_gd h_1
            refine AStep.mk hc4 ?_
            cbv
            refine AGet.mk _ (d_get_I64 hg ht hx8) ?_
            cbv
            obtain ⟨l1, hl1, h_1⟩ := of_lP h_1
            try dsimp only at h_1
            refine ANew.mk (d_I64 l1) _ (by rw [← hl1]; exact dset_I64 hg ht _ _ x7) rfl ?_
            have hnl1 : (dlen (d_I64 w1)) = (d_I64 l1).length := (by rw [← hl1, dsetl_I64 ht]; exact (dlen_I64 hg ht _))
            cbv
            try rw [hg] at h_1
            try rw [ht] at h_1
            refine ⟨⟨(k1 + 1, (wrap .i64 (add v1 1)), l1), hc1_, hs1, h_1⟩, Wk.of [(0, some 0), (1, some 1)] rfl rfl ?_ ?_, meas_L hc1_⟩
            · cbv
              all_goals try rw [show (dlen (d_I64 w1)) = (dlen (d_I64 l1)) from (hnl1).trans (dlen_I64 hg ht _).symm]
              all_goals exact ⟨⟨_, rfl, rfl⟩, ⟨_, rfl, rfl⟩, ⟨_, rfl, rfl⟩, ⟨_, rfl, rfl⟩, ⟨_, rfl, rfl⟩, ⟨_, rfl, rfl⟩, ⟨_, rfl, rfl⟩, ⟨_, rfl, rfl⟩, ⟨_, rfl, rfl⟩, trivial⟩
            · cbv
              all_goals try rw [show (dlen (d_I64 w1)) = (dlen (d_I64 l1)) from (hnl1).trans (dlen_I64 hg ht _).symm]
              all_goals exact ⟨⟨_, rfl, _, rfl, rfl, rfl, rfl, trivial⟩, ⟨_, rfl, rfl⟩, trivial⟩
          | false =>
            rw [br_false hb4] at h_1
            cbv
            try (rw [hb4]; cbv)
            try (rw [hb4]; cbv)
            try (rw [hb4]; cbv)
            obtain ⟨hc5, h_1⟩ := of_gd h_1
            refine AStep.mk hc5 ?_
            cbv
            try (rw [hb4]; cbv)
            refine AGet.mk _ (d_get_I64 hg ht hx8) ?_
            cbv
            try (rw [hb4]; cbv)
            try (rw [hb4]; cbv)
            cases hb5 : (lt x7 x8) with
            | true =>
              rw [br_true hb5] at h_1
              cbv
              obtain ⟨hc6, h_1⟩ := of_gd h_1
              refine AStep.mk hc6 ?_
              cbv
              refine AGet.mk _ (d_get_I64 hg ht hx8) ?_
              cbv
              obtain ⟨l2, hl2, h_1⟩ := of_lP h_1
              try dsimp only at h_1
              refine ANew.mk (d_I64 l2) _ (by rw [← hl2]; exact dset_I64 hg ht _ _ x7) rfl ?_
              have hnl2 : (dlen (d_I64 w1)) = (d_I64 l2).length := (by rw [← hl2, dsetl_I64 ht]; exact (dlen_I64 hg ht _))
              cbv
              try rw [hg] at h_1
              try rw [ht] at h_1
              refine ⟨⟨(k1 + 1, (wrap .i64 (add v1 1)), l2), hc1_, hs1, h_1⟩, Wk.of [(0, some 0), (1, some 1)] rfl rfl ?_ ?_, meas_L hc1_⟩
              · cbv
                all_goals try rw [show (dlen (d_I64 w1)) = (dlen (d_I64 l2)) from (hnl2).trans (dlen_I64 hg ht _).symm]
                all_goals exact ⟨⟨_, rfl, rfl⟩, ⟨_, rfl, rfl⟩, ⟨_, rfl, rfl⟩, ⟨_, rfl, rfl⟩, ⟨_, rfl, rfl⟩, ⟨_, rfl, rfl⟩, ⟨_, rfl, rfl⟩, ⟨_, rfl, rfl⟩, ⟨_, rfl, rfl⟩, trivial⟩
              · cbv
                all_goals try rw [show (dlen (d_I64 w1)) = (dlen (d_I64 l2)) from (hnl2).trans (dlen_I64 hg ht _).symm]
                all_goals exact ⟨⟨_, rfl, _, rfl, rfl, rfl, rfl, trivial⟩, ⟨_, rfl, rfl⟩, trivial⟩
            | false =>
              rw [br_false hb5] at h_1
              cbv
              try rw [hg] at h_1
              try rw [ht] at h_1
              refine ⟨⟨(k1 + 1, (wrap .i64 (add v1 1)), w1), hc1_, hs1, h_1⟩, Wk.of [(0, some 0), (1, some 1)] rfl rfl ?_ ?_, meas_L hc1_⟩
              · cbv
                all_goals exact ⟨⟨_, rfl, rfl⟩, ⟨_, rfl, rfl⟩, ⟨_, rfl, rfl⟩, ⟨_, rfl, rfl⟩, ⟨_, rfl, rfl⟩, ⟨_, rfl, rfl⟩, ⟨_, rfl, rfl⟩, ⟨_, rfl, rfl⟩, ⟨_, rfl, rfl⟩, trivial⟩
              · cbv
                all_goals exact ⟨⟨_, rfl, _, rfl, rfl, rfl, rfl, trivial⟩, ⟨_, rfl, rfl⟩, trivial⟩
    · have hb1 : lt v1 (llen (r_Leg a0_Legs)) = false := ltL_false_Leg hg ht hi1 hc1_
      rw [List.drop_of_length_le (Nat.le_of_not_lt hc1_)] at h_1
      rw [S_l6Round_l1] at h_1
      try rw [← hg] at h_1
      try rw [← ht] at h_1
      try dsimp only at h_1
      rw [hb1]
      cbv
      refine ⟨w1, Wk.of [(0, some 1)] rfl rfl ?_ ?_, (Option.some.inj h_1).symm⟩
      · cbv
        all_goals exact ⟨⟨_, rfl, rfl⟩, trivial⟩
      · cbv
        all_goals exact ⟨⟨_, rfl, rfl⟩, trivial⟩
  · rintro y1 hy1
    replace hy1 := hy1.symm
    subst hy1
    try dsimp only [lr, lrL, lrp, lrpL] at h
    cbv
    obtain rfl := Option.some.inj h
    exact ARet.mk ⟨rfl, (dlen_I64 hg ht _)⟩ hX.symm
end Go.Vs
