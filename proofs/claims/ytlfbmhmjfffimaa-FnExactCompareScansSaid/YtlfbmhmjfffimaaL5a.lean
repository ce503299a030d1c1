/- Part of the proofs of this seat's laws: L5a. No condition. -/
import Derived.Test.YtlfbmhmjfffimaaTy
import Derived.Test.YtlfbmhmjfffimaaTIRall
import Derived.Test.YtlfbmhmjfffimaaL3a
import Derived.Test.YtlfbmhmjfffimaaL2a
import Derived.Test.YtlfbmhmjfffimaaL4a
import Derived.Test.YtlfbmhmjfffimaaL1b
import Derived.Test.YtlfbmhmjfffimaaL3b
import Derived.Test.YtlfbmhmjfffimaaL2b
import Derived.Test.YtlfbmhmjfffimaaL1c
set_option linter.unusedVariables false
set_option linter.unusedSimpArgs false
set_option linter.unusedSectionVars false
namespace Go.Vs
set_option maxRecDepth 100000
def ir25 : J :=
  .seq (.reg none [⟨(some 1), none, .box (.t 0)⟩,
     ⟨(some 2), none, .alloc [.n 6, .n 1, .r (.v (.int .i64 0)), .n 11, .n 4, .n 2, .r (.v (.int .i64 0)), .n 6, .n 1, .r (.v (.int .i64 0))]⟩] [1, 2])
  (.seq (.reg none [⟨(some 3), none, .alloc [.n 6, .n 1, .r (.v (.int .i64 0)), .n 11, .n 4, .n 2, .r (.v (.int .i64 0)), .n 6, .n 1, .r (.v (.int .i64 0))]⟩] [1, 2, 3])
  (.seq (.reg none [⟨(some 4), none, .fa 0 (.t 1)⟩,
     ⟨(some 5), none, .ld true 3 (.t 4)⟩,
     ⟨(some 6), none, .call 30 true [(.t 5)]⟩,
     ⟨(some 7), none, .fa 0 (.t 3)⟩,
     ⟨none, none, .st 3 (.t 7) (.t 6)⟩] [1, 2, 3])
  (.seq (.reg none [⟨(some 8), none, .fa 3 (.t 1)⟩,
     ⟨(some 9), none, .ld false 1 (.t 8)⟩,
     ⟨(some 10), none, .call 73 true [(.t 9)]⟩,
     ⟨(some 11), none, .fa 3 (.t 3)⟩,
     ⟨none, none, .st 1 (.t 11) (.t 10)⟩] [1, 2, 3])
  (.seq (.reg none [⟨(some 12), none, .fa 4 (.t 1)⟩,
     ⟨(some 13), none, .ld false 1 (.t 12)⟩,
     ⟨(some 14), none, .call 45 true [(.t 13)]⟩,
     ⟨(some 15), none, .fa 4 (.t 3)⟩,
     ⟨none, none, .st 1 (.t 15) (.t 14)⟩] [1, 2, 3])
  (.seq (.reg none [⟨(some 16), none, .fa 5 (.t 1)⟩,
     ⟨(some 17), none, .ld false 1 (.t 16)⟩,
     ⟨(some 18), none, .call 46 true [(.t 17)]⟩,
     ⟨(some 19), none, .fa 5 (.t 3)⟩,
     ⟨none, none, .st 1 (.t 19) (.t 18)⟩] [1, 2, 3])
  (.seq (.reg none [⟨(some 20), none, .fa 6 (.t 1)⟩,
     ⟨(some 21), none, .ld false 1 (.t 20)⟩,
     ⟨(some 22), none, .fa 6 (.t 3)⟩,
     ⟨none, none, .st 1 (.t 22) (.t 21)⟩] [1, 2, 3])
  (.seq (.reg none [⟨(some 23), none, .fa 7 (.t 1)⟩,
     ⟨(some 24), none, .ld false 1 (.t 23)⟩,
     ⟨(some 25), none, .call 74 true [(.t 24)]⟩,
     ⟨(some 26), none, .fa 7 (.t 3)⟩,
     ⟨none, none, .st 1 (.t 26) (.t 25)⟩] [1, 2, 3])
  (.seq (.reg none [⟨(some 27), none, .fa 8 (.t 1)⟩,
     ⟨(some 28), none, .ld false 1 (.t 27)⟩,
     ⟨(some 29), none, .call 75 true [(.t 28)]⟩,
     ⟨(some 30), none, .fa 8 (.t 3)⟩,
     ⟨none, none, .st 1 (.t 30) (.t 29)⟩] [1, 2, 3])
  (.seq (.reg none [⟨(some 31), none, .fa 9 (.t 1)⟩,
     ⟨(some 32), none, .ld false 1 (.t 31)⟩,
     ⟨(some 33), none, .fa 9 (.t 3)⟩,
     ⟨none, none, .st 1 (.t 33) (.t 32)⟩] [2, 3])
  (.seq (.reg none [⟨(some 34), none, .ld true 10 (.t 3)⟩,
     ⟨none, none, .st 10 (.t 2) (.t 34)⟩] [2])
  (.ret)))))))))))
def rv25 : List RV := [.c 2 true 10]
open Go.Proofs Go.IntWalk
set_option linter.unusedVariables false
set_option maxRecDepth 100000
set_option maxHeartbeats 4000000
def L_toWorld (g : G) (t : TE) (a0 : World) : Option World :=
  cl (L_toNetwork g t (Network.mk a0.Network.Legs a0.Network.Off a0.Network.Change)) fun x1 =>
  cl (L_toOrderS g t a0.Orders) fun x2 =>
  cl (L_toBookingS g t a0.Bookings) fun x3 =>
  cl (L_toTripS g t a0.Closed) fun x4 =>
  cl (L_toScanS g t a0.Scans) fun x5 =>
  cl (L_toIntS g t a0.Skip) fun x6 =>
  some (World.mk x1 x2 x3 x4 a0.Now x5 x6 a0.Made)
theorem fit25 : codeFit Try.prog Try.f25.ntmps (Try.f25.body.getD .skip) ir25 = true := by kernel_rfl
theorem c_L_toWorld {g : G} {t : TE} {a0 : World} {r : World} (hg : g = G.real) (ht : t = TE.real) (h : L_toWorld g t a0 = some r) : Fn Try.prog 25 [.g (World.rs t a0)] (.g (World.ds t r)) := by
  obtain ⟨X, hX⟩ := hide (.g (World.ds t r) : X)
  rw [← hX]
  refine fn_of (rvs := rv25) (j := ir25) Try.func25 rfl fit25 (Nat.le_of_ble_eq_true rfl) (by kernel_rfl) prog_mixed ?_
  intro g2 F hg2 hF
  obtain rfl : g2 = g := hg2.unique.trans hg.symm
  clear hg2
  obtain ⟨wrap, lt, le, eq, quo, rem, band, bor, bxor, shl, shr, nat, int, add, sub, mul, cat, seq, slt, sub3, byte, llen, nadd, nsub, dlen, dapp, dset, drep, rd, rda, up, rsub, dsub, all, sle, slen⟩ := g2
  obtain ⟨r_S, d_S, r_Trip, d_Trip, r_Leg, d_Leg, r_I64, d_I64, r_Order, d_Order, r_Booking, d_Booking, r_Scan, d_Scan, r_U8, d_U8, r_LI64, d_LI64⟩ := t
  obtain ⟨⟨a0_Network_Legs, a0_Network_Off, a0_Network_Change⟩, a0_Orders, a0_Bookings, a0_Closed, a0_Now, a0_Scans, a0_Skip, a0_Made⟩ := a0
  unfold L_toWorld at h
  try dsimp only at h
  cbv
  obtain ⟨x1, hx1, h⟩ := of_cl h
  obtain ⟨x1_Legs, x1_Off, x1_Change⟩ := x1
  try dsimp only at h
  refine ACall.mk _ _ rfl (hF _ _ _ (c_L_toNetwork hg ht hx1)) (.inl rfl) (Nat.le_of_ble_eq_true rfl) ?_
  cbv
  obtain ⟨x2, hx2, h⟩ := of_cl h
  try dsimp only at h
  refine ACall.mk _ _ rfl (hF _ _ _ (c_L_toOrderS hg ht hx2)) (.inl rfl) (Nat.le_of_ble_eq_true rfl) ?_
  cbv
  obtain ⟨x3, hx3, h⟩ := of_cl h
  try dsimp only at h
  refine ACall.mk _ _ rfl (hF _ _ _ (c_L_toBookingS hg ht hx3)) (.inl rfl) (Nat.le_of_ble_eq_true rfl) ?_
  cbv
  obtain ⟨x4, hx4, h⟩ := of_cl h
  try dsimp only at h
  refine ACall.mk _ _ rfl (hF _ _ _ (c_L_toTripS hg ht hx4)) (.inl rfl) (Nat.le_of_ble_eq_true rfl) ?_
  cbv
  obtain ⟨x5, hx5, h⟩ := of_cl h
  try dsimp only at h
  refine ACall.mk _ _ rfl (hF _ _ _ (c_L_toScanS hg ht hx5)) (.inl rfl) (Nat.le_of_ble_eq_true rfl) ?_
  cbv
  obtain ⟨x6, hx6, h⟩ := of_cl h
  try dsimp only at h
  refine ACall.mk _ _ rfl (hF _ _ _ (c_L_toIntS hg ht hx6)) (.inl rfl) (Nat.le_of_ble_eq_true rfl) ?_
  cbv
  obtain rfl := Option.some.inj h
  exact ARet.mk ⟨⟨rfl, (dlen_Leg hg ht _)⟩, ⟨⟨rfl, (dlen_I64 hg ht _)⟩, ⟨⟨rfl, (dlen_Order hg ht _)⟩, ⟨⟨rfl, (dlen_Booking hg ht _)⟩, ⟨⟨rfl, (dlen_Trip hg ht _)⟩, ⟨⟨rfl, (dlen_Scan hg ht _)⟩, ⟨rfl, (dlen_I64 hg ht _)⟩⟩⟩⟩⟩⟩⟩ hX.symm
end Go.Vs
namespace Go.Vs
set_option maxRecDepth 100000
def ir27 : J :=
  .seq (.reg none [⟨(some 2), none, .box (.t 0)⟩,
     ⟨(some 3), none, .box (.t 1)⟩,
     ⟨(some 4), none, .mv (.k (V.b false))⟩] [2, 3])
  (.seq (.seq (.reg none [⟨(some 5), none, .fa 0 (.t 2)⟩,
      ⟨(some 6), none, .ld true 3 (.t 5)⟩,
      ⟨(some 7), none, .fa 0 (.t 3)⟩,
      ⟨(some 8), none, .ld true 3 (.t 7)⟩,
      ⟨(some 9), none, .call 32 true [(.t 6), (.t 8)]⟩,
      ⟨(some 10), none, .not (.t 9)⟩] [2, 3, 10])
   (.cond (.t 10)
    (.seq (.reg none [⟨(some 4), none, .mv (.k (V.b false))⟩] [4])
     (.ret))
    (.skip)))
  (.seq (.seq (.reg none [⟨(some 11), none, .fa 3 (.t 2)⟩,
      ⟨(some 12), none, .ld false 1 (.t 11)⟩,
      ⟨(some 13), none, .fa 3 (.t 3)⟩,
      ⟨(some 14), none, .ld false 1 (.t 13)⟩,
      ⟨(some 15), none, .call 76 true [(.t 12), (.t 14)]⟩,
      ⟨(some 16), none, .not (.t 15)⟩] [2, 3, 16])
   (.cond (.t 16)
    (.seq (.reg none [⟨(some 4), none, .mv (.k (V.b false))⟩] [4])
     (.ret))
    (.skip)))
  (.seq (.seq (.reg none [⟨(some 17), none, .fa 4 (.t 2)⟩,
      ⟨(some 18), none, .ld false 1 (.t 17)⟩,
      ⟨(some 19), none, .fa 4 (.t 3)⟩,
      ⟨(some 20), none, .ld false 1 (.t 19)⟩,
      ⟨(some 21), none, .call 49 true [(.t 18), (.t 20)]⟩,
      ⟨(some 22), none, .not (.t 21)⟩] [2, 3, 22])
   (.cond (.t 22)
    (.seq (.reg none [⟨(some 4), none, .mv (.k (V.b false))⟩] [4])
     (.ret))
    (.skip)))
  (.seq (.seq (.reg none [⟨(some 23), none, .fa 5 (.t 2)⟩,
      ⟨(some 24), none, .ld false 1 (.t 23)⟩,
      ⟨(some 25), none, .fa 5 (.t 3)⟩,
      ⟨(some 26), none, .ld false 1 (.t 25)⟩,
      ⟨(some 27), none, .call 50 true [(.t 24), (.t 26)]⟩,
      ⟨(some 28), none, .not (.t 27)⟩] [2, 3, 28])
   (.cond (.t 28)
    (.seq (.reg none [⟨(some 4), none, .mv (.k (V.b false))⟩] [4])
     (.ret))
    (.skip)))
  (.seq (.seq (.reg none [⟨(some 29), none, .fa 6 (.t 2)⟩,
      ⟨(some 30), none, .ld false 1 (.t 29)⟩,
      ⟨(some 31), none, .fa 6 (.t 3)⟩,
      ⟨(some 32), none, .ld false 1 (.t 31)⟩,
      ⟨(some 33), none, .bin .neq .i (.t 30) (.t 32)⟩] [2, 3, 33])
   (.cond (.t 33)
    (.seq (.reg none [⟨(some 4), none, .mv (.k (V.b false))⟩] [4])
     (.ret))
    (.skip)))
  (.seq (.seq (.reg none [⟨(some 34), none, .fa 7 (.t 2)⟩,
      ⟨(some 35), none, .ld false 1 (.t 34)⟩,
      ⟨(some 36), none, .fa 7 (.t 3)⟩,
      ⟨(some 37), none, .ld false 1 (.t 36)⟩,
      ⟨(some 38), none, .call 77 true [(.t 35), (.t 37)]⟩,
      ⟨(some 39), none, .not (.t 38)⟩] [2, 3, 39])
   (.cond (.t 39)
    (.seq (.reg none [⟨(some 4), none, .mv (.k (V.b false))⟩] [4])
     (.ret))
    (.skip)))
  (.seq (.seq (.reg none [⟨(some 40), none, .fa 8 (.t 2)⟩,
      ⟨(some 41), none, .ld false 1 (.t 40)⟩,
      ⟨(some 42), none, .fa 8 (.t 3)⟩,
      ⟨(some 43), none, .ld false 1 (.t 42)⟩,
      ⟨(some 44), none, .call 48 true [(.t 41), (.t 43)]⟩,
      ⟨(some 45), none, .not (.t 44)⟩] [2, 3, 45])
   (.cond (.t 45)
    (.seq (.reg none [⟨(some 4), none, .mv (.k (V.b false))⟩] [4])
     (.ret))
    (.skip)))
  (.seq (.seq (.reg none [⟨(some 46), none, .fa 9 (.t 2)⟩,
      ⟨(some 47), none, .ld false 1 (.t 46)⟩,
      ⟨(some 48), none, .fa 9 (.t 3)⟩,
      ⟨(some 49), none, .ld false 1 (.t 48)⟩,
      ⟨(some 50), none, .bin .neq .i (.t 47) (.t 49)⟩] [50])
   (.cond (.t 50)
    (.seq (.reg none [⟨(some 4), none, .mv (.k (V.b false))⟩] [4])
     (.ret))
    (.skip)))
  (.seq (.reg none [⟨(some 4), none, .mv (.k (V.b true))⟩] [4])
  (.ret))))))))))
def rv27 : List RV := [.t 4]
open Go.Proofs Go.IntWalk
set_option linter.unusedVariables false
set_option maxRecDepth 100000
set_option maxHeartbeats 4000000
def L_eqWorld (g : G) (t : TE) (a0 : World) (a1 : World) : Option Bool :=
  cl (L_eqNetwork g t (Network.mk a0.Network.Legs a0.Network.Off a0.Network.Change) (Network.mk a1.Network.Legs a1.Network.Off a1.Network.Change)) fun x1 =>
  br x1
  (
   cl (L_eqOrderS g t a0.Orders a1.Orders) fun x2 =>
   br x2
   (
    cl (L_eqBookingS g t a0.Bookings a1.Bookings) fun x3 =>
    br x3
    (
     cl (L_eqTripS g t a0.Closed a1.Closed) fun x4 =>
     br x4
     (
      br (g.eq a0.Now a1.Now)
      (
       cl (L_eqScanS g t a0.Scans a1.Scans) fun x5 =>
       br x5
       (
        cl (L_eqIntS g t a0.Skip a1.Skip) fun x6 =>
        br x6
        (
         br (g.eq a0.Made a1.Made)
         (
          some true)
         (
          some false))
        (
         some false))
       (
        some false))
      (
       some false))
     (
      some false))
    (
     some false))
   (
    some false))
  (
   some false)
theorem fit27 : codeFit Try.prog Try.f27.ntmps (Try.f27.body.getD .skip) ir27 = true := by kernel_rfl
theorem c_L_eqWorld {g : G} {t : TE} {a0 : World} {a1 : World} {r : Bool} (hg : g = G.real) (ht : t = TE.real) (h : L_eqWorld g t a0 a1 = some r) : Fn Try.prog 27 [.g (World.rs t a0), .g (World.rs t a1)] (.c (.r (.v (.bool r)))) := by
  obtain ⟨X, hX⟩ := hide (.c (.r (.v (.bool r))) : X)
  rw [← hX]
  refine fn_of (rvs := rv27) (j := ir27) Try.func27 rfl fit27 (Nat.le_of_ble_eq_true rfl) (by kernel_rfl) prog_mixed ?_
  intro g2 F hg2 hF
  obtain rfl : g2 = g := hg2.unique.trans hg.symm
  clear hg2
  obtain ⟨wrap, lt, le, eq, quo, rem, band, bor, bxor, shl, shr, nat, int, add, sub, mul, cat, seq, slt, sub3, byte, llen, nadd, nsub, dlen, dapp, dset, drep, rd, rda, up, rsub, dsub, all, sle, slen⟩ := g2
  obtain ⟨r_S, d_S, r_Trip, d_Trip, r_Leg, d_Leg, r_I64, d_I64, r_Order, d_Order, r_Booking, d_Booking, r_Scan, d_Scan, r_U8, d_U8, r_LI64, d_LI64⟩ := t
  obtain ⟨⟨a0_Network_Legs, a0_Network_Off, a0_Network_Change⟩, a0_Orders, a0_Bookings, a0_Closed, a0_Now, a0_Scans, a0_Skip, a0_Made⟩ := a0
  obtain ⟨⟨a1_Network_Legs, a1_Network_Off, a1_Network_Change⟩, a1_Orders, a1_Bookings, a1_Closed, a1_Now, a1_Scans, a1_Skip, a1_Made⟩ := a1
  unfold L_eqWorld at h
  try dsimp only at h
  cbv
  obtain ⟨x1, hx1, h⟩ := of_cl h
  try dsimp only at h
  refine ACall.mk _ _ rfl (hF _ _ _ (c_L_eqNetwork hg ht hx1)) (.inl rfl) (Nat.le_of_ble_eq_true rfl) ?_
  cbv
  cases hb1 : x1 with
  | true =>
    rw [br_true hb1] at h
    cbv
    obtain ⟨x2, hx2, h⟩ := of_cl h
    try dsimp only at h
    refine ACall.mk _ _ rfl (hF _ _ _ (c_L_eqOrderS hg ht hx2)) (.inl rfl) (Nat.le_of_ble_eq_true rfl) ?_
    cbv
    cases hb2 : x2 with
    | true =>
      rw [br_true hb2] at h
      cbv
      obtain ⟨x3, hx3, h⟩ := of_cl h
      try dsimp only at h
      refine ACall.mk _ _ rfl (hF _ _ _ (c_L_eqBookingS hg ht hx3)) (.inl rfl) (Nat.le_of_ble_eq_true rfl) ?_
      cbv
      cases hb3 : x3 with
      | true =>
        rw [br_true hb3] at h
        cbv
        obtain ⟨x4, hx4, h⟩ := of_cl h
        try dsimp only at h
        refine ACall.mk _ _ rfl (hF _ _ _ (c_L_eqTripS hg ht hx4)) (.inl rfl) (Nat.le_of_ble_eq_true rfl) ?_
        cbv
        cases hb4 : x4 with
        | true =>
          rw [br_true hb4] at h
          cbv
          cases hb5 : (eq a0_Now a1_Now) with
          | true =>
            rw [br_true hb5] at h
            cbv
            obtain ⟨x5, hx5, h⟩ := of_cl h
            try dsimp only at h
            refine ACall.mk _ _ rfl (hF _ _ _ (c_L_eqScanS hg ht hx5)) (.inl rfl) (Nat.le_of_ble_eq_true rfl) ?_
            cbv
            cases hb6 : x5 with
            | true =>
              rw [br_true hb6] at h
              cbv
              obtain ⟨x6, hx6, h⟩ := of_cl h
              try dsimp only at h
              refine ACall.mk _ _ rfl (hF _ _ _ (c_L_eqIntS hg ht hx6)) (.inl rfl) (Nat.le_of_ble_eq_true rfl) ?_
              cbv
              cases hb7 : x6 with
              | true =>
                rw [br_true hb7] at h
                cbv
                cases hb8 : (eq a0_Made a1_Made) with
                | true =>
                  rw [br_true hb8] at h
                  cbv
                  obtain rfl := Option.some.inj h
                  exact ARet.mk trivial hX.symm
                | false =>
                  rw [br_false hb8] at h
                  cbv
                  obtain rfl := Option.some.inj h
                  exact ARet.mk trivial hX.symm
              | false =>
                rw [br_false hb7] at h
                cbv
                obtain rfl := Option.some.inj h
                exact ARet.mk trivial hX.symm
            | false =>
              rw [br_false hb6] at h
              cbv
              obtain rfl := Option.some.inj h
              exact ARet.mk trivial hX.symm
          | false =>
            rw [br_false hb5] at h
            cbv
            obtain rfl := Option.some.inj h
            exact ARet.mk trivial hX.symm
        | false =>
          rw [br_false hb4] at h
          cbv
          obtain rfl := Option.some.inj h
          exact ARet.mk trivial hX.symm
      | false =>
        rw [br_false hb3] at h
        cbv
        obtain rfl := Option.some.inj h
        exact ARet.mk trivial hX.symm
    | false =>
      rw [br_false hb2] at h
      cbv
      obtain rfl := Option.some.inj h
      exact ARet.mk trivial hX.symm
  | false =>
    rw [br_false hb1] at h
    cbv
    obtain rfl := Option.some.inj h
    exact ARet.mk trivial hX.symm
end Go.Vs
namespace Go.Vs
set_option maxRecDepth 100000
def ir126 : J :=
  .seq (.reg none [⟨(some 3), none, .box (.t 0)⟩,
     ⟨(some 6), none, .mv (.k (V.b false))⟩] [1, 2, 3])
  (.seq (.reg none [⟨(some 7), none, .ld true 3 (.t 3)⟩,
     ⟨(some 8), none, .call 79 true [(.t 7)]⟩,
     ⟨(some 9), none, .mv (.t 8)⟩,
     ⟨(some 10), (some (9, true)), .ld true 3 (.t 3)⟩,
     ⟨(some 11), (some (9, true)), .mv (.t 1)⟩,
     ⟨(some 12), (some (9, true)), .mv (.t 2)⟩,
     ⟨(some 13), (some (9, true)), .call 134 true [(.t 10), (.t 11), (.t 12)]⟩,
     ⟨(some 14), none, .pick (.t 9) (.t 13) (.k (V.b false))⟩,
     ⟨(some 6), none, .mv (.t 14)⟩] [6])
  (.ret))
def rv126 : List RV := [.t 6]
open Go.Proofs Go.IntWalk
set_option linter.unusedVariables false
set_option maxRecDepth 100000
set_option maxHeartbeats 4000000
def S_RunsOn (g : G) (t : TE) (a0 : Network) (a1 : Int) (a2 : Int) : Option Bool :=
  cl (S_IsNetwork g t a0) fun x1 =>
  br x1
  (
   cl (S_l3Runs g t a0 a1 a2) fun x2 =>
   some x2)
  (
   some false)
theorem fit126 : codeFit Try.prog Try.f126.ntmps (Try.f126.body.getD .skip) ir126 = true := by kernel_rfl
theorem c_S_RunsOn {g : G} {t : TE} {a0 : Network} {a1 : Int} {a2 : Int} {r : Bool} (hg : g = G.real) (ht : t = TE.real) (h : S_RunsOn g t a0 a1 a2 = some r) : Fn Try.prog 126 [.g (Network.rs t a0), .c (.v (.int .i64 a1)), .c (.v (.int .i64 a2))] (.c (.r (.v (.bool r)))) := by
  obtain ⟨X, hX⟩ := hide (.c (.r (.v (.bool r))) : X)
  rw [← hX]
  refine fn_of (rvs := rv126) (j := ir126) Try.func126 rfl fit126 (Nat.le_of_ble_eq_true rfl) (by kernel_rfl) prog_mixed ?_
  intro g2 F hg2 hF
  obtain rfl : g2 = g := hg2.unique.trans hg.symm
  clear hg2
  obtain ⟨wrap, lt, le, eq, quo, rem, band, bor, bxor, shl, shr, nat, int, add, sub, mul, cat, seq, slt, sub3, byte, llen, nadd, nsub, dlen, dapp, dset, drep, rd, rda, up, rsub, dsub, all, sle, slen⟩ := g2
  obtain ⟨r_S, d_S, r_Trip, d_Trip, r_Leg, d_Leg, r_I64, d_I64, r_Order, d_Order, r_Booking, d_Booking, r_Scan, d_Scan, r_U8, d_U8, r_LI64, d_LI64⟩ := t
  obtain ⟨a0_Legs, a0_Off, a0_Change⟩ := a0
  unfold S_RunsOn at h
  try dsimp only at h
  cbv
  obtain ⟨x1, hx1, h⟩ := of_cl h
  try dsimp only at h
  refine ACall.mk _ _ rfl (hF _ _ _ (c_S_IsNetwork hg ht hx1)) (.inl rfl) (Nat.le_of_ble_eq_true rfl) ?_
  cbv
  cases hb1 : x1 with
  | true =>
    rw [br_true hb1] at h
    cbv
    try (rw [hb1]; cbv)
    try (rw [hb1]; cbv)
    try (rw [hb1]; cbv)
    obtain ⟨x2, hx2, h⟩ := of_cl h
    try dsimp only at h
    refine ACall.mk _ _ rfl (hF _ _ _ (c_S_l3Runs hg ht hx2)) (.inl rfl) (Nat.le_of_ble_eq_true rfl) ?_
    cbv
    try (rw [hb1]; cbv)
    obtain rfl := Option.some.inj h
    exact ARet.mk trivial hX.symm
  | false =>
    rw [br_false hb1] at h
    cbv
    try (rw [hb1]; cbv)
    try (rw [hb1]; cbv)
    try (rw [hb1]; cbv)
    try (rw [hb1]; cbv)
    obtain rfl := Option.some.inj h
    exact ARet.mk trivial hX.symm
end Go.Vs
namespace Go.Vs
set_option maxRecDepth 100000
def ir91 : J :=
  .seq (.reg none [⟨(some 2), none, .box (.t 0)⟩,
     ⟨(some 3), none, .box (.t 1)⟩,
     ⟨(some 4), none, .mv (.k (V.b false))⟩] [2, 3])
  (.seq (.reg none [⟨(some 5), none, .ld true 3 (.t 2)⟩,
     ⟨(some 6), none, .fa 0 (.t 3)⟩,
     ⟨(some 7), none, .ld false 1 (.t 6)⟩,
     ⟨(some 8), none, .fa 1 (.t 3)⟩,
     ⟨(some 9), none, .ld false 1 (.t 8)⟩,
     ⟨(some 10), none, .call 130 true [(.t 5), (.t 7), (.t 9)]⟩,
     ⟨(some 4), none, .mv (.t 10)⟩] [4])
  (.ret))
def rv91 : List RV := [.t 4]
open Go.Proofs Go.IntWalk
set_option linter.unusedVariables false
set_option maxRecDepth 100000
set_option maxHeartbeats 4000000
def I_IsTrip (g : G) (t : TE) (a0 : Network) (a1 : Trip) : Option Bool :=
  cl (I_RunsOn g t a0 a1.Leg a1.Day) fun x1 =>
  some x1
theorem fit91 : codeFit Try.prog Try.f91.ntmps (Try.f91.body.getD .skip) ir91 = true := by kernel_rfl
theorem c_I_IsTrip {g : G} {t : TE} {a0 : Network} {a1 : Trip} {r : Bool} (hg : g = G.real) (ht : t = TE.real) (h : I_IsTrip g t a0 a1 = some r) : Fn Try.prog 91 [.g (Network.rs t a0), .g (Trip.rs t a1)] (.c (.r (.v (.bool r)))) := by
  obtain ⟨X, hX⟩ := hide (.c (.r (.v (.bool r))) : X)
  rw [← hX]
  refine fn_of (rvs := rv91) (j := ir91) Try.func91 rfl fit91 (Nat.le_of_ble_eq_true rfl) (by kernel_rfl) prog_mixed ?_
  intro g2 F hg2 hF
  obtain rfl : g2 = g := hg2.unique.trans hg.symm
  clear hg2
  obtain ⟨wrap, lt, le, eq, quo, rem, band, bor, bxor, shl, shr, nat, int, add, sub, mul, cat, seq, slt, sub3, byte, llen, nadd, nsub, dlen, dapp, dset, drep, rd, rda, up, rsub, dsub, all, sle, slen⟩ := g2
  obtain ⟨r_S, d_S, r_Trip, d_Trip, r_Leg, d_Leg, r_I64, d_I64, r_Order, d_Order, r_Booking, d_Booking, r_Scan, d_Scan, r_U8, d_U8, r_LI64, d_LI64⟩ := t
  obtain ⟨a0_Legs, a0_Off, a0_Change⟩ := a0
  obtain ⟨a1_Leg, a1_Day⟩ := a1
  unfold I_IsTrip at h
  try dsimp only at h
  cbv
  obtain ⟨x1, hx1, h⟩ := of_cl h
  try dsimp only at h
  refine ACall.mk _ _ rfl (hF _ _ _ (c_I_RunsOn hg ht hx1)) (.inl rfl) (Nat.le_of_ble_eq_true rfl) ?_
  cbv
  obtain rfl := Option.some.inj h
  exact ARet.mk trivial hX.symm
end Go.Vs
namespace Go.Vs
set_option maxRecDepth 100000
def ir97 : J :=
  .seq (.reg none [⟨(some 2), none, .box (.t 0)⟩,
     ⟨(some 4), none, .mv (.k (V.b false))⟩] [1, 2])
  (.seq (.seq (.reg none [⟨(some 8), none, .ld true 3 (.t 2)⟩,
      ⟨(some 9), none, .call 79 true [(.t 8)]⟩,
      ⟨(some 10), none, .not (.t 9)⟩,
      ⟨(some 11), none, .mv (.t 10)⟩,
      ⟨(some 12), (some (11, false)), .mv (.t 1)⟩,
      ⟨(some 13), (some (11, false)), .len false (.t 12)⟩,
      ⟨(some 14), (some (11, false)), .bin .gtr .i (.t 13) (.k (V.i 120))⟩,
      ⟨(some 15), none, .pick (.t 11) (.k (V.b true)) (.t 14)⟩] [1, 2, 15])
   (.cond (.t 15)
    (.seq (.reg none [⟨(some 4), none, .mv (.k (V.b false))⟩] [4])
     (.ret))
    (.skip)))
  (.seq (.seq (.reg none [⟨(some 5), none, .mv (.k (V.i 0))⟩] [1, 2, 5])
   (.bl 0 (.seq (.seq (.reg none [⟨(some 16), none, .mv (.t 5)⟩,
        ⟨(some 17), none, .mv (.t 1)⟩,
        ⟨(some 18), none, .len false (.t 17)⟩,
        ⟨(some 19), none, .bin .lss .i (.t 16) (.t 18)⟩] [1, 2, 5, 19])
     (.cond (.t 19)
      (.skip)
      (.exit 0)))
    (.seq (.block 1 (.seq (.reg none [⟨(some 22), none, .mv (.t 1)⟩,
         ⟨(some 23), none, .mv (.t 5)⟩,
         ⟨(some 24), none, .ia 4 (.t 22) (.t 23)⟩,
         ⟨(some 25), none, .ld true 4 (.t 24)⟩,
         ⟨(some 6), none, .alloc [.r (.v (.int .i64 0)), .r (.v (.int .i64 0)), .r (.v (.int .i64 0)), .r (.v (.int .i64 0))]⟩,
         ⟨none, none, .st 4 (.t 6) (.t 25)⟩] [1, 2, 5, 6])
      (.seq (.reg (some [[], [], [1], [1, 2], [], [4], [4, 5], [0, 1, 2, 3, 4, 5, 6], [0, 1, 2, 3, 4, 5, 6, 7], [0, 1, 2, 3, 4, 5, 6, 7, 8], [0, 1, 2, 3, 4, 5, 6, 7, 8, 9], [0, 1, 2, 3, 4, 5, 6, 7, 8, 9, 10], [0, 1, 2, 3, 4, 5, 6, 7, 8, 9, 10, 11], [0, 1, 2, 3, 4, 5, 6, 7, 8, 9, 10, 11, 12], [0, 1, 2, 3, 4, 5, 6, 7, 8, 9, 10, 11, 12, 13], [0, 1, 2, 3, 4, 5, 6, 7, 8, 9, 10, 11, 12, 13, 14], [0, 1, 2, 3, 4, 5, 6, 7, 8, 9, 10, 11, 12, 13, 14, 15], [0, 1, 2, 3, 4, 5, 6, 7, 8, 9, 10, 11, 12, 13, 14, 15, 16], [0, 1, 2, 3, 4, 5, 6, 7, 8, 9, 10, 11, 12, 13, 14, 15, 16, 17], [0, 1, 2, 3, 4, 5, 6, 7, 8, 9, 10, 11, 12, 13, 14, 15, 16, 17, 18], [0, 1, 2, 3, 4, 5, 6, 7, 8, 9, 10, 11, 12, 13, 14, 15, 16, 17, 18, 19], [0, 1, 2, 3, 4, 5, 6, 7, 8, 9, 10, 11, 12, 13, 14, 15, 16, 17, 18, 19, 20], [0, 1, 2, 3, 4, 5, 6, 7, 8, 9, 10, 11, 12, 13, 14, 15, 16, 17, 18, 19, 20, 21], [0, 1, 2, 3, 4, 5, 6, 7, 8, 9, 10, 11, 12, 13, 14, 15, 16, 17, 18, 19, 20, 21, 22], [0, 1, 2, 3, 4, 5, 6, 7, 8, 9, 10, 11, 12, 13, 14, 15, 16, 17, 18, 19, 20, 21, 22, 23], [0, 1, 2, 3, 4, 5, 6, 7, 8, 9, 10, 11, 12, 13, 14, 15, 16, 17, 18, 19, 20, 21, 22, 23, 24], [0, 1, 2, 3, 4, 5, 6, 7, 8, 9, 10, 11, 12, 13, 14, 15, 16, 17, 18, 19, 20, 21, 22, 23, 24], [0, 1, 2, 3, 4, 5, 6, 7, 8, 9, 10, 11, 12, 13, 14, 15, 16, 17, 18, 19, 20, 21, 22, 23, 24, 26], [0, 1, 2, 3, 4, 5, 6, 7, 8, 9, 10, 11, 12, 13, 14, 15, 16, 17, 18, 19, 20, 21, 22, 23, 24, 25, 26, 27], [0, 1, 2, 3, 4, 5, 6, 7, 8, 9, 10, 11, 12, 13, 14, 15, 16, 17, 18, 19, 20, 21, 22, 23, 24, 25, 26, 27, 28], [0, 1, 2, 3, 4, 5, 6, 7, 8, 9, 10, 11, 12, 13, 14, 15, 16, 17, 18, 19, 20, 21, 22, 23, 24], [0, 1, 2, 3, 4, 5, 6, 7, 8, 9, 10, 11, 12, 13, 14, 15, 16, 17, 18, 19, 20, 21, 22, 23, 24, 25, 26, 27, 28, 29, 30], [0, 1, 2, 3, 4, 5, 6, 7, 8, 9, 10, 11, 12, 13, 14, 15, 16, 17, 18, 19, 20, 21, 22, 23, 24, 25, 26, 27, 28, 29, 30, 31], [0, 1, 2, 3, 4, 5, 6, 7, 8, 9, 10, 11, 12, 13, 14, 15, 16, 17, 18, 19, 20, 21, 22, 23, 24, 25, 26, 27, 28, 29, 30, 31, 32], [0, 1, 2, 3, 4, 5, 6, 7, 8, 9, 10, 11, 12, 13, 14, 15, 16, 17, 18, 19, 20, 21, 22, 23, 24, 25, 26, 27, 28, 29, 30, 31, 32, 33]]) [⟨(some 26), none, .ld true 3 (.t 2)⟩,
         ⟨(some 27), none, .fa 1 (.t 6)⟩,
         ⟨(some 28), none, .fa 0 (.t 27)⟩,
         ⟨(some 29), none, .ld false 1 (.t 28)⟩,
         ⟨(some 30), none, .fa 1 (.t 6)⟩,
         ⟨(some 31), none, .fa 1 (.t 30)⟩,
         ⟨(some 32), none, .ld false 1 (.t 31)⟩,
         ⟨(some 33), none, .call 134 true [(.t 26), (.t 29), (.t 32)]⟩,
         ⟨(some 34), none, .not (.t 33)⟩,
         ⟨(some 35), none, .mv (.t 34)⟩,
         ⟨(some 36), (some (35, false)), .fa 0 (.t 6)⟩,
         ⟨(some 37), (some (35, false)), .ld false 1 (.t 36)⟩,
         ⟨(some 38), (some (35, false)), .call 80 true [(.t 37), (.k (V.i 1)), (.k (V.i 9999))]⟩,
         ⟨(some 39), (some (35, false)), .not (.t 38)⟩,
         ⟨(some 40), none, .pick (.t 35) (.k (V.b true)) (.t 39)⟩,
         ⟨(some 41), none, .mv (.t 40)⟩,
         ⟨(some 42), (some (41, false)), .fa 3 (.t 6)⟩,
         ⟨(some 43), (some (41, false)), .ld false 1 (.t 42)⟩,
         ⟨(some 44), (some (41, false)), .call 80 true [(.t 43), (.k (V.i 1)), (.k (V.i 1000000))]⟩,
         ⟨(some 45), (some (41, false)), .not (.t 44)⟩,
         ⟨(some 46), none, .pick (.t 41) (.k (V.b true)) (.t 45)⟩,
         ⟨(some 47), none, .mv (.t 46)⟩,
         ⟨(some 48), (some (47, false)), .mv (.t 5)⟩,
         ⟨(some 49), (some (47, false)), .bin .gtr .i (.t 48) (.k (V.i 0))⟩,
         ⟨(some 50), (some (47, false)), .mv (.t 49)⟩,
         ⟨(some 51), (some (50, true)), .mv (.t 1)⟩,
         ⟨(some 52), (some (50, true)), .mv (.t 5)⟩,
         ⟨(some 53), (some (50, true)), .bin .sub .i (.t 52) (.k (V.i 1))⟩,
         ⟨(some 54), (some (50, true)), .ia 4 (.t 51) (.t 53)⟩,
         ⟨(some 55), (some (50, true)), .ld true 4 (.t 54)⟩,
         ⟨(some 56), (some (50, true)), .ld true 4 (.t 6)⟩,
         ⟨(some 57), (some (50, true)), .call 135 true [(.t 55), (.t 56)]⟩,
         ⟨(some 58), (some (50, true)), .not (.t 57)⟩,
         ⟨(some 59), (some (47, false)), .pick (.t 50) (.t 58) (.k (V.b false))⟩,
         ⟨(some 60), none, .pick (.t 47) (.k (V.b true)) (.t 59)⟩] [1, 2, 5, 60])
      (.cond (.t 60)
       (.seq (.reg none [⟨(some 4), none, .mv (.k (V.b false))⟩] [4])
        (.ret))
       (.skip)))))
    (.reg none [⟨(some 20), none, .mv (.t 5)⟩,
      ⟨(some 21), none, .bin .add .i (.t 20) (.k (V.i 1))⟩,
      ⟨(some 5), none, .mv (.t 21)⟩] [1, 2, 5])))))
  (.seq (.seq (.reg none [⟨(some 7), none, .mv (.k (V.i 0))⟩] [1, 2, 7])
   (.bl 2 (.seq (.seq (.reg none [⟨(some 61), none, .mv (.t 7)⟩,
        ⟨(some 62), none, .mv (.t 1)⟩,
        ⟨(some 63), none, .len false (.t 62)⟩,
        ⟨(some 64), none, .bin .lss .i (.t 61) (.t 63)⟩] [1, 2, 7, 64])
     (.cond (.t 64)
      (.skip)
      (.exit 2)))
    (.seq (.block 3 (.seq (.reg (some [[], [], [], [1, 2], [1, 2, 3], [1, 2, 3, 4], [0, 1, 2, 3, 4, 5], [], [7], [], [], [9, 10], [9, 10, 11], [9, 10, 11, 12], [9, 10, 11, 12, 13], [7, 8, 9, 10, 11, 12, 13, 14], [7, 8, 9, 10, 11, 12, 13, 14, 15], [7, 8, 9, 10, 11, 12, 13, 14, 15, 16], [0, 1, 2, 3, 4, 5, 6, 7, 8, 9, 10, 11, 12, 13, 14, 15, 16, 17]]) [⟨(some 67), none, .mv (.t 1)⟩,
         ⟨(some 68), none, .mv (.t 1)⟩,
         ⟨(some 69), none, .mv (.t 7)⟩,
         ⟨(some 70), none, .ia 4 (.t 68) (.t 69)⟩,
         ⟨(some 71), none, .fa 1 (.t 70)⟩,
         ⟨(some 72), none, .ld true 2 (.t 71)⟩,
         ⟨(some 73), none, .call 136 true [(.t 67), (.t 72)]⟩,
         ⟨(some 74), none, .fa 0 (.t 2)⟩,
         ⟨(some 75), none, .ld false 1 (.t 74)⟩,
         ⟨(some 76), none, .mv (.t 1)⟩,
         ⟨(some 77), none, .mv (.t 7)⟩,
         ⟨(some 78), none, .ia 4 (.t 76) (.t 77)⟩,
         ⟨(some 79), none, .fa 1 (.t 78)⟩,
         ⟨(some 80), none, .fa 0 (.t 79)⟩,
         ⟨(some 81), none, .ld false 1 (.t 80)⟩,
         ⟨(some 82), none, .ia 6 (.t 75) (.t 81)⟩,
         ⟨(some 83), none, .fa 5 (.t 82)⟩,
         ⟨(some 84), none, .ld false 1 (.t 83)⟩,
         ⟨(some 85), none, .bin .gtr .i (.t 73) (.t 84)⟩] [1, 2, 7, 85])
      (.cond (.t 85)
       (.seq (.reg none [⟨(some 4), none, .mv (.k (V.b false))⟩] [4])
        (.ret))
       (.skip))))
    (.reg none [⟨(some 65), none, .mv (.t 7)⟩,
      ⟨(some 66), none, .bin .add .i (.t 65) (.k (V.i 1))⟩,
      ⟨(some 7), none, .mv (.t 66)⟩] [1, 2, 7])))))
  (.seq (.reg none [⟨(some 4), none, .mv (.k (V.b true))⟩] [4])
  (.ret)))))
def rv97 : List RV := [.t 4]
open Go.Proofs Go.IntWalk
set_option linter.unusedVariables false
set_option maxRecDepth 100000
set_option maxHeartbeats 4000000
def S_AreBookings_l2 (g : G) (t : TE) (a0 : Network) (a1 : List Booking) : List Booking → Option (LR Bool Unit)
  | [] =>
    some (LR.out ())
  | z2 :: ls2 =>
    lP (S_LoadOf g t a1 (Trip.mk z2.Trip.Leg z2.Trip.Day)) fun x7 =>
    gd ((0 ≤ z2.Trip.Leg)) <|
    gt a0.Legs (g.nat z2.Trip.Leg) fun x8 =>
    br (g.lt x8.Room x7)
    (
     some (LR.ret false))
    (
     S_AreBookings_l2 g t a0 a1 ls2)
def S_AreBookings_l1 (g : G) (t : TE) (a0 : Network) (a1 : List Booking) : List Booking → Int → Option (LR Bool Unit)
  | [], v1 =>
    some (LR.out ())
  | z1 :: ls1, v1 =>
    cl (S_l3Runs g t a0 z1.Trip.Leg z1.Trip.Day) fun x2 =>
    br x2
    (
     lP (S_l1In g t z1.Thing 1 9999) fun x3 =>
     br x3
     (
      lP (S_l1In g t z1.Weight 1 1000000) fun x4 =>
      br x4
      (
       br (g.lt 0 v1)
       (
        gd ((0 ≤ (g.wrap .i64 (g.sub v1 1)))) <|
        gt a1 (g.nat (g.wrap .i64 (g.sub v1 1))) fun x5 =>
        lP (S_l6Before g t (Booking.mk x5.Thing (Trip.mk x5.Trip.Leg x5.Trip.Day) x5.Weight) (Booking.mk z1.Thing (Trip.mk z1.Trip.Leg z1.Trip.Day) z1.Weight)) fun x6 =>
        br x6
        (
         S_AreBookings_l1 g t a0 a1 ls1 (g.wrap .i64 (g.add v1 1)))
        (
         some (LR.ret false)))
       (
        S_AreBookings_l1 g t a0 a1 ls1 (g.wrap .i64 (g.add v1 1))))
      (
       some (LR.ret false)))
     (
      some (LR.ret false)))
    (
     some (LR.ret false))
def S_AreBookings (g : G) (t : TE) (a0 : Network) (a1 : List Booking) : Option Bool :=
  cl (S_IsNetwork g t a0) fun x1 =>
  br x1
  (
   br (g.lt 120 (g.llen (t.r_Booking a1)))
   (
    some false)
   (
    cl (S_AreBookings_l1 g t a0 a1 a1 0) fun o1 => lr o1 fun y1 =>
    cl (S_AreBookings_l2 g t a0 a1 a1) fun o2 => lr o2 fun y2 =>
    some true))
  (
   some false)
theorem fit97 : codeFit Try.prog Try.f97.ntmps (Try.f97.body.getD .skip) ir97 = true := by kernel_rfl
theorem c_S_AreBookings {g : G} {t : TE} {a0 : Network} {a1 : List Booking} {r : Bool} (hg : g = G.real) (ht : t = TE.real) (h : S_AreBookings g t a0 a1 = some r) : Fn Try.prog 97 [.g (Network.rs t a0), .c (.s 4 (t.r_Booking a1))] (.c (.r (.v (.bool r)))) := by
  obtain ⟨X, hX⟩ := hide (.c (.r (.v (.bool r))) : X)
  rw [← hX]
  refine fn_of (rvs := rv97) (j := ir97) Try.func97 rfl fit97 (Nat.le_of_ble_eq_true rfl) (by kernel_rfl) prog_mixed ?_
  intro g2 F hg2 hF
  obtain rfl : g2 = g := hg2.unique.trans hg.symm
  clear hg2
  obtain ⟨wrap, lt, le, eq, quo, rem, band, bor, bxor, shl, shr, nat, int, add, sub, mul, cat, seq, slt, sub3, byte, llen, nadd, nsub, dlen, dapp, dset, drep, rd, rda, up, rsub, dsub, all, sle, slen⟩ := g2
  obtain ⟨r_S, d_S, r_Trip, d_Trip, r_Leg, d_Leg, r_I64, d_I64, r_Order, d_Order, r_Booking, d_Booking, r_Scan, d_Scan, r_U8, d_U8, r_LI64, d_LI64⟩ := t
  obtain ⟨a0_Legs, a0_Off, a0_Change⟩ := a0
  unfold S_AreBookings at h
  try dsimp only at h
  cbv
  obtain ⟨x1, hx1, h⟩ := of_cl h
  try dsimp only at h
  refine ACall.mk _ _ rfl (hF _ _ _ (c_S_IsNetwork hg ht hx1)) (.inl rfl) (Nat.le_of_ble_eq_true rfl) ?_
  cbv
  cases hb1 : x1 with
  | true =>
    rw [br_true hb1] at h
    cbv
    try (rw [hb1]; cbv)
    try (rw [hb1]; cbv)
    try (rw [hb1]; cbv)
    cases hb2 : (lt 120 (llen (r_Booking a1))) with
    | true =>
      rw [br_true hb2] at h
      cbv
      obtain rfl := Option.some.inj h
      exact ARet.mk trivial hX.symm
    | false =>
      rw [br_false hb2] at h
      cbv
      obtain ⟨o1, ho1, h⟩ := of_cl h
      try dsimp only at h
      try rw [hg] at ho1
      try rw [ht] at ho1
      refine ABL.mk { p : Nat × Int // p.1 ≤ a1.length ∧ p.2 = ((p.1 : Nat) : Int) ∧ S_AreBookings_l1 G.real TE.real (Network.mk a0_Legs a0_Off a0_Change) a1 (List.drop p.1 a1) p.2 = some o1 } (fun ⟨⟨k1, v1⟩, _⟩ => ({ sl := [(1, .c (.r (.s 4 (r_Booking a1)))), (2, .c (.p 0 3 0 0)), (5, .c (.r (.v (.int .i64 v1))))], tab := [(0, some (.foc 3 [] [.r (.s 6 (r_Leg a0_Legs)), .r (.s 1 (r_I64 a0_Off)), .r (.v (.int .i64 a0_Change))] []))] } : St)) 1 (fun p => a1.length - p.1.1) ⟨(0, 0), Nat.zero_le _, rfl, ho1⟩ (Unit) (fun _ => ({ sl := [(1, .c (.r (.s 4 (r_Booking a1)))), (2, .c (.p 0 3 0 0))], tab := [(0, some (.foc 3 [] [.r (.s 6 (r_Leg a0_Legs)), .r (.s 1 (r_I64 a0_Off)), .r (.v (.int .i64 a0_Change))] []))] } : St)) 1 (fun y => o1 = LR.out y) ?_ ?_ ?_
      · refine Wk.of [(0, some 0)] rfl rfl ?_ ?_
        · cbv
          all_goals exact ⟨⟨_, rfl, rfl⟩, ⟨_, rfl, rfl⟩, ⟨_, rfl, rfl⟩, trivial⟩
        · cbv
          all_goals exact ⟨⟨_, rfl, _, rfl, rfl, rfl, rfl, trivial⟩, trivial⟩
      · rintro ⟨⟨k1, v1⟩, hk1, hi1, h_1⟩ hq1
        have hm1 := (hq1.1 1 _ _ rfl)
        try dsimp only at hk1 hi1 h_1
        clear hq1
        cbv
        by_cases hc1_ : k1 < a1.length
        · have hb3 : lt v1 (llen (r_Booking a1)) = true := ltL_true_Booking hg ht hi1 hc1_
          have hs1 := stepL_Booking hg ht hi1 hc1_ hm1
          obtain ⟨z1, hz1⟩ := some_of_lt hc1_
          rw [drop_of_some hz1] at h_1
          rw [S_AreBookings_l1] at h_1
          obtain ⟨z1_Thing, ⟨z1_Trip_Leg, z1_Trip_Day⟩, z1_Weight⟩ := z1
          try rw [← hg] at h_1
          try rw [← ht] at h_1
          try dsimp only at h_1
          rw [hb3]
          cbv
          refine AStep.mk (nn_L hi1) ?_
          cbv
          refine AGet.mk _ (r_getL_Booking hg ht hi1 hz1) ?_
          cbv
          obtain ⟨x2, hx2, h_1⟩ := of_cl h_1
          try dsimp only at h_1
          refine ACall.mk _ _ rfl (hF _ _ _ (c_S_l3Runs hg ht hx2)) (.inl rfl) (Nat.le_of_ble_eq_true rfl) ?_
          cbv
          cases hb4 : x2 with
          | true =>
            rw [br_true hb4] at h_1
            cbv
            try (rw [hb4]; cbv)
            try (rw [hb4]; cbv)
            obtain ⟨x3, hx3, h_1⟩ := of_lP h_1
            try dsimp only at h_1
            refine ACall.mk _ _ rfl (hF _ _ _ (c_S_l1In hg ht hx3)) (.inl rfl) (Nat.le_of_ble_eq_true rfl) ?_
            cbv
            try (rw [hb4]; cbv)
            try (rw [hb4]; cbv)
            cases hb5 : x3 with
            | true =>
              rw [br_true hb5] at h_1
              cbv
              try (rw [hb5]; cbv)
              try (rw [hb5]; cbv)
              obtain ⟨x4, hx4, h_1⟩ := of_lP h_1
              try dsimp only at h_1
              refine ACall.mk _ _ rfl (hF _ _ _ (c_S_l1In hg ht hx4)) (.inl rfl) (Nat.le_of_ble_eq_true rfl) ?_
              cbv
              try (rw [hb5]; cbv)
              try (rw [hb5]; cbv)
              cases hb6 : x4 with
              | true =>
                rw [br_true hb6] at h_1
                cbv
                try (rw [hb6]; cbv)
                try (rw [hb6]; cbv)
                cases hb7 : (lt 0 v1) with
                | true =>
                  rw [br_true hb7] at h_1
                  cbv
                  try (rw [hb7]; cbv)
                  try (rw [hb7]; cbv)
                  try (rw [hb7]; cbv)
                  obtain ⟨hc1, h_1⟩ := of_gd h_1
                  refine AStep.mk hc1 ?_
                  cbv
                  obtain ⟨x5, hx5, h_1⟩ := of_gt h_1
                  obtain ⟨x5_Thing, ⟨x5_Trip_Leg, x5_Trip_Day⟩, x5_Weight⟩ := x5
                  try dsimp only at h_1
                  refine AGet.mk _ (r_get_Booking hg ht hx5) ?_
                  cbv
                  try (rw [hb7]; cbv)
                  try (rw [hb7]; cbv)
                  try (rw [hb7]; cbv)
                  obtain ⟨x6, hx6, h_1⟩ := of_lP h_1
                  try dsimp only at h_1
                  refine ACall.mk _ _ rfl (hF _ _ _ (c_S_l6Before hg ht hx6)) (.inl rfl) (Nat.le_of_ble_eq_true rfl) ?_
                  cbv
                  try (rw [hb7]; cbv)
                  try (rw [hb6]; cbv)
                  try (rw [hb7]; cbv)
                  try (rw [hb6]; cbv)
                  cases hb8 : x6 with
                  | true =>
                    rw [br_true hb8] at h_1
                    cbv
                    try rw [hg] at h_1
                    try rw [ht] at h_1
                    refine ⟨⟨(k1 + 1, (wrap .i64 (add v1 1))), hc1_, hs1, h_1⟩, Wk.of [(0, some 0)] rfl rfl ?_ ?_, meas_L hc1_⟩
                    · cbv
                      all_goals exact ⟨⟨_, rfl, rfl⟩, ⟨_, rfl, rfl⟩, ⟨_, rfl, rfl⟩, trivial⟩
                    · cbv
                      all_goals exact ⟨⟨_, rfl, _, rfl, rfl, rfl, rfl, trivial⟩, trivial⟩
                  | false =>
                    rw [br_false hb8] at h_1
                    cbv
                    obtain rfl := Option.some.inj h_1
                    try dsimp only [lr, lrL, lrp, lrpL] at h
                    obtain rfl := Option.some.inj h
                    exact ARet.mk trivial hX.symm
                | false =>
                  rw [br_false hb7] at h_1
                  cbv
                  try (rw [hb7]; cbv)
                  try (rw [hb7]; cbv)
                  try (rw [hb7]; cbv)
                  try (rw [hb7]; cbv)
                  try (rw [hb7]; cbv)
                  try (rw [hb7]; cbv)
                  try (rw [hb7]; cbv)
                  try (rw [hb6]; cbv)
                  try (rw [hb7]; cbv)
                  try (rw [hb6]; cbv)
                  try rw [hg] at h_1
                  try rw [ht] at h_1
                  refine ⟨⟨(k1 + 1, (wrap .i64 (add v1 1))), hc1_, hs1, h_1⟩, Wk.of [(0, some 0)] rfl rfl ?_ ?_, meas_L hc1_⟩
                  · cbv
                    all_goals exact ⟨⟨_, rfl, rfl⟩, ⟨_, rfl, rfl⟩, ⟨_, rfl, rfl⟩, trivial⟩
                  · cbv
                    all_goals exact ⟨⟨_, rfl, _, rfl, rfl, rfl, rfl, trivial⟩, trivial⟩
              | false =>
                rw [br_false hb6] at h_1
                cbv
                try (rw [hb6]; cbv)
                try (rw [hb6]; cbv)
                try (rw [hb6]; cbv)
                try (rw [hb6]; cbv)
                obtain rfl := Option.some.inj h_1
                try dsimp only [lr, lrL, lrp, lrpL] at h
                obtain rfl := Option.some.inj h
                exact ARet.mk trivial hX.symm
            | false =>
              rw [br_false hb5] at h_1
              cbv
              try (rw [hb5]; cbv)
              try (rw [hb5]; cbv)
              try (rw [hb5]; cbv)
              try (rw [hb5]; cbv)
              obtain rfl := Option.some.inj h_1
              try dsimp only [lr, lrL, lrp, lrpL] at h
              obtain rfl := Option.some.inj h
              exact ARet.mk trivial hX.symm
          | false =>
            rw [br_false hb4] at h_1
            cbv
            try (rw [hb4]; cbv)
            try (rw [hb4]; cbv)
            try (rw [hb4]; cbv)
            try (rw [hb4]; cbv)
            obtain rfl := Option.some.inj h_1
            try dsimp only [lr, lrL, lrp, lrpL] at h
            obtain rfl := Option.some.inj h
            exact ARet.mk trivial hX.symm
        · have hb3 : lt v1 (llen (r_Booking a1)) = false := ltL_false_Booking hg ht hi1 hc1_
          rw [List.drop_of_length_le (Nat.le_of_not_lt hc1_)] at h_1
          rw [S_AreBookings_l1] at h_1
          try rw [← hg] at h_1
          try rw [← ht] at h_1
          try dsimp only at h_1
          rw [hb3]
          cbv
          refine ⟨(), Wk.of [(0, some 0)] rfl rfl ?_ ?_, (Option.some.inj h_1).symm⟩
          · cbv
            all_goals exact ⟨⟨_, rfl, rfl⟩, ⟨_, rfl, rfl⟩, trivial⟩
          · cbv
            all_goals exact ⟨⟨_, rfl, _, rfl, rfl, rfl, rfl, trivial⟩, trivial⟩
      · rintro _ hy1
        replace hy1 := hy1.symm
        subst hy1
        try dsimp only [lr, lrL, lrp, lrpL] at h
        cbv
        obtain ⟨o2, ho2, h⟩ := of_cl h
        try dsimp only at h
        try rw [hg] at ho2
        try rw [ht] at ho2
        refine ABL.mk { p : Nat × Int // p.1 ≤ a1.length ∧ p.2 = ((p.1 : Nat) : Int) ∧ S_AreBookings_l2 G.real TE.real (Network.mk a0_Legs a0_Off a0_Change) a1 (List.drop p.1 a1) = some o2 } (fun ⟨⟨k2, v2⟩, _⟩ => ({ sl := [(1, .c (.r (.s 4 (r_Booking a1)))), (2, .c (.p 0 3 0 0)), (7, .c (.r (.v (.int .i64 v2))))], tab := [(0, some (.foc 3 [] [.r (.s 6 (r_Leg a0_Legs)), .r (.s 1 (r_I64 a0_Off)), .r (.v (.int .i64 a0_Change))] []))] } : St)) 1 (fun p => a1.length - p.1.1) ⟨(0, 0), Nat.zero_le _, rfl, ho2⟩ (Unit) (fun _ => ({ sl := [], tab := [] } : St)) 0 (fun y => o2 = LR.out y) ?_ ?_ ?_
        · refine Wk.of [(0, some 0)] rfl rfl ?_ ?_
          · cbv
            all_goals exact ⟨⟨_, rfl, rfl⟩, ⟨_, rfl, rfl⟩, ⟨_, rfl, rfl⟩, trivial⟩
          · cbv
            all_goals exact ⟨⟨_, rfl, _, rfl, rfl, rfl, rfl, trivial⟩, trivial⟩
        · rintro ⟨⟨k2, v2⟩, hk2, hi2, h_2⟩ hq2
          have hm2 := (hq2.1 1 _ _ rfl)
          try dsimp only at hk2 hi2 h_2
          clear hq2
          cbv
          by_cases hc2_ : k2 < a1.length
          · have hb9 : lt v2 (llen (r_Booking a1)) = true := ltL_true_Booking hg ht hi2 hc2_
            have hs2 := stepL_Booking hg ht hi2 hc2_ hm2
            obtain ⟨z2, hz2⟩ := some_of_lt hc2_
            rw [drop_of_some hz2] at h_2
            rw [S_AreBookings_l2] at h_2
            obtain ⟨z2_Thing, ⟨z2_Trip_Leg, z2_Trip_Day⟩, z2_Weight⟩ := z2
            try rw [← hg] at h_2
            try rw [← ht] at h_2
            try dsimp only at h_2
            rw [hb9]
            cbv
            refine AStep.mk (nn_L hi2) ?_
            cbv
            refine AGet.mk _ (r_getL_Booking hg ht hi2 hz2) ?_
            cbv
            obtain ⟨x7, hx7, h_2⟩ := of_lP h_2
            try dsimp only at h_2
            refine ACall.mk _ _ rfl (hF _ _ _ (c_S_LoadOf hg ht hx7)) (.inl rfl) (Nat.le_of_ble_eq_true rfl) ?_
            cbv
            refine AStep.mk (nn_L hi2) ?_
            cbv
            refine AGet.mk _ (r_getL_Booking hg ht hi2 hz2) ?_
            cbv
            obtain ⟨hc2, h_2⟩ := of_gd h_2
            refine AStep.mk hc2 ?_
            cbv
            obtain ⟨x8, hx8, h_2⟩ := of_gt h_2
            obtain ⟨x8_From, x8_To, x8_Start, x8_Takes, x8_Days, x8_Room⟩ := x8
            try dsimp only at h_2
            refine AGet.mk _ (r_get_Leg hg ht hx8) ?_
            cbv
            cases hb10 : (lt x8_Room x7) with
            | true =>
              rw [br_true hb10] at h_2
              cbv
              obtain rfl := Option.some.inj h_2
              try dsimp only [lr, lrL, lrp, lrpL] at h
              obtain rfl := Option.some.inj h
              exact ARet.mk trivial hX.symm
            | false =>
              rw [br_false hb10] at h_2
              cbv
              try rw [hg] at h_2
              try rw [ht] at h_2
              refine ⟨⟨(k2 + 1, (wrap .i64 (add v2 1))), hc2_, hs2, h_2⟩, Wk.of [(0, some 0)] rfl rfl ?_ ?_, meas_L hc2_⟩
              · cbv
                all_goals exact ⟨⟨_, rfl, rfl⟩, ⟨_, rfl, rfl⟩, ⟨_, rfl, rfl⟩, trivial⟩
              · cbv
                all_goals exact ⟨⟨_, rfl, _, rfl, rfl, rfl, rfl, trivial⟩, trivial⟩
          · have hb9 : lt v2 (llen (r_Booking a1)) = false := ltL_false_Booking hg ht hi2 hc2_
            rw [List.drop_of_length_le (Nat.le_of_not_lt hc2_)] at h_2
            rw [S_AreBookings_l2] at h_2
            try rw [← hg] at h_2
            try rw [← ht] at h_2
            try dsimp only at h_2
            rw [hb9]
            cbv
            refine ⟨(), Wk.of [] rfl rfl ?_ ?_, (Option.some.inj h_2).symm⟩
            · cbv
              all_goals exact trivial
            · cbv
              all_goals exact trivial
        · rintro _ hy2
          replace hy2 := hy2.symm
          subst hy2
          try dsimp only [lr, lrL, lrp, lrpL] at h
          cbv
          obtain rfl := Option.some.inj h
          exact ARet.mk trivial hX.symm
  | false =>
    rw [br_false hb1] at h
    cbv
    try (rw [hb1]; cbv)
    try (rw [hb1]; cbv)
    try (rw [hb1]; cbv)
    obtain rfl := Option.some.inj h
    exact ARet.mk trivial hX.symm
end Go.Vs
