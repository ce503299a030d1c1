/- Part of the proofs of this seat's laws: L2a. No condition. -/
import Derived.Test.YtlfbmhmjfffimaaTy
import Derived.Test.YtlfbmhmjfffimaaTIRall
import Derived.Test.YtlfbmhmjfffimaaL1a
import Derived.Test.YtlfbmhmjfffimaaL1b
set_option linter.unusedVariables false
set_option linter.unusedSimpArgs false
set_option linter.unusedSectionVars false
namespace Go.Vs
set_option maxRecDepth 100000
def ir16 : J :=
  .seq (.reg none [⟨(some 1), none, .box (.t 0)⟩,
     ⟨(some 2), none, .alloc [.r (.v (.int .i64 0)), .r (.v (.int .i64 0)), .r (.v (.int .i64 0)), .r (.v (.string .empty)), .r (.v (.int .i64 0)), .r (.v (.int .i64 0))]⟩] [1, 2])
  (.seq (.reg none [⟨(some 3), none, .alloc [.r (.v (.int .i64 0)), .r (.v (.int .i64 0)), .r (.v (.int .i64 0)), .r (.v (.string .empty)), .r (.v (.int .i64 0)), .r (.v (.int .i64 0))]⟩] [1, 2, 3])
  (.seq (.reg none [⟨(some 4), none, .fa 0 (.t 1)⟩,
     ⟨(some 5), none, .ld false 1 (.t 4)⟩,
     ⟨(some 6), none, .fa 0 (.t 3)⟩,
     ⟨none, none, .st 1 (.t 6) (.t 5)⟩] [1, 2, 3])
  (.seq (.reg none [⟨(some 7), none, .fa 1 (.t 1)⟩,
     ⟨(some 8), none, .ld false 1 (.t 7)⟩,
     ⟨(some 9), none, .fa 1 (.t 3)⟩,
     ⟨none, none, .st 1 (.t 9) (.t 8)⟩] [1, 2, 3])
  (.seq (.reg none [⟨(some 10), none, .fa 2 (.t 1)⟩,
     ⟨(some 11), none, .ld false 1 (.t 10)⟩,
     ⟨(some 12), none, .fa 2 (.t 3)⟩,
     ⟨none, none, .st 1 (.t 12) (.t 11)⟩] [1, 2, 3])
  (.seq (.reg none [⟨(some 13), none, .fa 3 (.t 1)⟩,
     ⟨(some 14), none, .ld false 1 (.t 13)⟩,
     ⟨(some 15), none, .fa 3 (.t 3)⟩,
     ⟨none, none, .st 1 (.t 15) (.t 14)⟩] [1, 2, 3])
  (.seq (.reg none [⟨(some 16), none, .fa 4 (.t 1)⟩,
     ⟨(some 17), none, .ld true 2 (.t 16)⟩,
     ⟨(some 18), none, .call 63 true [(.t 17)]⟩,
     ⟨(some 19), none, .fa 4 (.t 3)⟩,
     ⟨none, none, .st 2 (.t 19) (.t 18)⟩] [2, 3])
  (.seq (.reg none [⟨(some 20), none, .ld true 6 (.t 3)⟩,
     ⟨none, none, .st 6 (.t 2) (.t 20)⟩] [2])
  (.ret))))))))
def rv16 : List RV := [.c 2 true 6]
open Go.Proofs Go.IntWalk
set_option linter.unusedVariables false
set_option maxRecDepth 100000
set_option maxHeartbeats 4000000
def L_toScan (g : G) (t : TE) (a0 : Scan) : Scan :=
  lP (L_toTrip g t (Trip.mk a0.Trip.Leg a0.Trip.Day)) fun x1 =>
  (Scan.mk a0.Thing a0.At a0.Kind a0.Place x1)
theorem fit16 : codeFit Try.prog Try.f16.ntmps (Try.f16.body.getD .skip) ir16 = true := by kernel_rfl
theorem c_L_toScan {g : G} {t : TE} {a0 : Scan} {r : Scan} (hg : g = G.real) (ht : t = TE.real) (h : L_toScan g t a0 = r) : Fn Try.prog 16 [.g (Scan.rs t a0)] (.g (Scan.ds t r)) := by
  obtain ⟨X, hX⟩ := hide (.g (Scan.ds t r) : X)
  rw [← hX]
  refine fn_of (rvs := rv16) (j := ir16) Try.func16 rfl fit16 (Nat.le_of_ble_eq_true rfl) (by kernel_rfl) prog_mixed ?_
  intro g2 F hg2 hF
  obtain rfl : g2 = g := hg2.unique.trans hg.symm
  clear hg2
  obtain ⟨wrap, lt, le, eq, quo, rem, band, bor, bxor, shl, shr, nat, int, add, sub, mul, cat, seq, slt, sub3, byte, llen, nadd, nsub, dlen, dapp, dset, drep, rd, rda, up, rsub, dsub, all, sle, slen⟩ := g2
  obtain ⟨r_S, d_S, r_Trip, d_Trip, r_Leg, d_Leg, r_I64, d_I64, r_Order, d_Order, r_Booking, d_Booking, r_Scan, d_Scan, r_U8, d_U8, r_LI64, d_LI64⟩ := t
  obtain ⟨a0_Thing, a0_At, a0_Kind, a0_Place, ⟨a0_Trip_Leg, a0_Trip_Day⟩⟩ := a0
  unfold L_toScan at h
  try dsimp only at h
  cbv
  obtain ⟨x1, hx1, h⟩ := of_lP h
  obtain ⟨x1_Leg, x1_Day⟩ := x1
  try dsimp only at h
  refine ACall.mk _ _ rfl (hF _ _ _ (c_L_toTrip hg ht hx1)) (.inl rfl) (Nat.le_of_ble_eq_true rfl) ?_
  cbv
  subst h
  exact ARet.mk trivial hX.symm
end Go.Vs
namespace Go.Vs
set_option maxRecDepth 100000
def ir17 : J :=
  .seq (.reg none [⟨(some 2), none, .box (.t 0)⟩,
     ⟨(some 3), none, .box (.t 1)⟩,
     ⟨(some 4), none, .mv (.k (V.i 0))⟩] [2, 3])
  (.seq (.reg (some [[], [0], [], [2], [0, 1, 2, 3], [], [5], [], [7], [0, 1, 2, 3, 4, 5, 6, 7, 8], [], [10], [], [12], [0, 1, 2, 3, 4, 5, 6, 7, 8, 9, 10, 11, 12, 13], [], [15], [15, 16], [], [18], [18, 19], [0, 1, 2, 3, 4, 5, 6, 7, 8, 9, 10, 11, 12, 13, 14, 15, 16, 17, 18, 19, 20], [], [22], [22, 23], [], [25], [25, 26], [0, 1, 2, 3, 4, 5, 6, 7, 8, 9, 10, 11, 12, 13, 14, 15, 16, 17, 18, 19, 20, 21, 22, 23, 24, 25, 26, 27], [], [29], [], [31], [0, 1, 2, 3, 4, 5, 6, 7, 8, 9, 10, 11, 12, 13, 14, 15, 16, 17, 18, 19, 20, 21, 22, 23, 24, 25, 26, 27, 28, 29, 30, 31, 32], [0, 1, 2, 3, 4, 5, 6, 7, 8, 9, 10, 11, 12, 13, 14, 15, 16, 17, 18, 19, 20, 21, 22, 23, 24, 25, 26, 27, 28, 29, 30, 31, 32, 33], [0, 1, 2, 3, 4, 5, 6, 7, 8, 9, 10, 11, 12, 13, 14, 15, 16, 17, 18, 19, 20, 21, 22, 23, 24, 25, 26, 27, 28, 29, 30, 31, 32, 33, 34], [0, 1, 2, 3, 4, 5, 6, 7, 8, 9, 10, 11, 12, 13, 14, 15, 16, 17, 18, 19, 20, 21, 22, 23, 24, 25, 26, 27, 28, 29, 30, 31, 32, 33, 34, 35]]) [⟨(some 5), none, .fa 1 (.t 2)⟩,
     ⟨(some 6), none, .ld false 1 (.t 5)⟩,
     ⟨(some 7), none, .fa 1 (.t 3)⟩,
     ⟨(some 8), none, .ld false 1 (.t 7)⟩,
     ⟨(some 9), none, .call 65 true [(.t 6), (.t 8)]⟩,
     ⟨(some 10), none, .fa 0 (.t 2)⟩,
     ⟨(some 11), none, .ld false 1 (.t 10)⟩,
     ⟨(some 12), none, .fa 0 (.t 3)⟩,
     ⟨(some 13), none, .ld false 1 (.t 12)⟩,
     ⟨(some 14), none, .call 65 true [(.t 11), (.t 13)]⟩,
     ⟨(some 15), none, .fa 2 (.t 2)⟩,
     ⟨(some 16), none, .ld false 1 (.t 15)⟩,
     ⟨(some 17), none, .fa 2 (.t 3)⟩,
     ⟨(some 18), none, .ld false 1 (.t 17)⟩,
     ⟨(some 19), none, .call 65 true [(.t 16), (.t 18)]⟩,
     ⟨(some 20), none, .fa 4 (.t 2)⟩,
     ⟨(some 21), none, .fa 1 (.t 20)⟩,
     ⟨(some 22), none, .ld false 1 (.t 21)⟩,
     ⟨(some 23), none, .fa 4 (.t 3)⟩,
     ⟨(some 24), none, .fa 1 (.t 23)⟩,
     ⟨(some 25), none, .ld false 1 (.t 24)⟩,
     ⟨(some 26), none, .call 65 true [(.t 22), (.t 25)]⟩,
     ⟨(some 27), none, .fa 4 (.t 2)⟩,
     ⟨(some 28), none, .fa 0 (.t 27)⟩,
     ⟨(some 29), none, .ld false 1 (.t 28)⟩,
     ⟨(some 30), none, .fa 4 (.t 3)⟩,
     ⟨(some 31), none, .fa 0 (.t 30)⟩,
     ⟨(some 32), none, .ld false 1 (.t 31)⟩,
     ⟨(some 33), none, .call 65 true [(.t 29), (.t 32)]⟩,
     ⟨(some 34), none, .fa 3 (.t 2)⟩,
     ⟨(some 35), none, .ld false 1 (.t 34)⟩,
     ⟨(some 36), none, .fa 3 (.t 3)⟩,
     ⟨(some 37), none, .ld false 1 (.t 36)⟩,
     ⟨(some 38), none, .call 66 true [(.t 35), (.t 37)]⟩,
     ⟨(some 39), none, .bsl 1 [(.t 9), (.t 14), (.t 19), (.t 26), (.t 33), (.t 38)]⟩,
     ⟨(some 40), none, .call 64 true [(.t 39)]⟩,
     ⟨(some 4), none, .mv (.t 40)⟩] [4])
  (.ret))
def rv17 : List RV := [.t 4]
open Go.Proofs Go.IntWalk
set_option linter.unusedVariables false
set_option maxRecDepth 100000
set_option maxHeartbeats 4000000
def I_CompareScans (g : G) (t : TE) (a0 : Scan) (a1 : Scan) : Int :=
  lP (I_compareInts g t a0.At a1.At) fun x1 =>
  lP (I_compareInts g t a0.Thing a1.Thing) fun x2 =>
  lP (I_compareInts g t a0.Kind a1.Kind) fun x3 =>
  lP (I_compareInts g t a0.Trip.Day a1.Trip.Day) fun x4 =>
  lP (I_compareInts g t a0.Trip.Leg a1.Trip.Leg) fun x5 =>
  lP (X_strings_Compare g t a0.Place a1.Place) fun x6 =>
  lP ([x1, x2, x3, x4, x5, x6]) fun (l1 : List Int) =>
  lP (I_first g t l1) fun x7 =>
  x7
theorem fit17 : codeFit Try.prog Try.f17.ntmps (Try.f17.body.getD .skip) ir17 = true := by kernel_rfl
theorem c_I_CompareScans {g : G} {t : TE} {a0 : Scan} {a1 : Scan} {r : Int} (hg : g = G.real) (ht : t = TE.real) (h : I_CompareScans g t a0 a1 = r) : Fn Try.prog 17 [.g (Scan.rs t a0), .g (Scan.rs t a1)] (.c (.r (.v (.int .i64 r)))) := by
  obtain ⟨X, hX⟩ := hide (.c (.r (.v (.int .i64 r))) : X)
  rw [← hX]
  refine fn_of (rvs := rv17) (j := ir17) Try.func17 rfl fit17 (Nat.le_of_ble_eq_true rfl) (by kernel_rfl) prog_mixed ?_
  intro g2 F hg2 hF
  obtain rfl : g2 = g := hg2.unique.trans hg.symm
  clear hg2
  obtain ⟨wrap, lt, le, eq, quo, rem, band, bor, bxor, shl, shr, nat, int, add, sub, mul, cat, seq, slt, sub3, byte, llen, nadd, nsub, dlen, dapp, dset, drep, rd, rda, up, rsub, dsub, all, sle, slen⟩ := g2
  obtain ⟨r_S, d_S, r_Trip, d_Trip, r_Leg, d_Leg, r_I64, d_I64, r_Order, d_Order, r_Booking, d_Booking, r_Scan, d_Scan, r_U8, d_U8, r_LI64, d_LI64⟩ := t
  obtain ⟨a0_Thing, a0_At, a0_Kind, a0_Place, ⟨a0_Trip_Leg, a0_Trip_Day⟩⟩ := a0
  obtain ⟨a1_Thing, a1_At, a1_Kind, a1_Place, ⟨a1_Trip_Leg, a1_Trip_Day⟩⟩ := a1
  unfold I_CompareScans at h
  try dsimp only at h
  cbv
  obtain ⟨x1, hx1, h⟩ := of_lP h
  try dsimp only at h
  refine ACall.mk _ _ rfl (hF _ _ _ (c_I_compareInts hg ht hx1)) (.inl rfl) (Nat.le_of_ble_eq_true rfl) ?_
  cbv
  obtain ⟨x2, hx2, h⟩ := of_lP h
  try dsimp only at h
  refine ACall.mk _ _ rfl (hF _ _ _ (c_I_compareInts hg ht hx2)) (.inl rfl) (Nat.le_of_ble_eq_true rfl) ?_
  cbv
  obtain ⟨x3, hx3, h⟩ := of_lP h
  try dsimp only at h
  refine ACall.mk _ _ rfl (hF _ _ _ (c_I_compareInts hg ht hx3)) (.inl rfl) (Nat.le_of_ble_eq_true rfl) ?_
  cbv
  obtain ⟨x4, hx4, h⟩ := of_lP h
  try dsimp only at h
  refine ACall.mk _ _ rfl (hF _ _ _ (c_I_compareInts hg ht hx4)) (.inl rfl) (Nat.le_of_ble_eq_true rfl) ?_
  cbv
  obtain ⟨x5, hx5, h⟩ := of_lP h
  try dsimp only at h
  refine ACall.mk _ _ rfl (hF _ _ _ (c_I_compareInts hg ht hx5)) (.inl rfl) (Nat.le_of_ble_eq_true rfl) ?_
  cbv
  obtain ⟨x6, hx6, h⟩ := of_lP h
  try dsimp only at h
  refine ACall.mk _ _ rfl (hF _ _ _ (c_X_strings_Compare hg ht hx6)) (.inl rfl) (Nat.le_of_ble_eq_true rfl) ?_
  cbv
  obtain ⟨l1, hl1, h⟩ := of_lP h
  try dsimp only at h
  refine ANew.mk (d_I64 l1) (dlen (d_I64 l1)) (by rw [← hl1]; exact lit_I64 hg ht [x1, x2, x3, x4, x5, x6]) (by rw [← hl1]; exact litn_I64 hg ht [x1, x2, x3, x4, x5, x6]) ?_
  cbv
  refine AStep.mk (lend_I64 ht (dlen_I64 hg ht _)) ?_
  cbv
  obtain ⟨x7, hx7, h⟩ := of_lP h
  try dsimp only at h
  refine ACall.mk _ _ (by rw [show rd (d_I64 l1) 0 (dlen (d_I64 l1)) = r_I64 l1 from rdw_I64 hg ht (dlen_I64 hg ht _)]; try rfl) (hF _ _ _ (c_I_first hg ht hx7)) (.inr rfl) (Nat.le_of_ble_eq_true rfl) ?_
  cbv
  subst h
  exact ARet.mk trivial hX.symm
end Go.Vs
namespace Go.Vs
set_option maxRecDepth 100000
def ir18 : J :=
  .seq (.reg none [⟨(some 2), none, .box (.t 0)⟩,
     ⟨(some 4), none, .mv (.k (V.i 0))⟩] [1, 2])
  (.seq (.reg none [⟨(some 5), none, .fa 0 (.t 2)⟩,
     ⟨(some 6), none, .ld false 1 (.t 5)⟩,
     ⟨(some 7), none, .mv (.t 1)⟩,
     ⟨(some 8), none, .call 67 true [(.t 6), (.t 7)]⟩,
     ⟨(some 1), none, .mv (.t 8)⟩] [1, 2])
  (.seq (.seq (.reg none [⟨(some 9), none, .mv (.t 1)⟩,
      ⟨(some 10), none, .bin .lss .i (.t 9) (.k (V.i 0))⟩] [1, 2, 10])
   (.cond (.t 10)
    (.seq (.reg none [⟨(some 4), none, .mv (.k (V.i (-1)))⟩] [4])
     (.ret))
    (.skip)))
  (.seq (.reg none [⟨(some 11), none, .fa 1 (.t 2)⟩,
     ⟨(some 12), none, .ld false 1 (.t 11)⟩,
     ⟨(some 13), none, .mv (.t 1)⟩,
     ⟨(some 14), none, .call 43 true [(.t 12), (.t 13)]⟩,
     ⟨(some 1), none, .mv (.t 14)⟩] [1])
  (.seq (.seq (.reg none [⟨(some 15), none, .mv (.t 1)⟩,
      ⟨(some 16), none, .bin .lss .i (.t 15) (.k (V.i 0))⟩] [1, 16])
   (.cond (.t 16)
    (.seq (.reg none [⟨(some 4), none, .mv (.k (V.i (-1)))⟩] [4])
     (.ret))
    (.skip)))
  (.seq (.reg none [⟨(some 17), none, .mv (.t 1)⟩,
     ⟨(some 4), none, .mv (.t 17)⟩] [4])
  (.ret))))))
def rv18 : List RV := [.t 4]
open Go.Proofs Go.IntWalk
set_option linter.unusedVariables false
set_option maxRecDepth 100000
set_option maxHeartbeats 4000000
def L_szBelief (g : G) (t : TE) (a0 : Belief) (a1 : Int) : Int :=
  lP (L_szStringS g t a0.Places a1) fun x1 =>
  br (g.lt x1 0)
  (
   (-1))
  (
   lP (L_szTripS g t a0.Rides x1) fun x2 =>
   br (g.lt x2 0)
   (
    (-1))
   (
    x2))
theorem fit18 : codeFit Try.prog Try.f18.ntmps (Try.f18.body.getD .skip) ir18 = true := by kernel_rfl
theorem c_L_szBelief {g : G} {t : TE} {a0 : Belief} {a1 : Int} {r : Int} (hg : g = G.real) (ht : t = TE.real) (h : L_szBelief g t a0 a1 = r) : Fn Try.prog 18 [.g (Belief.rs t a0), .c (.v (.int .i64 a1))] (.c (.r (.v (.int .i64 r)))) := by
  obtain ⟨X, hX⟩ := hide (.c (.r (.v (.int .i64 r))) : X)
  rw [← hX]
  refine fn_of (rvs := rv18) (j := ir18) Try.func18 rfl fit18 (Nat.le_of_ble_eq_true rfl) (by kernel_rfl) prog_mixed ?_
  intro g2 F hg2 hF
  obtain rfl : g2 = g := hg2.unique.trans hg.symm
  clear hg2
  obtain ⟨wrap, lt, le, eq, quo, rem, band, bor, bxor, shl, shr, nat, int, add, sub, mul, cat, seq, slt, sub3, byte, llen, nadd, nsub, dlen, dapp, dset, drep, rd, rda, up, rsub, dsub, all, sle, slen⟩ := g2
  obtain ⟨r_S, d_S, r_Trip, d_Trip, r_Leg, d_Leg, r_I64, d_I64, r_Order, d_Order, r_Booking, d_Booking, r_Scan, d_Scan, r_U8, d_U8, r_LI64, d_LI64⟩ := t
  obtain ⟨a0_Places, a0_Rides⟩ := a0
  unfold L_szBelief at h
  try dsimp only at h
  cbv
  obtain ⟨x1, hx1, h⟩ := of_lP h
  try dsimp only at h
  refine ACall.mk _ _ rfl (hF _ _ _ (c_L_szStringS hg ht hx1)) (.inl rfl) (Nat.le_of_ble_eq_true rfl) ?_
  cbv
  cases hb1 : (lt x1 0) with
  | true =>
    rw [br_true hb1] at h
    cbv
    subst h
    exact ARet.mk trivial hX.symm
  | false =>
    rw [br_false hb1] at h
    cbv
    obtain ⟨x2, hx2, h⟩ := of_lP h
    try dsimp only at h
    refine ACall.mk _ _ rfl (hF _ _ _ (c_L_szTripS hg ht hx2)) (.inl rfl) (Nat.le_of_ble_eq_true rfl) ?_
    cbv
    cases hb2 : (lt x2 0) with
    | true =>
      rw [br_true hb2] at h
      cbv
      subst h
      exact ARet.mk trivial hX.symm
    | false =>
      rw [br_false hb2] at h
      cbv
      subst h
      exact ARet.mk trivial hX.symm
end Go.Vs
namespace Go.Vs
set_option maxRecDepth 100000
def ir46 : J :=
  .seq (.reg none [⟨(some 2), none, .mv (.k (.c (.n 2)))⟩] [0])
  (.seq (.reg none [⟨(some 5), none, .mv (.t 0)⟩,
     ⟨(some 6), none, .len false (.t 5)⟩,
     ⟨(some 7), none, .mk 2 16 [.r (.v (.int .i64 0)), .r (.v (.int .i64 0))] (.t 6)⟩,
     ⟨(some 3), none, .mv (.t 7)⟩] [0, 3])
  (.seq (.seq (.reg none [⟨(some 4), none, .mv (.k (V.i 0))⟩] [0, 3, 4])
   (.bl 0 (.seq (.seq (.reg none [⟨(some 8), none, .mv (.t 4)⟩,
        ⟨(some 9), none, .mv (.t 0)⟩,
        ⟨(some 10), none, .len false (.t 9)⟩,
        ⟨(some 11), none, .bin .lss .i (.t 8) (.t 10)⟩] [0, 3, 4, 11])
     (.cond (.t 11)
      (.skip)
      (.exit 0)))
    (.seq (.block 1 (.reg none [⟨(some 14), none, .mv (.t 3)⟩,
        ⟨(some 15), none, .mv (.t 4)⟩,
        ⟨(some 16), none, .mv (.t 0)⟩,
        ⟨(some 17), none, .mv (.t 4)⟩,
        ⟨(some 18), none, .ia 2 (.t 16) (.t 17)⟩,
        ⟨(some 19), none, .ld true 2 (.t 18)⟩,
        ⟨(some 20), none, .call 63 true [(.t 19)]⟩,
        ⟨(some 21), none, .ia 2 (.t 14) (.t 15)⟩,
        ⟨none, none, .st 2 (.t 21) (.t 20)⟩] [0, 3, 4]))
    (.reg none [⟨(some 12), none, .mv (.t 4)⟩,
      ⟨(some 13), none, .bin .add .i (.t 12) (.k (V.i 1))⟩,
      ⟨(some 4), none, .mv (.t 13)⟩] [0, 3, 4])))))
  (.seq (.reg none [⟨(some 22), none, .mv (.t 3)⟩,
     ⟨(some 2), none, .mv (.t 22)⟩] [2])
  (.ret))))
def rv46 : List RV := [.t 2]
open Go.Proofs Go.IntWalk
set_option linter.unusedVariables false
set_option maxRecDepth 100000
set_option maxHeartbeats 4000000
def L_toTripS_l1 (g : G) (t : TE) : List Trip → Int → List Trip → Option (List Trip)
  | [], v1, w1 =>
    some w1
  | z1 :: ls1, v1, w1 =>
    lP (L_toTrip g t z1) fun x1 =>
    gd ((0 ≤ v1 ∧ v1 < (((g.dlen (t.d_Trip w1)) : Nat) : Int))) <|
    gt w1 (g.nat v1) fun x2 =>
    lP (List.set w1 (g.nat v1) (Trip.mk x1.Leg x1.Day)) fun (l2 : List Trip) =>
    L_toTripS_l1 g t ls1 (g.wrap .i64 (g.add v1 1)) l2
def L_toTripS (g : G) (t : TE) (a0 : List Trip) : Option (List Trip) :=
  gd ((0 ≤ (g.llen (t.r_Trip a0)) ∧ 16 * (g.llen (t.r_Trip a0)) ≤ 70368744177664 ∧ (g.llen (t.r_Trip a0)) ≤ 4611686018427387904)) <|
  lP (List.replicate (g.nat (g.llen (t.r_Trip a0))) (Trip.mk 0 0)) fun (l1 : List Trip) =>
  cl (L_toTripS_l1 g t a0 0 l1) fun y1 =>
  some y1
theorem fit46 : codeFit Try.prog Try.f46.ntmps (Try.f46.body.getD .skip) ir46 = true := by kernel_rfl
theorem c_L_toTripS {g : G} {t : TE} {a0 : List Trip} {r : List Trip} (hg : g = G.real) (ht : t = TE.real) (h : L_toTripS g t a0 = some r) : Fn Try.prog 46 [.c (.s 2 (t.r_Trip a0))] (.c (.o 2 (t.d_Trip r))) := by
  obtain ⟨X, hX⟩ := hide (.c (.o 2 (t.d_Trip r)) : X)
  rw [← hX]
  refine fn_of (rvs := rv46) (j := ir46) Try.func46 rfl fit46 (Nat.le_of_ble_eq_true rfl) (by kernel_rfl) prog_mixed ?_
  intro g2 F hg2 hF
  obtain rfl : g2 = g := hg2.unique.trans hg.symm
  clear hg2
  obtain ⟨wrap, lt, le, eq, quo, rem, band, bor, bxor, shl, shr, nat, int, add, sub, mul, cat, seq, slt, sub3, byte, llen, nadd, nsub, dlen, dapp, dset, drep, rd, rda, up, rsub, dsub, all, sle, slen⟩ := g2
  obtain ⟨r_S, d_S, r_Trip, d_Trip, r_Leg, d_Leg, r_I64, d_I64, r_Order, d_Order, r_Booking, d_Booking, r_Scan, d_Scan, r_U8, d_U8, r_LI64, d_LI64⟩ := t
  unfold L_toTripS at h
  try dsimp only at h
  cbv
  obtain ⟨hc2, h⟩ := of_gd h
  refine AStep.mk (mk_ok hc2) ?_
  cbv
  obtain ⟨l1, hl1, h⟩ := of_lP h
  try dsimp only at h
  refine ANew.mk (d_Trip l1) (dlen (d_Trip l1)) (by rw [← hl1]; exact drep_Trip hg ht _ (Trip.mk 0 0)) (by rw [← hl1]; exact drepn_Trip hg ht _ (Trip.mk 0 0)) ?_
  cbv
  obtain ⟨o1, ho1, h⟩ := of_cl h
  try dsimp only at h
  try rw [hg] at ho1
  try rw [ht] at ho1
  refine ABL.mk { p : Nat × Int × List Trip // p.1 ≤ a0.length ∧ p.2.1 = ((p.1 : Nat) : Int) ∧ L_toTripS_l1 G.real TE.real (List.drop p.1 a0) p.2.1 p.2.2 = some o1 } (fun ⟨⟨k1, v1, w1⟩, _⟩ => ({ sl := [(0, .c (.r (.s 2 (r_Trip a0)))), (3, .c (.f 0 2 0 (dlen (d_Trip w1)))), (4, .c (.r (.v (.int .i64 v1))))], tab := [(0, some (.arr 2 (d_Trip w1)))] } : St)) 1 (fun p => a0.length - p.1.1) ⟨(0, 0, l1), Nat.zero_le _, rfl, ho1⟩ (List Trip) (fun y1 => ({ sl := [(3, .c (.f 0 2 0 (dlen (d_Trip y1))))], tab := [(0, some (.arr 2 (d_Trip y1)))] } : St)) 1 (fun y => o1 = y) ?_ ?_ ?_
  · refine Wk.of [(0, some 48)] rfl rfl ?_ ?_
    · cbv
      all_goals exact ⟨⟨_, rfl, rfl⟩, ⟨_, rfl, rfl⟩, ⟨_, rfl, rfl⟩, trivial⟩
    · cbv
      all_goals exact ⟨⟨_, rfl, rfl⟩, trivial⟩
  · rintro ⟨⟨k1, v1, w1⟩, hk1, hi1, h_1⟩ hq1
    have hm1 := (hq1.1 0 _ _ rfl)
    try dsimp only at hk1 hi1 h_1
    clear hq1
    cbv
    by_cases hc1_ : k1 < a0.length
    · have hb1 : lt v1 (llen (r_Trip a0)) = true := ltL_true_Trip hg ht hi1 hc1_
      have hs1 := stepL_Trip hg ht hi1 hc1_ hm1
      obtain ⟨z1, hz1⟩ := some_of_lt hc1_
      rw [drop_of_some hz1] at h_1
      rw [L_toTripS_l1] at h_1
      obtain ⟨z1_Leg, z1_Day⟩ := z1
      try rw [← hg] at h_1
      try rw [← ht] at h_1
      try dsimp only at h_1
      rw [hb1]
      cbv
      refine AStep.mk (nn_L hi1) ?_
      cbv
      refine AGet.mk _ (r_getL_Trip hg ht hi1 hz1) ?_
      cbv
      obtain ⟨x1, hx1, h_1⟩ := of_lP h_1
      obtain ⟨x1_Leg, x1_Day⟩ := x1
      try dsimp only at h_1
      refine ACall.mk _ _ rfl (hF _ _ _ (c_L_toTrip hg ht hx1)) (.inl rfl) (Nat.le_of_ble_eq_true rfl) ?_
      cbv
      obtain ⟨hc1, h_1⟩ := of_gd h_1
      refine AStep.mk hc1 ?_
      cbv
      obtain ⟨x2, hx2, h_1⟩ := of_gt h_1
      obtain ⟨x2_Leg, x2_Day⟩ := x2
      try dsimp only at h_1
      refine AGet.mk _ (d_get_Trip hg ht hx2) ?_
      cbv
      obtain ⟨l2, hl2, h_1⟩ := of_lP h_1
      try dsimp only at h_1
      refine ANew.mk (d_Trip l2) _ (by rw [← hl2]; exact dset_Trip hg ht _ _ (Trip.mk x1_Leg x1_Day)) rfl ?_
      have hnl2 : (dlen (d_Trip w1)) = (d_Trip l2).length := (by rw [← hl2, dsetl_Trip ht]; exact (dlen_Trip hg ht _))
      cbv
      try rw [hg] at h_1
      try rw [ht] at h_1
      refine ⟨⟨(k1 + 1, (wrap .i64 (add v1 1)), l2), hc1_, hs1, h_1⟩, Wk.of [(0, some 0)] rfl rfl ?_ ?_, meas_L hc1_⟩
      · cbv
        all_goals try rw [show (dlen (d_Trip w1)) = (dlen (d_Trip l2)) from (hnl2).trans (dlen_Trip hg ht _).symm]
        all_goals exact ⟨⟨_, rfl, rfl⟩, ⟨_, rfl, rfl⟩, ⟨_, rfl, rfl⟩, trivial⟩
      · cbv
        all_goals try rw [show (dlen (d_Trip w1)) = (dlen (d_Trip l2)) from (hnl2).trans (dlen_Trip hg ht _).symm]
        all_goals exact ⟨⟨_, rfl, rfl⟩, trivial⟩
    · have hb1 : lt v1 (llen (r_Trip a0)) = false := ltL_false_Trip hg ht hi1 hc1_
      rw [List.drop_of_length_le (Nat.le_of_not_lt hc1_)] at h_1
      rw [L_toTripS_l1] at h_1
      try rw [← hg] at h_1
      try rw [← ht] at h_1
      try dsimp only at h_1
      rw [hb1]
      cbv
      refine ⟨w1, Wk.of [(0, some 0)] rfl rfl ?_ ?_, (Option.some.inj h_1).symm⟩
      · cbv
        all_goals exact ⟨⟨_, rfl, rfl⟩, trivial⟩
      · cbv
        all_goals exact ⟨⟨_, rfl, rfl⟩, trivial⟩
  · rintro y1 hy1
    replace hy1 := hy1.symm
    subst hy1
    try dsimp only [lr, lrL, lrp, lrpL] at h
    cbv
    obtain rfl := Option.some.inj h
    exact ARet.mk ⟨rfl, (dlen_Trip hg ht _)⟩ hX.symm
end Go.Vs
namespace Go.Vs
set_option maxRecDepth 100000
def ir50 : J :=
  .seq (.reg none [⟨(some 4), none, .mv (.k (V.b false))⟩] [0, 1])
  (.seq (.seq (.reg none [⟨(some 6), none, .mv (.t 0)⟩,
      ⟨(some 7), none, .len false (.t 6)⟩,
      ⟨(some 8), none, .mv (.t 1)⟩,
      ⟨(some 9), none, .len false (.t 8)⟩,
      ⟨(some 10), none, .bin .neq .i (.t 7) (.t 9)⟩] [0, 1, 10])
   (.cond (.t 10)
    (.seq (.reg none [⟨(some 4), none, .mv (.k (V.b false))⟩] [4])
     (.ret))
    (.skip)))
  (.seq (.seq (.reg none [⟨(some 5), none, .mv (.k (V.i 0))⟩] [0, 1, 5])
   (.bl 0 (.seq (.seq (.reg none [⟨(some 11), none, .mv (.t 5)⟩,
        ⟨(some 12), none, .mv (.t 0)⟩,
        ⟨(some 13), none, .len false (.t 12)⟩,
        ⟨(some 14), none, .bin .lss .i (.t 11) (.t 13)⟩] [0, 1, 5, 14])
     (.cond (.t 14)
      (.skip)
      (.exit 0)))
    (.seq (.block 1 (.seq (.reg (some [[], [], [0, 1], [0, 1, 2], [], [], [4, 5], [4, 5, 6], [0, 1, 2, 3, 4, 5, 6, 7], [0, 1, 2, 3, 4, 5, 6, 7, 8]]) [⟨(some 17), none, .mv (.t 0)⟩,
         ⟨(some 18), none, .mv (.t 5)⟩,
         ⟨(some 19), none, .ia 2 (.t 17) (.t 18)⟩,
         ⟨(some 20), none, .ld true 2 (.t 19)⟩,
         ⟨(some 21), none, .mv (.t 1)⟩,
         ⟨(some 22), none, .mv (.t 5)⟩,
         ⟨(some 23), none, .ia 2 (.t 21) (.t 22)⟩,
         ⟨(some 24), none, .ld true 2 (.t 23)⟩,
         ⟨(some 25), none, .call 105 true [(.t 20), (.t 24)]⟩,
         ⟨(some 26), none, .not (.t 25)⟩] [0, 1, 5, 26])
      (.cond (.t 26)
       (.seq (.reg none [⟨(some 4), none, .mv (.k (V.b false))⟩] [4])
        (.ret))
       (.skip))))
    (.reg none [⟨(some 15), none, .mv (.t 5)⟩,
      ⟨(some 16), none, .bin .add .i (.t 15) (.k (V.i 1))⟩,
      ⟨(some 5), none, .mv (.t 16)⟩] [0, 1, 5])))))
  (.seq (.reg none [⟨(some 4), none, .mv (.k (V.b true))⟩] [4])
  (.ret))))
def rv50 : List RV := [.t 4]
open Go.Proofs Go.IntWalk
set_option linter.unusedVariables false
set_option maxRecDepth 100000
set_option maxHeartbeats 4000000
def L_eqTripS_l1 (g : G) (t : TE) (a1 : List Trip) : List Trip → Int → Option (LR Bool Unit)
  | [], v1 =>
    some (LR.out ())
  | z1 :: ls1, v1 =>
    gt a1 (g.nat v1) fun x1 =>
    lP (L_eqTrip g t z1 x1) fun x2 =>
    br x2
    (
     L_eqTripS_l1 g t a1 ls1 (g.wrap .i64 (g.add v1 1)))
    (
     some (LR.ret false))
def L_eqTripS (g : G) (t : TE) (a0 : List Trip) (a1 : List Trip) : Option Bool :=
  br (g.eq (g.llen (t.r_Trip a0)) (g.llen (t.r_Trip a1)))
  (
   cl (L_eqTripS_l1 g t a1 a0 0) fun o1 => lr o1 fun y1 =>
   some true)
  (
   some false)
theorem fit50 : codeFit Try.prog Try.f50.ntmps (Try.f50.body.getD .skip) ir50 = true := by kernel_rfl
theorem c_L_eqTripS {g : G} {t : TE} {a0 : List Trip} {a1 : List Trip} {r : Bool} (hg : g = G.real) (ht : t = TE.real) (h : L_eqTripS g t a0 a1 = some r) : Fn Try.prog 50 [.c (.s 2 (t.r_Trip a0)), .c (.s 2 (t.r_Trip a1))] (.c (.r (.v (.bool r)))) := by
  obtain ⟨X, hX⟩ := hide (.c (.r (.v (.bool r))) : X)
  rw [← hX]
  refine fn_of (rvs := rv50) (j := ir50) Try.func50 rfl fit50 (Nat.le_of_ble_eq_true rfl) (by kernel_rfl) prog_mixed ?_
  intro g2 F hg2 hF
  obtain rfl : g2 = g := hg2.unique.trans hg.symm
  clear hg2
  obtain ⟨wrap, lt, le, eq, quo, rem, band, bor, bxor, shl, shr, nat, int, add, sub, mul, cat, seq, slt, sub3, byte, llen, nadd, nsub, dlen, dapp, dset, drep, rd, rda, up, rsub, dsub, all, sle, slen⟩ := g2
  obtain ⟨r_S, d_S, r_Trip, d_Trip, r_Leg, d_Leg, r_I64, d_I64, r_Order, d_Order, r_Booking, d_Booking, r_Scan, d_Scan, r_U8, d_U8, r_LI64, d_LI64⟩ := t
  unfold L_eqTripS at h
  try dsimp only at h
  cbv
  cases hb1 : (eq (llen (r_Trip a0)) (llen (r_Trip a1))) with
  | true =>
    rw [br_true hb1] at h
    cbv
    obtain ⟨o1, ho1, h⟩ := of_cl h
    try dsimp only at h
    try rw [hg] at ho1
    try rw [ht] at ho1
    refine ABL.mk { p : Nat × Int // p.1 ≤ a0.length ∧ p.2 = ((p.1 : Nat) : Int) ∧ L_eqTripS_l1 G.real TE.real a1 (List.drop p.1 a0) p.2 = some o1 } (fun ⟨⟨k1, v1⟩, _⟩ => ({ sl := [(0, .c (.r (.s 2 (r_Trip a0)))), (1, .c (.r (.s 2 (r_Trip a1)))), (5, .c (.r (.v (.int .i64 v1))))], tab := [] } : St)) 0 (fun p => a0.length - p.1.1) ⟨(0, 0), Nat.zero_le _, rfl, ho1⟩ (Unit) (fun _ => ({ sl := [], tab := [] } : St)) 0 (fun y => o1 = LR.out y) ?_ ?_ ?_
    · refine Wk.of [] rfl rfl ?_ ?_
      · cbv
        all_goals exact ⟨⟨_, rfl, rfl⟩, ⟨_, rfl, rfl⟩, ⟨_, rfl, rfl⟩, trivial⟩
      · cbv
        all_goals exact trivial
    · rintro ⟨⟨k1, v1⟩, hk1, hi1, h_1⟩ hq1
      have hm1 := (hq1.1 0 _ _ rfl)
      try dsimp only at hk1 hi1 h_1
      clear hq1
      cbv
      by_cases hc1_ : k1 < a0.length
      · have hb2 : lt v1 (llen (r_Trip a0)) = true := ltL_true_Trip hg ht hi1 hc1_
        have hs1 := stepL_Trip hg ht hi1 hc1_ hm1
        obtain ⟨z1, hz1⟩ := some_of_lt hc1_
        rw [drop_of_some hz1] at h_1
        rw [L_eqTripS_l1] at h_1
        obtain ⟨z1_Leg, z1_Day⟩ := z1
        try rw [← hg] at h_1
        try rw [← ht] at h_1
        try dsimp only at h_1
        rw [hb2]
        cbv
        refine AStep.mk (nn_L hi1) ?_
        cbv
        refine AGet.mk _ (r_getL_Trip hg ht hi1 hz1) ?_
        cbv
        refine AStep.mk (nn_L hi1) ?_
        cbv
        obtain ⟨x1, hx1, h_1⟩ := of_gt h_1
        obtain ⟨x1_Leg, x1_Day⟩ := x1
        try dsimp only at h_1
        refine AGet.mk _ (r_get_Trip hg ht hx1) ?_
        cbv
        obtain ⟨x2, hx2, h_1⟩ := of_lP h_1
        try dsimp only at h_1
        refine ACall.mk _ _ rfl (hF _ _ _ (c_L_eqTrip hg ht hx2)) (.inl rfl) (Nat.le_of_ble_eq_true rfl) ?_
        cbv
        cases hb3 : x2 with
        | true =>
          rw [br_true hb3] at h_1
          cbv
          try rw [hg] at h_1
          try rw [ht] at h_1
          refine ⟨⟨(k1 + 1, (wrap .i64 (add v1 1))), hc1_, hs1, h_1⟩, Wk.of [] rfl rfl ?_ ?_, meas_L hc1_⟩
          · cbv
            all_goals exact ⟨⟨_, rfl, rfl⟩, ⟨_, rfl, rfl⟩, ⟨_, rfl, rfl⟩, trivial⟩
          · cbv
            all_goals exact trivial
        | false =>
          rw [br_false hb3] at h_1
          cbv
          obtain rfl := Option.some.inj h_1
          try dsimp only [lr, lrL, lrp, lrpL] at h
          obtain rfl := Option.some.inj h
          exact ARet.mk trivial hX.symm
      · have hb2 : lt v1 (llen (r_Trip a0)) = false := ltL_false_Trip hg ht hi1 hc1_
        rw [List.drop_of_length_le (Nat.le_of_not_lt hc1_)] at h_1
        rw [L_eqTripS_l1] at h_1
        try rw [← hg] at h_1
        try rw [← ht] at h_1
        try dsimp only at h_1
        rw [hb2]
        cbv
        refine ⟨(), Wk.of [] rfl rfl ?_ ?_, (Option.some.inj h_1).symm⟩
        · cbv
          all_goals exact trivial
        · cbv
          all_goals exact trivial
    · rintro _ hy1
      replace hy1 := hy1.symm
      subst hy1
      try dsimp only [lr, lrL, lrp, lrpL] at h
      cbv
      obtain rfl := Option.some.inj h
      exact ARet.mk trivial hX.symm
  | false =>
    rw [br_false hb1] at h
    cbv
    obtain rfl := Option.some.inj h
    exact ARet.mk trivial hX.symm
end Go.Vs
namespace Go.Vs
set_option maxRecDepth 100000
def ir78 : J :=
  .seq (.reg none [⟨(some 4), none, .mv (.k (V.i 0))⟩] [0, 1])
  (.seq (.reg none [⟨(some 6), none, .mv (.t 1)⟩,
     ⟨(some 7), none, .mv (.t 0)⟩,
     ⟨(some 8), none, .len false (.t 7)⟩,
     ⟨(some 9), none, .bin .sub .i (.t 6) (.t 8)⟩,
     ⟨(some 1), none, .mv (.t 9)⟩] [0, 1])
  (.seq (.seq (.reg none [⟨(some 10), none, .mv (.t 1)⟩,
      ⟨(some 11), none, .bin .lss .i (.t 10) (.k (V.i 0))⟩] [0, 1, 11])
   (.cond (.t 11)
    (.seq (.reg none [⟨(some 4), none, .mv (.k (V.i (-1)))⟩] [4])
     (.ret))
    (.skip)))
  (.seq (.seq (.reg none [⟨(some 5), none, .mv (.k (V.i 0))⟩] [0, 1, 5])
   (.bl 0 (.seq (.seq (.reg none [⟨(some 12), none, .mv (.t 5)⟩,
        ⟨(some 13), none, .mv (.t 0)⟩,
        ⟨(some 14), none, .len false (.t 13)⟩,
        ⟨(some 15), none, .bin .lss .i (.t 12) (.t 14)⟩] [0, 1, 5, 15])
     (.cond (.t 15)
      (.skip)
      (.exit 0)))
    (.seq (.block 1 (.seq (.reg none [⟨(some 18), none, .mv (.t 0)⟩,
         ⟨(some 19), none, .mv (.t 5)⟩,
         ⟨(some 20), none, .ia 6 (.t 18) (.t 19)⟩,
         ⟨(some 21), none, .ld true 6 (.t 20)⟩,
         ⟨(some 22), none, .mv (.t 1)⟩,
         ⟨(some 23), none, .call 124 true [(.t 21), (.t 22)]⟩,
         ⟨(some 1), none, .mv (.t 23)⟩] [0, 1, 5])
      (.seq (.reg none [⟨(some 24), none, .mv (.t 1)⟩,
         ⟨(some 25), none, .bin .lss .i (.t 24) (.k (V.i 0))⟩] [0, 1, 5, 25])
      (.cond (.t 25)
       (.seq (.reg none [⟨(some 4), none, .mv (.k (V.i (-1)))⟩] [4])
        (.ret))
       (.skip)))))
    (.reg none [⟨(some 16), none, .mv (.t 5)⟩,
      ⟨(some 17), none, .bin .add .i (.t 16) (.k (V.i 1))⟩,
      ⟨(some 5), none, .mv (.t 17)⟩] [0, 1, 5])))))
  (.seq (.reg none [⟨(some 26), none, .mv (.t 1)⟩,
     ⟨(some 4), none, .mv (.t 26)⟩] [4])
  (.ret)))))
def rv78 : List RV := [.t 4]
open Go.Proofs Go.IntWalk
set_option linter.unusedVariables false
set_option maxRecDepth 100000
set_option maxHeartbeats 4000000
def L_szLegS_l1 (g : G) (t : TE) : List Leg → Int → LR Int Int
  | [], v1 =>
    (LR.out v1)
  | z1 :: ls1, v1 =>
    lP (L_szLeg g t z1 v1) fun x1 =>
    br (g.lt x1 0)
    (
     (LR.ret (-1)))
    (
     L_szLegS_l1 g t ls1 x1)
def L_szLegS (g : G) (t : TE) (a0 : List Leg) (a1 : Int) : Int :=
  br (g.lt (g.wrap .i64 (g.sub a1 (g.llen (t.r_Leg a0)))) 0)
  (
   (-1))
  (
   lP (L_szLegS_l1 g t a0 (g.wrap .i64 (g.sub a1 (g.llen (t.r_Leg a0))))) fun o1 => lrp o1 fun y1 =>
   y1)
theorem fit78 : codeFit Try.prog Try.f78.ntmps (Try.f78.body.getD .skip) ir78 = true := by kernel_rfl
theorem c_L_szLegS {g : G} {t : TE} {a0 : List Leg} {a1 : Int} {r : Int} (hg : g = G.real) (ht : t = TE.real) (h : L_szLegS g t a0 a1 = r) : Fn Try.prog 78 [.c (.s 6 (t.r_Leg a0)), .c (.v (.int .i64 a1))] (.c (.r (.v (.int .i64 r)))) := by
  obtain ⟨X, hX⟩ := hide (.c (.r (.v (.int .i64 r))) : X)
  rw [← hX]
  refine fn_of (rvs := rv78) (j := ir78) Try.func78 rfl fit78 (Nat.le_of_ble_eq_true rfl) (by kernel_rfl) prog_mixed ?_
  intro g2 F hg2 hF
  obtain rfl : g2 = g := hg2.unique.trans hg.symm
  clear hg2
  obtain ⟨wrap, lt, le, eq, quo, rem, band, bor, bxor, shl, shr, nat, int, add, sub, mul, cat, seq, slt, sub3, byte, llen, nadd, nsub, dlen, dapp, dset, drep, rd, rda, up, rsub, dsub, all, sle, slen⟩ := g2
  obtain ⟨r_S, d_S, r_Trip, d_Trip, r_Leg, d_Leg, r_I64, d_I64, r_Order, d_Order, r_Booking, d_Booking, r_Scan, d_Scan, r_U8, d_U8, r_LI64, d_LI64⟩ := t
  unfold L_szLegS at h
  try dsimp only at h
  cbv
  cases hb1 : (lt (wrap .i64 (sub a1 (llen (r_Leg a0)))) 0) with
  | true =>
    rw [br_true hb1] at h
    cbv
    subst h
    exact ARet.mk trivial hX.symm
  | false =>
    rw [br_false hb1] at h
    cbv
    obtain ⟨o1, ho1, h⟩ := of_lP h
    try dsimp only at h
    try rw [hg] at ho1
    try rw [ht] at ho1
    refine ABL.mk { p : Nat × Int × Int // p.1 ≤ a0.length ∧ p.2.1 = ((p.1 : Nat) : Int) ∧ L_szLegS_l1 G.real TE.real (List.drop p.1 a0) p.2.2 = o1 } (fun ⟨⟨k1, v2, v1⟩, _⟩ => ({ sl := [(0, .c (.r (.s 6 (r_Leg a0)))), (1, .c (.r (.v (.int .i64 v1)))), (5, .c (.r (.v (.int .i64 v2))))], tab := [] } : St)) 0 (fun p => a0.length - p.1.1) ⟨(0, 0, (wrap .i64 (sub a1 (llen (r_Leg a0))))), Nat.zero_le _, rfl, ho1⟩ (Int) (fun y1 => ({ sl := [(1, .c (.r (.v (.int .i64 y1))))], tab := [] } : St)) 0 (fun y => o1 = LR.out y) ?_ ?_ ?_
    · refine Wk.of [] rfl rfl ?_ ?_
      · cbv
        all_goals exact ⟨⟨_, rfl, rfl⟩, ⟨_, rfl, rfl⟩, ⟨_, rfl, rfl⟩, trivial⟩
      · cbv
        all_goals exact trivial
    · rintro ⟨⟨k1, v2, v1⟩, hk1, hi1, h_1⟩ hq1
      have hm1 := (hq1.1 0 _ _ rfl)
      try dsimp only at hk1 hi1 h_1
      clear hq1
      cbv
      by_cases hc1_ : k1 < a0.length
      · have hb2 : lt v2 (llen (r_Leg a0)) = true := ltL_true_Leg hg ht hi1 hc1_
        have hs1 := stepL_Leg hg ht hi1 hc1_ hm1
        obtain ⟨z1, hz1⟩ := some_of_lt hc1_
        rw [drop_of_some hz1] at h_1
        rw [L_szLegS_l1] at h_1
        obtain ⟨z1_From, z1_To, z1_Start, z1_Takes, z1_Days, z1_Room⟩ := z1
        try rw [← hg] at h_1
        try rw [← ht] at h_1
        try dsimp only at h_1
        rw [hb2]
        cbv
        refine AStep.mk (nn_L hi1) ?_
        cbv
        refine AGet.mk _ (r_getL_Leg hg ht hi1 hz1) ?_
        cbv
        obtain ⟨x1, hx1, h_1⟩ := of_lP h_1
        try dsimp only at h_1
        refine ACall.mk _ _ rfl (hF _ _ _ (c_L_szLeg hg ht hx1)) (.inl rfl) (Nat.le_of_ble_eq_true rfl) ?_
        cbv
        cases hb3 : (lt x1 0) with
        | true =>
          rw [br_true hb3] at h_1
          cbv
          subst h_1
          try dsimp only [lr, lrL, lrp, lrpL] at h
          subst h
          exact ARet.mk trivial hX.symm
        | false =>
          rw [br_false hb3] at h_1
          cbv
          try rw [hg] at h_1
          try rw [ht] at h_1
          refine ⟨⟨(k1 + 1, (wrap .i64 (add v2 1)), x1), hc1_, hs1, h_1⟩, Wk.of [] rfl rfl ?_ ?_, meas_L hc1_⟩
          · cbv
            all_goals exact ⟨⟨_, rfl, rfl⟩, ⟨_, rfl, rfl⟩, ⟨_, rfl, rfl⟩, trivial⟩
          · cbv
            all_goals exact trivial
      · have hb2 : lt v2 (llen (r_Leg a0)) = false := ltL_false_Leg hg ht hi1 hc1_
        rw [List.drop_of_length_le (Nat.le_of_not_lt hc1_)] at h_1
        rw [L_szLegS_l1] at h_1
        try rw [← hg] at h_1
        try rw [← ht] at h_1
        try dsimp only at h_1
        rw [hb2]
        cbv
        refine ⟨v1, Wk.of [] rfl rfl ?_ ?_, h_1.symm⟩
        · cbv
          all_goals exact ⟨⟨_, rfl, rfl⟩, trivial⟩
        · cbv
          all_goals exact trivial
    · rintro y1 hy1
      replace hy1 := hy1.symm
      subst hy1
      try dsimp only [lr, lrL, lrp, lrpL] at h
      cbv
      subst h
      exact ARet.mk trivial hX.symm
end Go.Vs
namespace Go.Vs
set_option maxRecDepth 100000
def ir120 : J :=
  .seq (.reg none [⟨(some 2), none, .box (.t 0)⟩,
     ⟨(some 4), none, .mv (.k (V.i 0))⟩] [1, 2])
  (.seq (.reg none [⟨(some 5), none, .mv (.t 1)⟩,
     ⟨(some 6), none, .fa 0 (.t 2)⟩,
     ⟨(some 7), none, .ld false 1 (.t 6)⟩,
     ⟨(some 8), none, .len true (.t 7)⟩,
     ⟨(some 9), none, .bin .sub .i (.t 5) (.t 8)⟩,
     ⟨(some 1), none, .mv (.t 9)⟩] [1, 2])
  (.seq (.seq (.reg none [⟨(some 10), none, .mv (.t 1)⟩,
      ⟨(some 11), none, .bin .lss .i (.t 10) (.k (V.i 0))⟩] [1, 2, 11])
   (.cond (.t 11)
    (.seq (.reg none [⟨(some 4), none, .mv (.k (V.i (-1)))⟩] [4])
     (.ret))
    (.skip)))
  (.seq (.reg none [⟨(some 12), none, .mv (.t 1)⟩,
     ⟨(some 13), none, .fa 1 (.t 2)⟩,
     ⟨(some 14), none, .ld false 1 (.t 13)⟩,
     ⟨(some 15), none, .len true (.t 14)⟩,
     ⟨(some 16), none, .bin .sub .i (.t 12) (.t 15)⟩,
     ⟨(some 1), none, .mv (.t 16)⟩] [1, 2])
  (.seq (.seq (.reg none [⟨(some 17), none, .mv (.t 1)⟩,
      ⟨(some 18), none, .bin .lss .i (.t 17) (.k (V.i 0))⟩] [1, 2, 18])
   (.cond (.t 18)
    (.seq (.reg none [⟨(some 4), none, .mv (.k (V.i (-1)))⟩] [4])
     (.ret))
    (.skip)))
  (.seq (.reg none [⟨(some 19), none, .fa 6 (.t 2)⟩,
     ⟨(some 20), none, .ld false 1 (.t 19)⟩,
     ⟨(some 21), none, .mv (.t 1)⟩,
     ⟨(some 22), none, .call 43 true [(.t 20), (.t 21)]⟩,
     ⟨(some 1), none, .mv (.t 22)⟩] [1, 2])
  (.seq (.seq (.reg none [⟨(some 23), none, .mv (.t 1)⟩,
      ⟨(some 24), none, .bin .lss .i (.t 23) (.k (V.i 0))⟩] [1, 2, 24])
   (.cond (.t 24)
    (.seq (.reg none [⟨(some 4), none, .mv (.k (V.i (-1)))⟩] [4])
     (.ret))
    (.skip)))
  (.seq (.reg none [⟨(some 25), none, .mv (.t 1)⟩,
     ⟨(some 26), none, .fa 9 (.t 2)⟩,
     ⟨(some 27), none, .ld false 1 (.t 26)⟩,
     ⟨(some 28), none, .len true (.t 27)⟩,
     ⟨(some 29), none, .bin .sub .i (.t 25) (.t 28)⟩,
     ⟨(some 1), none, .mv (.t 29)⟩] [1])
  (.seq (.seq (.reg none [⟨(some 30), none, .mv (.t 1)⟩,
      ⟨(some 31), none, .bin .lss .i (.t 30) (.k (V.i 0))⟩] [1, 31])
   (.cond (.t 31)
    (.seq (.reg none [⟨(some 4), none, .mv (.k (V.i (-1)))⟩] [4])
     (.ret))
    (.skip)))
  (.seq (.reg none [⟨(some 32), none, .mv (.t 1)⟩,
     ⟨(some 4), none, .mv (.t 32)⟩] [4])
  (.ret))))))))))
def rv120 : List RV := [.t 4]
open Go.Proofs Go.IntWalk
set_option linter.unusedVariables false
set_option maxRecDepth 100000
set_option maxHeartbeats 4000000
def L_szOrder (g : G) (t : TE) (a0 : Order) (a1 : Int) : Int :=
  br (g.lt (g.wrap .i64 (g.sub a1 (g.int (g.slen a0.From)))) 0)
  (
   (-1))
  (
   br (g.lt (g.wrap .i64 (g.sub (g.wrap .i64 (g.sub a1 (g.int (g.slen a0.From)))) (g.int (g.slen a0.To)))) 0)
   (
    (-1))
   (
    lP (L_szTripS g t a0.Way (g.wrap .i64 (g.sub (g.wrap .i64 (g.sub a1 (g.int (g.slen a0.From)))) (g.int (g.slen a0.To))))) fun x1 =>
    br (g.lt x1 0)
    (
     (-1))
    (
     br (g.lt (g.wrap .i64 (g.sub x1 (g.int (g.slen a0.Place)))) 0)
     (
      (-1))
     (
      (g.wrap .i64 (g.sub x1 (g.int (g.slen a0.Place))))))))
theorem fit120 : codeFit Try.prog Try.f120.ntmps (Try.f120.body.getD .skip) ir120 = true := by kernel_rfl
theorem c_L_szOrder {g : G} {t : TE} {a0 : Order} {a1 : Int} {r : Int} (hg : g = G.real) (ht : t = TE.real) (h : L_szOrder g t a0 a1 = r) : Fn Try.prog 120 [.g (Order.rs t a0), .c (.v (.int .i64 a1))] (.c (.r (.v (.int .i64 r)))) := by
  obtain ⟨X, hX⟩ := hide (.c (.r (.v (.int .i64 r))) : X)
  rw [← hX]
  refine fn_of (rvs := rv120) (j := ir120) Try.func120 rfl fit120 (Nat.le_of_ble_eq_true rfl) (by kernel_rfl) prog_mixed ?_
  intro g2 F hg2 hF
  obtain rfl : g2 = g := hg2.unique.trans hg.symm
  clear hg2
  obtain ⟨wrap, lt, le, eq, quo, rem, band, bor, bxor, shl, shr, nat, int, add, sub, mul, cat, seq, slt, sub3, byte, llen, nadd, nsub, dlen, dapp, dset, drep, rd, rda, up, rsub, dsub, all, sle, slen⟩ := g2
  obtain ⟨r_S, d_S, r_Trip, d_Trip, r_Leg, d_Leg, r_I64, d_I64, r_Order, d_Order, r_Booking, d_Booking, r_Scan, d_Scan, r_U8, d_U8, r_LI64, d_LI64⟩ := t
  obtain ⟨a0_From, a0_To, a0_Service, a0_Weight, a0_At, a0_Due, a0_Way, a0_Gone, a0_State, a0_Place, a0_Ended⟩ := a0
  unfold L_szOrder at h
  try dsimp only at h
  cbv
  cases hb1 : (lt (wrap .i64 (sub a1 (int (slen a0_From)))) 0) with
  | true =>
    rw [br_true hb1] at h
    cbv
    subst h
    exact ARet.mk trivial hX.symm
  | false =>
    rw [br_false hb1] at h
    cbv
    cases hb2 : (lt (wrap .i64 (sub (wrap .i64 (sub a1 (int (slen a0_From)))) (int (slen a0_To)))) 0) with
    | true =>
      rw [br_true hb2] at h
      cbv
      subst h
      exact ARet.mk trivial hX.symm
    | false =>
      rw [br_false hb2] at h
      cbv
      obtain ⟨x1, hx1, h⟩ := of_lP h
      try dsimp only at h
      refine ACall.mk _ _ rfl (hF _ _ _ (c_L_szTripS hg ht hx1)) (.inl rfl) (Nat.le_of_ble_eq_true rfl) ?_
      cbv
      cases hb3 : (lt x1 0) with
      | true =>
        rw [br_true hb3] at h
        cbv
        subst h
        exact ARet.mk trivial hX.symm
      | false =>
        rw [br_false hb3] at h
        cbv
        cases hb4 : (lt (wrap .i64 (sub x1 (int (slen a0_Place)))) 0) with
        | true =>
          rw [br_true hb4] at h
          cbv
          subst h
          exact ARet.mk trivial hX.symm
        | false =>
          rw [br_false hb4] at h
          cbv
          subst h
          exact ARet.mk trivial hX.symm
end Go.Vs
namespace Go.Vs
set_option maxRecDepth 100000
def ir71 : J :=
  .seq (.reg none [⟨(some 4), none, .mv (.k (V.i 0))⟩] [0, 1])
  (.seq (.reg none [⟨(some 6), none, .mv (.t 1)⟩,
     ⟨(some 7), none, .mv (.t 0)⟩,
     ⟨(some 8), none, .len false (.t 7)⟩,
     ⟨(some 9), none, .bin .sub .i (.t 6) (.t 8)⟩,
     ⟨(some 1), none, .mv (.t 9)⟩] [0, 1])
  (.seq (.seq (.reg none [⟨(some 10), none, .mv (.t 1)⟩,
      ⟨(some 11), none, .bin .lss .i (.t 10) (.k (V.i 0))⟩] [0, 1, 11])
   (.cond (.t 11)
    (.seq (.reg none [⟨(some 4), none, .mv (.k (V.i (-1)))⟩] [4])
     (.ret))
    (.skip)))
  (.seq (.seq (.reg none [⟨(some 5), none, .mv (.k (V.i 0))⟩] [0, 1, 5])
   (.bl 0 (.seq (.seq (.reg none [⟨(some 12), none, .mv (.t 5)⟩,
        ⟨(some 13), none, .mv (.t 0)⟩,
        ⟨(some 14), none, .len false (.t 13)⟩,
        ⟨(some 15), none, .bin .lss .i (.t 12) (.t 14)⟩] [0, 1, 5, 15])
     (.cond (.t 15)
      (.skip)
      (.exit 0)))
    (.seq (.block 1 (.seq (.reg none [⟨(some 18), none, .mv (.t 0)⟩,
         ⟨(some 19), none, .mv (.t 5)⟩,
         ⟨(some 20), none, .ia 6 (.t 18) (.t 19)⟩,
         ⟨(some 21), none, .ld true 6 (.t 20)⟩,
         ⟨(some 22), none, .mv (.t 1)⟩,
         ⟨(some 23), none, .call 14 true [(.t 21), (.t 22)]⟩,
         ⟨(some 1), none, .mv (.t 23)⟩] [0, 1, 5])
      (.seq (.reg none [⟨(some 24), none, .mv (.t 1)⟩,
         ⟨(some 25), none, .bin .lss .i (.t 24) (.k (V.i 0))⟩] [0, 1, 5, 25])
      (.cond (.t 25)
       (.seq (.reg none [⟨(some 4), none, .mv (.k (V.i (-1)))⟩] [4])
        (.ret))
       (.skip)))))
    (.reg none [⟨(some 16), none, .mv (.t 5)⟩,
      ⟨(some 17), none, .bin .add .i (.t 16) (.k (V.i 1))⟩,
      ⟨(some 5), none, .mv (.t 17)⟩] [0, 1, 5])))))
  (.seq (.reg none [⟨(some 26), none, .mv (.t 1)⟩,
     ⟨(some 4), none, .mv (.t 26)⟩] [4])
  (.ret)))))
def rv71 : List RV := [.t 4]
open Go.Proofs Go.IntWalk
set_option linter.unusedVariables false
set_option maxRecDepth 100000
set_option maxHeartbeats 4000000
def L_szScanS_l1 (g : G) (t : TE) : List Scan → Int → LR Int Int
  | [], v1 =>
    (LR.out v1)
  | z1 :: ls1, v1 =>
    lP (L_szScan g t (Scan.mk z1.Thing z1.At z1.Kind z1.Place (Trip.mk z1.Trip.Leg z1.Trip.Day)) v1) fun x1 =>
    br (g.lt x1 0)
    (
     (LR.ret (-1)))
    (
     L_szScanS_l1 g t ls1 x1)
def L_szScanS (g : G) (t : TE) (a0 : List Scan) (a1 : Int) : Int :=
  br (g.lt (g.wrap .i64 (g.sub a1 (g.llen (t.r_Scan a0)))) 0)
  (
   (-1))
  (
   lP (L_szScanS_l1 g t a0 (g.wrap .i64 (g.sub a1 (g.llen (t.r_Scan a0))))) fun o1 => lrp o1 fun y1 =>
   y1)
theorem fit71 : codeFit Try.prog Try.f71.ntmps (Try.f71.body.getD .skip) ir71 = true := by kernel_rfl
theorem c_L_szScanS {g : G} {t : TE} {a0 : List Scan} {a1 : Int} {r : Int} (hg : g = G.real) (ht : t = TE.real) (h : L_szScanS g t a0 a1 = r) : Fn Try.prog 71 [.c (.s 6 (t.r_Scan a0)), .c (.v (.int .i64 a1))] (.c (.r (.v (.int .i64 r)))) := by
  obtain ⟨X, hX⟩ := hide (.c (.r (.v (.int .i64 r))) : X)
  rw [← hX]
  refine fn_of (rvs := rv71) (j := ir71) Try.func71 rfl fit71 (Nat.le_of_ble_eq_true rfl) (by kernel_rfl) prog_mixed ?_
  intro g2 F hg2 hF
  obtain rfl : g2 = g := hg2.unique.trans hg.symm
  clear hg2
  obtain ⟨wrap, lt, le, eq, quo, rem, band, bor, bxor, shl, shr, nat, int, add, sub, mul, cat, seq, slt, sub3, byte, llen, nadd, nsub, dlen, dapp, dset, drep, rd, rda, up, rsub, dsub, all, sle, slen⟩ := g2
  obtain ⟨r_S, d_S, r_Trip, d_Trip, r_Leg, d_Leg, r_I64, d_I64, r_Order, d_Order, r_Booking, d_Booking, r_Scan, d_Scan, r_U8, d_U8, r_LI64, d_LI64⟩ := t
  unfold L_szScanS at h
  try dsimp only at h
  cbv
  cases hb1 : (lt (wrap .i64 (sub a1 (llen (r_Scan a0)))) 0) with
  | true =>
    rw [br_true hb1] at h
    cbv
    subst h
    exact ARet.mk trivial hX.symm
  | false =>
    rw [br_false hb1] at h
    cbv
    obtain ⟨o1, ho1, h⟩ := of_lP h
    try dsimp only at h
    try rw [hg] at ho1
    try rw [ht] at ho1
    refine ABL.mk { p : Nat × Int × Int // p.1 ≤ a0.length ∧ p.2.1 = ((p.1 : Nat) : Int) ∧ L_szScanS_l1 G.real TE.real (List.drop p.1 a0) p.2.2 = o1 } (fun ⟨⟨k1, v2, v1⟩, _⟩ => ({ sl := [(0, .c (.r (.s 6 (r_Scan a0)))), (1, .c (.r (.v (.int .i64 v1)))), (5, .c (.r (.v (.int .i64 v2))))], tab := [] } : St)) 0 (fun p => a0.length - p.1.1) ⟨(0, 0, (wrap .i64 (sub a1 (llen (r_Scan a0))))), Nat.zero_le _, rfl, ho1⟩ (Int) (fun y1 => ({ sl := [(1, .c (.r (.v (.int .i64 y1))))], tab := [] } : St)) 0 (fun y => o1 = LR.out y) ?_ ?_ ?_
    · refine Wk.of [] rfl rfl ?_ ?_
      · cbv
        all_goals exact ⟨⟨_, rfl, rfl⟩, ⟨_, rfl, rfl⟩, ⟨_, rfl, rfl⟩, trivial⟩
      · cbv
        all_goals exact trivial
    · rintro ⟨⟨k1, v2, v1⟩, hk1, hi1, h_1⟩ hq1
      have hm1 := (hq1.1 0 _ _ rfl)
      try dsimp only at hk1 hi1 h_1
      clear hq1
      cbv
      by_cases hc1_ : k1 < a0.length
      · have hb2 : lt v2 (llen (r_Scan a0)) = true := ltL_true_Scan hg ht hi1 hc1_
        have hs1 := stepL_Scan hg ht hi1 hc1_ hm1
        obtain ⟨z1, hz1⟩ := some_of_lt hc1_
        rw [drop_of_some hz1] at h_1
        rw [L_szScanS_l1] at h_1
        obtain ⟨z1_Thing, z1_At, z1_Kind, z1_Place, ⟨z1_Trip_Leg, z1_Trip_Day⟩⟩ := z1
        try rw [← hg] at h_1
        try rw [← ht] at h_1
        try dsimp only at h_1
        rw [hb2]
        cbv
        refine AStep.mk (nn_L hi1) ?_
        cbv
        refine AGet.mk _ (r_getL_Scan hg ht hi1 hz1) ?_
        cbv
        obtain ⟨x1, hx1, h_1⟩ := of_lP h_1
        try dsimp only at h_1
        refine ACall.mk _ _ rfl (hF _ _ _ (c_L_szScan hg ht hx1)) (.inl rfl) (Nat.le_of_ble_eq_true rfl) ?_
        cbv
        cases hb3 : (lt x1 0) with
        | true =>
          rw [br_true hb3] at h_1
          cbv
          subst h_1
          try dsimp only [lr, lrL, lrp, lrpL] at h
          subst h
          exact ARet.mk trivial hX.symm
        | false =>
          rw [br_false hb3] at h_1
          cbv
          try rw [hg] at h_1
          try rw [ht] at h_1
          refine ⟨⟨(k1 + 1, (wrap .i64 (add v2 1)), x1), hc1_, hs1, h_1⟩, Wk.of [] rfl rfl ?_ ?_, meas_L hc1_⟩
          · cbv
            all_goals exact ⟨⟨_, rfl, rfl⟩, ⟨_, rfl, rfl⟩, ⟨_, rfl, rfl⟩, trivial⟩
          · cbv
            all_goals exact trivial
      · have hb2 : lt v2 (llen (r_Scan a0)) = false := ltL_false_Scan hg ht hi1 hc1_
        rw [List.drop_of_length_le (Nat.le_of_not_lt hc1_)] at h_1
        rw [L_szScanS_l1] at h_1
        try rw [← hg] at h_1
        try rw [← ht] at h_1
        try dsimp only at h_1
        rw [hb2]
        cbv
        refine ⟨v1, Wk.of [] rfl rfl ?_ ?_, h_1.symm⟩
        · cbv
          all_goals exact ⟨⟨_, rfl, rfl⟩, trivial⟩
        · cbv
          all_goals exact trivial
    · rintro y1 hy1
      replace hy1 := hy1.symm
      subst hy1
      try dsimp only [lr, lrL, lrp, lrpL] at h
      cbv
      subst h
      exact ARet.mk trivial hX.symm
end Go.Vs
namespace Go.Vs
set_option maxRecDepth 100000
def ir86 : J :=
  .seq (.reg none [⟨(some 2), none, .mv (.k (.c (.n 6)))⟩] [0])
  (.seq (.reg none [⟨(some 5), none, .mv (.t 0)⟩,
     ⟨(some 6), none, .len false (.t 5)⟩,
     ⟨(some 7), none, .mk 6 64 [.r (.v (.string .empty)), .r (.v (.string .empty)), .r (.v (.int .i64 0)), .r (.v (.int .i64 0)), .r (.v (.int .i64 0)), .r (.v (.int .i64 0))] (.t 6)⟩,
     ⟨(some 3), none, .mv (.t 7)⟩] [0, 3])
  (.seq (.seq (.reg none [⟨(some 4), none, .mv (.k (V.i 0))⟩] [0, 3, 4])
   (.bl 0 (.seq (.seq (.reg none [⟨(some 8), none, .mv (.t 4)⟩,
        ⟨(some 9), none, .mv (.t 0)⟩,
        ⟨(some 10), none, .len false (.t 9)⟩,
        ⟨(some 11), none, .bin .lss .i (.t 8) (.t 10)⟩] [0, 3, 4, 11])
     (.cond (.t 11)
      (.skip)
      (.exit 0)))
    (.seq (.block 1 (.reg none [⟨(some 14), none, .mv (.t 3)⟩,
        ⟨(some 15), none, .mv (.t 4)⟩,
        ⟨(some 16), none, .mv (.t 0)⟩,
        ⟨(some 17), none, .mv (.t 4)⟩,
        ⟨(some 18), none, .ia 6 (.t 16) (.t 17)⟩,
        ⟨(some 19), none, .ld true 6 (.t 18)⟩,
        ⟨(some 20), none, .call 127 true [(.t 19)]⟩,
        ⟨(some 21), none, .ia 6 (.t 14) (.t 15)⟩,
        ⟨none, none, .st 6 (.t 21) (.t 20)⟩] [0, 3, 4]))
    (.reg none [⟨(some 12), none, .mv (.t 4)⟩,
      ⟨(some 13), none, .bin .add .i (.t 12) (.k (V.i 1))⟩,
      ⟨(some 4), none, .mv (.t 13)⟩] [0, 3, 4])))))
  (.seq (.reg none [⟨(some 22), none, .mv (.t 3)⟩,
     ⟨(some 2), none, .mv (.t 22)⟩] [2])
  (.ret))))
def rv86 : List RV := [.t 2]
open Go.Proofs Go.IntWalk
set_option linter.unusedVariables false
set_option maxRecDepth 100000
set_option maxHeartbeats 4000000
def L_toLegS_l1 (g : G) (t : TE) : List Leg → Int → List Leg → Option (List Leg)
  | [], v1, w1 =>
    some w1
  | z1 :: ls1, v1, w1 =>
    lP (L_toLeg g t z1) fun x1 =>
    gd ((0 ≤ v1 ∧ v1 < (((g.dlen (t.d_Leg w1)) : Nat) : Int))) <|
    gt w1 (g.nat v1) fun x2 =>
    lP (List.set w1 (g.nat v1) (Leg.mk x1.From x1.To x1.Start x1.Takes x1.Days x1.Room)) fun (l2 : List Leg) =>
    L_toLegS_l1 g t ls1 (g.wrap .i64 (g.add v1 1)) l2
def L_toLegS (g : G) (t : TE) (a0 : List Leg) : Option (List Leg) :=
  gd ((0 ≤ (g.llen (t.r_Leg a0)) ∧ 64 * (g.llen (t.r_Leg a0)) ≤ 70368744177664 ∧ (g.llen (t.r_Leg a0)) ≤ 4611686018427387904)) <|
  lP (List.replicate (g.nat (g.llen (t.r_Leg a0))) (Leg.mk ByteArray.empty ByteArray.empty 0 0 0 0)) fun (l1 : List Leg) =>
  cl (L_toLegS_l1 g t a0 0 l1) fun y1 =>
  some y1
theorem fit86 : codeFit Try.prog Try.f86.ntmps (Try.f86.body.getD .skip) ir86 = true := by kernel_rfl
theorem c_L_toLegS {g : G} {t : TE} {a0 : List Leg} {r : List Leg} (hg : g = G.real) (ht : t = TE.real) (h : L_toLegS g t a0 = some r) : Fn Try.prog 86 [.c (.s 6 (t.r_Leg a0))] (.c (.o 6 (t.d_Leg r))) := by
  obtain ⟨X, hX⟩ := hide (.c (.o 6 (t.d_Leg r)) : X)
  rw [← hX]
  refine fn_of (rvs := rv86) (j := ir86) Try.func86 rfl fit86 (Nat.le_of_ble_eq_true rfl) (by kernel_rfl) prog_mixed ?_
  intro g2 F hg2 hF
  obtain rfl : g2 = g := hg2.unique.trans hg.symm
  clear hg2
  obtain ⟨wrap, lt, le, eq, quo, rem, band, bor, bxor, shl, shr, nat, int, add, sub, mul, cat, seq, slt, sub3, byte, llen, nadd, nsub, dlen, dapp, dset, drep, rd, rda, up, rsub, dsub, all, sle, slen⟩ := g2
  obtain ⟨r_S, d_S, r_Trip, d_Trip, r_Leg, d_Leg, r_I64, d_I64, r_Order, d_Order, r_Booking, d_Booking, r_Scan, d_Scan, r_U8, d_U8, r_LI64, d_LI64⟩ := t
  unfold L_toLegS at h
  try dsimp only at h
  cbv
  obtain ⟨hc2, h⟩ := of_gd h
  refine AStep.mk (mk_ok hc2) ?_
  cbv
  obtain ⟨l1, hl1, h⟩ := of_lP h
  try dsimp only at h
  refine ANew.mk (d_Leg l1) (dlen (d_Leg l1)) (by rw [← hl1]; exact drep_Leg hg ht _ (Leg.mk ByteArray.empty ByteArray.empty 0 0 0 0)) (by rw [← hl1]; exact drepn_Leg hg ht _ (Leg.mk ByteArray.empty ByteArray.empty 0 0 0 0)) ?_
  cbv
  obtain ⟨o1, ho1, h⟩ := of_cl h
  try dsimp only at h
  try rw [hg] at ho1
  try rw [ht] at ho1
  refine ABL.mk { p : Nat × Int × List Leg // p.1 ≤ a0.length ∧ p.2.1 = ((p.1 : Nat) : Int) ∧ L_toLegS_l1 G.real TE.real (List.drop p.1 a0) p.2.1 p.2.2 = some o1 } (fun ⟨⟨k1, v1, w1⟩, _⟩ => ({ sl := [(0, .c (.r (.s 6 (r_Leg a0)))), (3, .c (.f 0 6 0 (dlen (d_Leg w1)))), (4, .c (.r (.v (.int .i64 v1))))], tab := [(0, some (.arr 6 (d_Leg w1)))] } : St)) 1 (fun p => a0.length - p.1.1) ⟨(0, 0, l1), Nat.zero_le _, rfl, ho1⟩ (List Leg) (fun y1 => ({ sl := [(3, .c (.f 0 6 0 (dlen (d_Leg y1))))], tab := [(0, some (.arr 6 (d_Leg y1)))] } : St)) 1 (fun y => o1 = y) ?_ ?_ ?_
  · refine Wk.of [(0, some 48)] rfl rfl ?_ ?_
    · cbv
      all_goals exact ⟨⟨_, rfl, rfl⟩, ⟨_, rfl, rfl⟩, ⟨_, rfl, rfl⟩, trivial⟩
    · cbv
      all_goals exact ⟨⟨_, rfl, rfl⟩, trivial⟩
  · rintro ⟨⟨k1, v1, w1⟩, hk1, hi1, h_1⟩ hq1
    have hm1 := (hq1.1 0 _ _ rfl)
    try dsimp only at hk1 hi1 h_1
    clear hq1
    cbv
    by_cases hc1_ : k1 < a0.length
    · have hb1 : lt v1 (llen (r_Leg a0)) = true := ltL_true_Leg hg ht hi1 hc1_
      have hs1 := stepL_Leg hg ht hi1 hc1_ hm1
      obtain ⟨z1, hz1⟩ := some_of_lt hc1_
      rw [drop_of_some hz1] at h_1
      rw [L_toLegS_l1] at h_1
      obtain ⟨z1_From, z1_To, z1_Start, z1_Takes, z1_Days, z1_Room⟩ := z1
      try rw [← hg] at h_1
      try rw [← ht] at h_1
      try dsimp only at h_1
      rw [hb1]
      cbv
      refine AStep.mk (nn_L hi1) ?_
      cbv
      refine AGet.mk _ (r_getL_Leg hg ht hi1 hz1) ?_
      cbv
      obtain ⟨x1, hx1, h_1⟩ := of_lP h_1
      obtain ⟨x1_From, x1_To, x1_Start, x1_Takes, x1_Days, x1_Room⟩ := x1
      try dsimp only at h_1
      refine ACall.mk _ _ rfl (hF _ _ _ (c_L_toLeg hg ht hx1)) (.inl rfl) (Nat.le_of_ble_eq_true rfl) ?_
      cbv
      obtain ⟨hc1, h_1⟩ := of_gd h_1
      refine AStep.mk hc1 ?_
      cbv
      obtain ⟨x2, hx2, h_1⟩ := of_gt h_1
      obtain ⟨x2_From, x2_To, x2_Start, x2_Takes, x2_Days, x2_Room⟩ := x2
      try dsimp only at h_1
      refine AGet.mk _ (d_get_Leg hg ht hx2) ?_
      cbv
      obtain ⟨l2, hl2, h_1⟩ := of_lP h_1
      try dsimp only at h_1
      refine ANew.mk (d_Leg l2) _ (by rw [← hl2]; exact dset_Leg hg ht _ _ (Leg.mk x1_From x1_To x1_Start x1_Takes x1_Days x1_Room)) rfl ?_
      have hnl2 : (dlen (d_Leg w1)) = (d_Leg l2).length := (by rw [← hl2, dsetl_Leg ht]; exact (dlen_Leg hg ht _))
      cbv
      try rw [hg] at h_1
      try rw [ht] at h_1
      refine ⟨⟨(k1 + 1, (wrap .i64 (add v1 1)), l2), hc1_, hs1, h_1⟩, Wk.of [(0, some 0)] rfl rfl ?_ ?_, meas_L hc1_⟩
      · cbv
        all_goals try rw [show (dlen (d_Leg w1)) = (dlen (d_Leg l2)) from (hnl2).trans (dlen_Leg hg ht _).symm]
        all_goals exact ⟨⟨_, rfl, rfl⟩, ⟨_, rfl, rfl⟩, ⟨_, rfl, rfl⟩, trivial⟩
      · cbv
        all_goals try rw [show (dlen (d_Leg w1)) = (dlen (d_Leg l2)) from (hnl2).trans (dlen_Leg hg ht _).symm]
        all_goals exact ⟨⟨_, rfl, rfl⟩, trivial⟩
    · have hb1 : lt v1 (llen (r_Leg a0)) = false := ltL_false_Leg hg ht hi1 hc1_
      rw [List.drop_of_length_le (Nat.le_of_not_lt hc1_)] at h_1
      rw [L_toLegS_l1] at h_1
      try rw [← hg] at h_1
      try rw [← ht] at h_1
      try dsimp only at h_1
      rw [hb1]
      cbv
      refine ⟨w1, Wk.of [(0, some 0)] rfl rfl ?_ ?_, (Option.some.inj h_1).symm⟩
      · cbv
        all_goals exact ⟨⟨_, rfl, rfl⟩, trivial⟩
      · cbv
        all_goals exact ⟨⟨_, rfl, rfl⟩, trivial⟩
  · rintro y1 hy1
    replace hy1 := hy1.symm
    subst hy1
    try dsimp only [lr, lrL, lrp, lrpL] at h
    cbv
    obtain rfl := Option.some.inj h
    exact ARet.mk ⟨rfl, (dlen_Leg hg ht _)⟩ hX.symm
end Go.Vs
namespace Go.Vs
set_option maxRecDepth 100000
def ir100 : J :=
  .seq (.reg none [⟨(some 1), none, .box (.t 0)⟩,
     ⟨(some 2), none, .alloc [.r (.v (.int .i64 0)), .r (.v (.int .i64 0)), .r (.v (.int .i64 0)), .r (.v (.int .i64 0))]⟩] [1, 2])
  (.seq (.reg none [⟨(some 3), none, .alloc [.r (.v (.int .i64 0)), .r (.v (.int .i64 0)), .r (.v (.int .i64 0)), .r (.v (.int .i64 0))]⟩] [1, 2, 3])
  (.seq (.reg none [⟨(some 4), none, .fa 0 (.t 1)⟩,
     ⟨(some 5), none, .ld false 1 (.t 4)⟩,
     ⟨(some 6), none, .fa 0 (.t 3)⟩,
     ⟨none, none, .st 1 (.t 6) (.t 5)⟩] [1, 2, 3])
  (.seq (.reg none [⟨(some 7), none, .fa 1 (.t 1)⟩,
     ⟨(some 8), none, .ld true 2 (.t 7)⟩,
     ⟨(some 9), none, .call 63 true [(.t 8)]⟩,
     ⟨(some 10), none, .fa 1 (.t 3)⟩,
     ⟨none, none, .st 2 (.t 10) (.t 9)⟩] [1, 2, 3])
  (.seq (.reg none [⟨(some 11), none, .fa 3 (.t 1)⟩,
     ⟨(some 12), none, .ld false 1 (.t 11)⟩,
     ⟨(some 13), none, .fa 3 (.t 3)⟩,
     ⟨none, none, .st 1 (.t 13) (.t 12)⟩] [2, 3])
  (.seq (.reg none [⟨(some 14), none, .ld true 4 (.t 3)⟩,
     ⟨none, none, .st 4 (.t 2) (.t 14)⟩] [2])
  (.ret))))))
def rv100 : List RV := [.c 2 true 4]
open Go.Proofs Go.IntWalk
set_option linter.unusedVariables false
set_option maxRecDepth 100000
set_option maxHeartbeats 4000000
def L_toBooking (g : G) (t : TE) (a0 : Booking) : Booking :=
  lP (L_toTrip g t (Trip.mk a0.Trip.Leg a0.Trip.Day)) fun x1 =>
  (Booking.mk a0.Thing x1 a0.Weight)
theorem fit100 : codeFit Try.prog Try.f100.ntmps (Try.f100.body.getD .skip) ir100 = true := by kernel_rfl
theorem c_L_toBooking {g : G} {t : TE} {a0 : Booking} {r : Booking} (hg : g = G.real) (ht : t = TE.real) (h : L_toBooking g t a0 = r) : Fn Try.prog 100 [.g (Booking.rs t a0)] (.g (Booking.ds t r)) := by
  obtain ⟨X, hX⟩ := hide (.g (Booking.ds t r) : X)
  rw [← hX]
  refine fn_of (rvs := rv100) (j := ir100) Try.func100 rfl fit100 (Nat.le_of_ble_eq_true rfl) (by kernel_rfl) prog_mixed ?_
  intro g2 F hg2 hF
  obtain rfl : g2 = g := hg2.unique.trans hg.symm
  clear hg2
  obtain ⟨wrap, lt, le, eq, quo, rem, band, bor, bxor, shl, shr, nat, int, add, sub, mul, cat, seq, slt, sub3, byte, llen, nadd, nsub, dlen, dapp, dset, drep, rd, rda, up, rsub, dsub, all, sle, slen⟩ := g2
  obtain ⟨r_S, d_S, r_Trip, d_Trip, r_Leg, d_Leg, r_I64, d_I64, r_Order, d_Order, r_Booking, d_Booking, r_Scan, d_Scan, r_U8, d_U8, r_LI64, d_LI64⟩ := t
  obtain ⟨a0_Thing, ⟨a0_Trip_Leg, a0_Trip_Day⟩, a0_Weight⟩ := a0
  unfold L_toBooking at h
  try dsimp only at h
  cbv
  obtain ⟨x1, hx1, h⟩ := of_lP h
  obtain ⟨x1_Leg, x1_Day⟩ := x1
  try dsimp only at h
  refine ACall.mk _ _ rfl (hF _ _ _ (c_L_toTrip hg ht hx1)) (.inl rfl) (Nat.le_of_ble_eq_true rfl) ?_
  cbv
  subst h
  exact ARet.mk trivial hX.symm
end Go.Vs
namespace Go.Vs
set_option maxRecDepth 100000
def ir94 : J :=
  .seq (.reg none [⟨(some 4), none, .mv (.k (V.b false))⟩] [0, 1])
  (.seq (.seq (.reg none [⟨(some 6), none, .mv (.t 0)⟩,
      ⟨(some 7), none, .len false (.t 6)⟩,
      ⟨(some 8), none, .mv (.t 1)⟩,
      ⟨(some 9), none, .len false (.t 8)⟩,
      ⟨(some 10), none, .bin .neq .i (.t 7) (.t 9)⟩] [0, 1, 10])
   (.cond (.t 10)
    (.seq (.reg none [⟨(some 4), none, .mv (.k (V.b false))⟩] [4])
     (.ret))
    (.skip)))
  (.seq (.seq (.reg none [⟨(some 5), none, .mv (.k (V.i 0))⟩] [0, 1, 5])
   (.bl 0 (.seq (.seq (.reg none [⟨(some 11), none, .mv (.t 5)⟩,
        ⟨(some 12), none, .mv (.t 0)⟩,
        ⟨(some 13), none, .len false (.t 12)⟩,
        ⟨(some 14), none, .bin .lss .i (.t 11) (.t 13)⟩] [0, 1, 5, 14])
     (.cond (.t 14)
      (.skip)
      (.exit 0)))
    (.seq (.block 1 (.seq (.reg (some [[], [], [0, 1], [0, 1, 2], [], [], [4, 5], [4, 5, 6], [0, 1, 2, 3, 4, 5, 6, 7], [0, 1, 2, 3, 4, 5, 6, 7, 8]]) [⟨(some 17), none, .mv (.t 0)⟩,
         ⟨(some 18), none, .mv (.t 5)⟩,
         ⟨(some 19), none, .ia 6 (.t 17) (.t 18)⟩,
         ⟨(some 20), none, .ld true 6 (.t 19)⟩,
         ⟨(some 21), none, .mv (.t 1)⟩,
         ⟨(some 22), none, .mv (.t 5)⟩,
         ⟨(some 23), none, .ia 6 (.t 21) (.t 22)⟩,
         ⟨(some 24), none, .ld true 6 (.t 23)⟩,
         ⟨(some 25), none, .call 131 true [(.t 20), (.t 24)]⟩,
         ⟨(some 26), none, .not (.t 25)⟩] [0, 1, 5, 26])
      (.cond (.t 26)
       (.seq (.reg none [⟨(some 4), none, .mv (.k (V.b false))⟩] [4])
        (.ret))
       (.skip))))
    (.reg none [⟨(some 15), none, .mv (.t 5)⟩,
      ⟨(some 16), none, .bin .add .i (.t 15) (.k (V.i 1))⟩,
      ⟨(some 5), none, .mv (.t 16)⟩] [0, 1, 5])))))
  (.seq (.reg none [⟨(some 4), none, .mv (.k (V.b true))⟩] [4])
  (.ret))))
def rv94 : List RV := [.t 4]
open Go.Proofs Go.IntWalk
set_option linter.unusedVariables false
set_option maxRecDepth 100000
set_option maxHeartbeats 4000000
def L_eqLegS_l1 (g : G) (t : TE) (a1 : List Leg) : List Leg → Int → Option (LR Bool Unit)
  | [], v1 =>
    some (LR.out ())
  | z1 :: ls1, v1 =>
    gt a1 (g.nat v1) fun x1 =>
    lP (L_eqLeg g t z1 x1) fun x2 =>
    br x2
    (
     L_eqLegS_l1 g t a1 ls1 (g.wrap .i64 (g.add v1 1)))
    (
     some (LR.ret false))
def L_eqLegS (g : G) (t : TE) (a0 : List Leg) (a1 : List Leg) : Option Bool :=
  br (g.eq (g.llen (t.r_Leg a0)) (g.llen (t.r_Leg a1)))
  (
   cl (L_eqLegS_l1 g t a1 a0 0) fun o1 => lr o1 fun y1 =>
   some true)
  (
   some false)
theorem fit94 : codeFit Try.prog Try.f94.ntmps (Try.f94.body.getD .skip) ir94 = true := by kernel_rfl
theorem c_L_eqLegS {g : G} {t : TE} {a0 : List Leg} {a1 : List Leg} {r : Bool} (hg : g = G.real) (ht : t = TE.real) (h : L_eqLegS g t a0 a1 = some r) : Fn Try.prog 94 [.c (.s 6 (t.r_Leg a0)), .c (.s 6 (t.r_Leg a1))] (.c (.r (.v (.bool r)))) := by
  obtain ⟨X, hX⟩ := hide (.c (.r (.v (.bool r))) : X)
  rw [← hX]
  refine fn_of (rvs := rv94) (j := ir94) Try.func94 rfl fit94 (Nat.le_of_ble_eq_true rfl) (by kernel_rfl) prog_mixed ?_
  intro g2 F hg2 hF
  obtain rfl : g2 = g := hg2.unique.trans hg.symm
  clear hg2
  obtain ⟨wrap, lt, le, eq, quo, rem, band, bor, bxor, shl, shr, nat, int, add, sub, mul, cat, seq, slt, sub3, byte, llen, nadd, nsub, dlen, dapp, dset, drep, rd, rda, up, rsub, dsub, all, sle, slen⟩ := g2
  obtain ⟨r_S, d_S, r_Trip, d_Trip, r_Leg, d_Leg, r_I64, d_I64, r_Order, d_Order, r_Booking, d_Booking, r_Scan, d_Scan, r_U8, d_U8, r_LI64, d_LI64⟩ := t
  unfold L_eqLegS at h
  try dsimp only at h
  cbv
  cases hb1 : (eq (llen (r_Leg a0)) (llen (r_Leg a1))) with
  | true =>
    rw [br_true hb1] at h
    cbv
    obtain ⟨o1, ho1, h⟩ := of_cl h
    try dsimp only at h
    try rw [hg] at ho1
    try rw [ht] at ho1
    refine ABL.mk { p : Nat × Int // p.1 ≤ a0.length ∧ p.2 = ((p.1 : Nat) : Int) ∧ L_eqLegS_l1 G.real TE.real a1 (List.drop p.1 a0) p.2 = some o1 } (fun ⟨⟨k1, v1⟩, _⟩ => ({ sl := [(0, .c (.r (.s 6 (r_Leg a0)))), (1, .c (.r (.s 6 (r_Leg a1)))), (5, .c (.r (.v (.int .i64 v1))))], tab := [] } : St)) 0 (fun p => a0.length - p.1.1) ⟨(0, 0), Nat.zero_le _, rfl, ho1⟩ (Unit) (fun _ => ({ sl := [], tab := [] } : St)) 0 (fun y => o1 = LR.out y) ?_ ?_ ?_
    · refine Wk.of [] rfl rfl ?_ ?_
      · cbv
        all_goals exact ⟨⟨_, rfl, rfl⟩, ⟨_, rfl, rfl⟩, ⟨_, rfl, rfl⟩, trivial⟩
      · cbv
        all_goals exact trivial
    · rintro ⟨⟨k1, v1⟩, hk1, hi1, h_1⟩ hq1
      have hm1 := (hq1.1 0 _ _ rfl)
      try dsimp only at hk1 hi1 h_1
      clear hq1
      cbv
      by_cases hc1_ : k1 < a0.length
      · have hb2 : lt v1 (llen (r_Leg a0)) = true := ltL_true_Leg hg ht hi1 hc1_
        have hs1 := stepL_Leg hg ht hi1 hc1_ hm1
        obtain ⟨z1, hz1⟩ := some_of_lt hc1_
        rw [drop_of_some hz1] at h_1
        rw [L_eqLegS_l1] at h_1
        obtain ⟨z1_From, z1_To, z1_Start, z1_Takes, z1_Days, z1_Room⟩ := z1
        try rw [← hg] at h_1
        try rw [← ht] at h_1
        try dsimp only at h_1
        rw [hb2]
        cbv
        refine AStep.mk (nn_L hi1) ?_
        cbv
        refine AGet.mk _ (r_getL_Leg hg ht hi1 hz1) ?_
        cbv
        refine AStep.mk (nn_L hi1) ?_
        cbv
        obtain ⟨x1, hx1, h_1⟩ := of_gt h_1
        obtain ⟨x1_From, x1_To, x1_Start, x1_Takes, x1_Days, x1_Room⟩ := x1
        try dsimp only at h_1
        refine AGet.mk _ (r_get_Leg hg ht hx1) ?_
        cbv
        obtain ⟨x2, hx2, h_1⟩ := of_lP h_1
        try dsimp only at h_1
        refine ACall.mk _ _ rfl (hF _ _ _ (c_L_eqLeg hg ht hx2)) (.inl rfl) (Nat.le_of_ble_eq_true rfl) ?_
        cbv
        cases hb3 : x2 with
        | true =>
          rw [br_true hb3] at h_1
          cbv
          try rw [hg] at h_1
          try rw [ht] at h_1
          refine ⟨⟨(k1 + 1, (wrap .i64 (add v1 1))), hc1_, hs1, h_1⟩, Wk.of [] rfl rfl ?_ ?_, meas_L hc1_⟩
          · cbv
            all_goals exact ⟨⟨_, rfl, rfl⟩, ⟨_, rfl, rfl⟩, ⟨_, rfl, rfl⟩, trivial⟩
          · cbv
            all_goals exact trivial
        | false =>
          rw [br_false hb3] at h_1
          cbv
          obtain rfl := Option.some.inj h_1
          try dsimp only [lr, lrL, lrp, lrpL] at h
          obtain rfl := Option.some.inj h
          exact ARet.mk trivial hX.symm
      · have hb2 : lt v1 (llen (r_Leg a0)) = false := ltL_false_Leg hg ht hi1 hc1_
        rw [List.drop_of_length_le (Nat.le_of_not_lt hc1_)] at h_1
        rw [L_eqLegS_l1] at h_1
        try rw [← hg] at h_1
        try rw [← ht] at h_1
        try dsimp only at h_1
        rw [hb2]
        cbv
        refine ⟨(), Wk.of [] rfl rfl ?_ ?_, (Option.some.inj h_1).symm⟩
        · cbv
          all_goals exact trivial
        · cbv
          all_goals exact trivial
    · rintro _ hy1
      replace hy1 := hy1.symm
      subst hy1
      try dsimp only [lr, lrL, lrp, lrpL] at h
      cbv
      obtain rfl := Option.some.inj h
      exact ARet.mk trivial hX.symm
  | false =>
    rw [br_false hb1] at h
    cbv
    obtain rfl := Option.some.inj h
    exact ARet.mk trivial hX.symm
end Go.Vs
