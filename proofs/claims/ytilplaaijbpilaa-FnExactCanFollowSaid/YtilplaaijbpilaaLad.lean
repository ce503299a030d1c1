/- Part of the proofs of this seat's laws: Lad. No condition. -/
import Derived.Test.YtilplaaijbpilaaTy
import Derived.Test.YtilplaaijbpilaaTIRall
import Derived.Test.YtilplaaijbpilaaLac
import Derived.Test.YtilplaaijbpilaaLab
import Derived.Test.YtilplaaijbpilaaLaa
set_option linter.unusedVariables false
set_option linter.unusedSimpArgs false
set_option linter.unusedSectionVars false
namespace Go.Vs
set_option maxRecDepth 100000
def ir112 : J :=
  .seq (.reg none [⟨(some 1), none, .box (.t 0)⟩,
     ⟨(some 2), none, .mv (.k (.c .un))⟩] [1])
  (.seq (.reg none [⟨(some 3), none, .clo false 116 [(.t 1)]⟩,
     ⟨(some 2), none, .mv (.t 3)⟩] [2])
  (.ret))
def rv112 : List RV := [.t 2]
open Go.Proofs Go.IntWalk
set_option linter.unusedVariables false
set_option maxRecDepth 100000
set_option maxHeartbeats 4000000
def I_nextOf (g : G) (t : TE) (a0 : Network) : Fd :=
  (Fd.I_nextOf_1 a0)
theorem fit112 : codeFit Try.prog Try.f112.ntmps (Try.f112.body.getD .skip) ir112 = true := by kernel_rfl
theorem c_I_nextOf {g : G} {t : TE} {a0 : Network} {r : Fd} (hg : g = G.real) (ht : t = TE.real) (h : I_nextOf g t a0 = r) : Fn Try.prog 112 [.g (Network.rs t a0)] (.c (.r (t.r_Fd r))) := by
  obtain ⟨X, hX⟩ := hide (.c (.r (t.r_Fd r)) : X)
  rw [← hX]
  refine fn_of (rvs := rv112) (j := ir112) Try.func112 rfl fit112 (Nat.le_of_ble_eq_true rfl) (by kernel_rfl) prog_mixed ?_
  intro g2 F hg2 hF
  obtain rfl : g2 = g := hg2.unique.trans hg.symm
  clear hg2
  obtain ⟨wrap, lt, le, eq, quo, rem, band, bor, bxor, shl, shr, nat, int, add, sub, mul, cat, seq, slt, sub3, byte, llen, nadd, nsub, dlen, dapp, dset, drep, rd, rda, up, rsub, dsub, all, sle, slen, hasI, putI, hasS, putS, imin, imax, fzc, bstr⟩ := g2
  obtain ⟨r_Leg, d_Leg, r_I64, d_I64, r_Booking, d_Booking, r_Trip, d_Trip, r_S, d_S, r_LI64, d_LI64, r_U8, d_U8, r_Fd⟩ := t
  obtain ⟨a0_Legs, a0_Off, a0_Change⟩ := a0
  unfold I_nextOf at h
  try dsimp only at h
  cbv
  refine AClo.mk (r_Fd (Fd.I_nextOf_1 (Network.mk a0_Legs a0_Off a0_Change))) (fdc_I_nextOf_1 ht (Network.mk a0_Legs a0_Off a0_Change)) ?_
  cbv
  subst h
  exact ARet.mk trivial hX.symm
end Go.Vs
namespace Go.Vs
set_option maxRecDepth 100000
def ir104 : J :=
  .seq (.reg none [⟨(some 4), none, .box (.t 0)⟩,
     ⟨(some 8), none, .mv (.k (.c (.n 1)))⟩] [1, 2, 3, 4])
  (.seq (.seq (.reg none [⟨(some 9), none, .ld true 3 (.t 4)⟩,
      ⟨(some 10), none, .call 69 true [(.t 9)]⟩,
      ⟨(some 11), none, .not (.t 10)⟩] [1, 2, 3, 4, 11])
   (.cond (.t 11)
    (.seq (.reg none [⟨(some 8), none, .mv (.k (.c (.n 1)))⟩] [8])
     (.ret))
    (.skip)))
  (.seq (.reg (some [[], [], [1], [], [], [], [0, 1, 2, 3, 4, 5], [0, 1, 2, 3, 4, 5, 6]]) [⟨(some 12), none, .ld true 3 (.t 4)⟩,
     ⟨(some 13), none, .ld true 3 (.t 4)⟩,
     ⟨(some 14), none, .call 112 true [(.t 13)]⟩,
     ⟨(some 15), none, .mv (.t 1)⟩,
     ⟨(some 16), none, .mv (.t 2)⟩,
     ⟨(some 17), none, .mv (.t 3)⟩,
     ⟨(some 18), none, .call 53 true [(.t 12), (.t 14), (.t 15), (.t 16), (.t 17)]⟩,
     ⟨(some 8), none, .mv (.t 18)⟩] [8])
  (.ret)))
def rv104 : List RV := [.t 8]
open Go.Proofs Go.IntWalk
set_option linter.unusedVariables false
set_option maxRecDepth 100000
set_option maxHeartbeats 4000000
def I_BestArrivals (g : G) (t : TE) (a0 : Network) (a1 : ByteArray) (a2 : Int) (a3 : Int) : Option (List Int) :=
  cl (I_IsNetwork g t a0) fun x1 =>
  br x1
  (
   lP (I_nextOf g t a0) fun x2 =>
   cl (I_arrivals g t a0 x2 a1 a2 a3) fun x3 =>
   some x3)
  (
   some [])
theorem fit104 : codeFit Try.prog Try.f104.ntmps (Try.f104.body.getD .skip) ir104 = true := by kernel_rfl
theorem c_I_BestArrivals {g : G} {t : TE} {a0 : Network} {a1 : ByteArray} {a2 : Int} {a3 : Int} {r : List Int} (hg : g = G.real) (ht : t = TE.real) (h : I_BestArrivals g t a0 a1 a2 a3 = some r) : Fn Try.prog 104 [.g (Network.rs t a0), .c (.v (.string a1)), .c (.v (.int .i64 a2)), .c (.v (.int .i64 a3))] (.c (.o 1 (t.d_I64 r))) := by
  obtain ⟨X, hX⟩ := hide (.c (.o 1 (t.d_I64 r)) : X)
  rw [← hX]
  refine fn_of (rvs := rv104) (j := ir104) Try.func104 rfl fit104 (Nat.le_of_ble_eq_true rfl) (by kernel_rfl) prog_mixed ?_
  intro g2 F hg2 hF
  obtain rfl : g2 = g := hg2.unique.trans hg.symm
  clear hg2
  obtain ⟨wrap, lt, le, eq, quo, rem, band, bor, bxor, shl, shr, nat, int, add, sub, mul, cat, seq, slt, sub3, byte, llen, nadd, nsub, dlen, dapp, dset, drep, rd, rda, up, rsub, dsub, all, sle, slen, hasI, putI, hasS, putS, imin, imax, fzc, bstr⟩ := g2
  obtain ⟨r_Leg, d_Leg, r_I64, d_I64, r_Booking, d_Booking, r_Trip, d_Trip, r_S, d_S, r_LI64, d_LI64, r_U8, d_U8, r_Fd⟩ := t
  obtain ⟨a0_Legs, a0_Off, a0_Change⟩ := a0
  have hnil_I64 : d_I64 [] = [] := d_nil_I64 ht
  unfold I_BestArrivals at h
  try dsimp only at h
  cbv
  obtain ⟨x1, hx1, h⟩ := of_cl h
  try dsimp only at h
  refine ACall.mk _ _ rfl (hF _ _ _ (c_I_IsNetwork hg ht hx1)) (.inl rfl) (Nat.le_of_ble_eq_true rfl) ?_
  cbv
  cases hb1 : x1 with
  | true =>
    rw [br_true hb1] at h
    cbv
    obtain ⟨x2, hx2, h⟩ := of_lP h
    try dsimp only at h
    refine ACall.mk _ _ rfl (hF _ _ _ (c_I_nextOf hg ht hx2)) (.inl rfl) (Nat.le_of_ble_eq_true rfl) ?_
    cbv
    obtain ⟨x3, hx3, h⟩ := of_cl h
    try dsimp only at h
    refine ACall.mk _ _ rfl (hF _ _ _ (c_I_arrivals hg ht hx3)) (.inl rfl) (Nat.le_of_ble_eq_true rfl) ?_
    cbv
    obtain rfl := Option.some.inj h
    exact ARet.mk ⟨rfl, (dlen_I64 hg ht _)⟩ hX.symm
  | false =>
    rw [br_false hb1] at h
    cbv
    obtain rfl := Option.some.inj h
    exact ARet.mk trivial (by rw [hX]; first | rfl | (simp only [Leg.ds, Network.ds, Trip.ds, Scan.ds, Booking.ds, Spot.ds, hnil_I64]; try rfl))
end Go.Vs
namespace Go.Vs
set_option maxRecDepth 100000
def ir79 : J :=
  .seq (.reg none [⟨(some 4), none, .box (.t 0)⟩,
     ⟨(some 8), none, .mv (.k (V.i 0))⟩] [1, 2, 3, 4])
  (.seq (.reg none [⟨(some 12), none, .ld true 3 (.t 4)⟩,
     ⟨(some 13), none, .call 72 true [(.t 12)]⟩,
     ⟨(some 9), none, .mv (.t 13)⟩] [1, 2, 3, 4, 9])
  (.seq (.reg none [⟨(some 14), none, .ld true 3 (.t 4)⟩,
     ⟨(some 15), none, .mv (.t 1)⟩,
     ⟨(some 16), none, .mv (.t 3)⟩,
     ⟨(some 17), none, .mv (.t 9)⟩,
     ⟨(some 18), none, .len false (.t 17)⟩,
     ⟨(some 19), none, .call 104 true [(.t 14), (.t 15), (.t 16), (.t 18)]⟩,
     ⟨(some 10), none, .mv (.t 19)⟩] [2, 9, 10])
  (.seq (.reg none [⟨(some 20), none, .mv (.t 9)⟩,
     ⟨(some 21), none, .mv (.t 2)⟩,
     ⟨(some 22), none, .call 71 true [(.t 20), (.t 21)]⟩,
     ⟨(some 11), none, .mv (.t 22)⟩] [10, 11])
  (.seq (.seq (.reg none [⟨(some 23), none, .mv (.t 11)⟩,
      ⟨(some 24), none, .bin .lss .i (.t 23) (.k (V.i 0))⟩,
      ⟨(some 25), none, .mv (.t 24)⟩,
      ⟨(some 26), (some (25, false)), .mv (.t 10)⟩,
      ⟨(some 27), (some (25, false)), .len false (.t 26)⟩,
      ⟨(some 28), (some (25, false)), .bin .eql .i (.t 27) (.k (V.i 0))⟩,
      ⟨(some 29), none, .pick (.t 25) (.k (V.b true)) (.t 28)⟩] [10, 11, 29])
   (.cond (.t 29)
    (.seq (.reg none [⟨(some 8), none, .mv (.k (V.i (-1)))⟩] [8])
     (.ret))
    (.skip)))
  (.seq (.reg none [⟨(some 30), none, .mv (.t 10)⟩,
     ⟨(some 31), none, .mv (.t 11)⟩,
     ⟨(some 32), none, .ia 1 (.t 30) (.t 31)⟩,
     ⟨(some 33), none, .ld false 1 (.t 32)⟩,
     ⟨(some 8), none, .mv (.t 33)⟩] [8])
  (.ret))))))
def rv79 : List RV := [.t 8]
open Go.Proofs Go.IntWalk
set_option linter.unusedVariables false
set_option maxRecDepth 100000
set_option maxHeartbeats 4000000
def I_EarliestAt (g : G) (t : TE) (a0 : Network) (a1 : ByteArray) (a2 : ByteArray) (a3 : Int) : Option Int :=
  cl (I_PlacesOf g t a0) fun x1 =>
  cl (I_BestArrivals g t a0 a1 a3 (g.int (g.dlen (t.d_S x1)))) fun x2 =>
  lP (I_placeAt g t x1 a2) fun x3 =>
  br (g.lt x3 0)
  (
   some (-1))
  (
   br (g.eq (g.int (g.dlen (t.d_I64 x2))) 0)
   (
    some (-1))
   (
    gd (((0 : Int) ≤ x3 ∧ x3 < (((g.dlen (t.d_I64 x2)) : Nat) : Int))) <|
    gt x2 (g.nat x3) fun x4 =>
    some x4))
theorem fit79 : codeFit Try.prog Try.f79.ntmps (Try.f79.body.getD .skip) ir79 = true := by kernel_rfl
theorem c_I_EarliestAt {g : G} {t : TE} {a0 : Network} {a1 : ByteArray} {a2 : ByteArray} {a3 : Int} {r : Int} (hg : g = G.real) (ht : t = TE.real) (h : I_EarliestAt g t a0 a1 a2 a3 = some r) : Fn Try.prog 79 [.g (Network.rs t a0), .c (.v (.string a1)), .c (.v (.string a2)), .c (.v (.int .i64 a3))] (.c (.r (.v (.int .i64 r)))) := by
  obtain ⟨X, hX⟩ := hide (.c (.r (.v (.int .i64 r))) : X)
  rw [← hX]
  refine fn_of (rvs := rv79) (j := ir79) Try.func79 rfl fit79 (Nat.le_of_ble_eq_true rfl) (by kernel_rfl) prog_mixed ?_
  intro g2 F hg2 hF
  obtain rfl : g2 = g := hg2.unique.trans hg.symm
  clear hg2
  obtain ⟨wrap, lt, le, eq, quo, rem, band, bor, bxor, shl, shr, nat, int, add, sub, mul, cat, seq, slt, sub3, byte, llen, nadd, nsub, dlen, dapp, dset, drep, rd, rda, up, rsub, dsub, all, sle, slen, hasI, putI, hasS, putS, imin, imax, fzc, bstr⟩ := g2
  obtain ⟨r_Leg, d_Leg, r_I64, d_I64, r_Booking, d_Booking, r_Trip, d_Trip, r_S, d_S, r_LI64, d_LI64, r_U8, d_U8, r_Fd⟩ := t
  obtain ⟨a0_Legs, a0_Off, a0_Change⟩ := a0
  unfold I_EarliestAt at h
  try dsimp only at h
  cbv
  obtain ⟨x1, hx1, h⟩ := of_cl h
  try dsimp only at h
  refine ACall.mk _ _ rfl (hF _ _ _ (c_I_PlacesOf hg ht hx1)) (.inl rfl) (Nat.le_of_ble_eq_true rfl) ?_
  cbv
  obtain ⟨x2, hx2, h⟩ := of_cl h
  try dsimp only at h
  refine ACall.mk _ _ rfl (hF _ _ _ (c_I_BestArrivals hg ht hx2)) (.inl rfl) (Nat.le_of_ble_eq_true rfl) ?_
  cbv
  refine AStep.mk (lend_S ht (dlen_S hg ht _)) ?_
  cbv
  obtain ⟨x3, hx3, h⟩ := of_lP h
  try dsimp only at h
  refine ACall.mk _ _ (by rw [show rd (d_S x1) 0 (dlen (d_S x1)) = r_S x1 from rdw_S hg ht (dlen_S hg ht _)]; try rfl) (hF _ _ _ (c_I_placeAt hg ht hx3)) (.inr rfl) (Nat.le_of_ble_eq_true rfl) ?_
  cbv
  cases hb1 : (lt x3 0) with
  | true =>
    rw [br_true hb1] at h
    cbv
    try (rw [hb1]; cbv)
    try (rw [hb1]; cbv)
    try (rw [hb1]; cbv)
    obtain rfl := Option.some.inj h
    exact ARet.mk trivial hX.symm
  | false =>
    rw [br_false hb1] at h
    cbv
    try (rw [hb1]; cbv)
    try (rw [hb1]; cbv)
    try (rw [hb1]; cbv)
    cases hb2 : (eq (int (dlen (d_I64 x2))) 0) with
    | true =>
      rw [br_true hb2] at h
      cbv
      obtain rfl := Option.some.inj h
      exact ARet.mk trivial hX.symm
    | false =>
      rw [br_false hb2] at h
      cbv
      obtain ⟨hc1, h⟩ := of_gd h
      refine AStep.mk hc1 ?_
      cbv
      obtain ⟨x4, hx4, h⟩ := of_gt h
      try dsimp only at h
      refine AGet.mk _ (d_get_I64 hg ht hx4) ?_
      cbv
      obtain rfl := Option.some.inj h
      exact ARet.mk trivial hX.symm
end Go.Vs
namespace Go.Vs
set_option maxRecDepth 100000
def ir42 : J :=
  .seq (.reg none [⟨(some 3), none, .box (.t 0)⟩,
     ⟨(some 4), none, .box (.t 1)⟩,
     ⟨(some 5), none, .box (.t 2)⟩,
     ⟨(some 6), none, .mv (.k (V.b false))⟩] [3, 4, 5])
  (.seq (.seq (.reg none [⟨(some 8), none, .fa 0 (.t 4)⟩,
      ⟨(some 9), none, .ld false 1 (.t 8)⟩,
      ⟨(some 10), none, .fa 0 (.t 5)⟩,
      ⟨(some 11), none, .ld false 1 (.t 10)⟩,
      ⟨(some 12), none, .bin .eql .s (.t 9) (.t 11)⟩] [3, 4, 5, 12])
   (.cond (.t 12)
    (.seq (.reg none [⟨(some 13), none, .fa 1 (.t 4)⟩,
        ⟨(some 14), none, .ld false 1 (.t 13)⟩,
        ⟨(some 15), none, .fa 1 (.t 5)⟩,
        ⟨(some 16), none, .ld false 1 (.t 15)⟩,
        ⟨(some 17), none, .bin .leq .i (.t 14) (.t 16)⟩,
        ⟨(some 6), none, .mv (.t 17)⟩] [6])
     (.ret))
    (.skip)))
  (.seq (.reg none [⟨(some 18), none, .ld true 3 (.t 3)⟩,
     ⟨(some 19), none, .fa 0 (.t 4)⟩,
     ⟨(some 20), none, .ld false 1 (.t 19)⟩,
     ⟨(some 21), none, .fa 0 (.t 5)⟩,
     ⟨(some 22), none, .ld false 1 (.t 21)⟩,
     ⟨(some 23), none, .fa 1 (.t 4)⟩,
     ⟨(some 24), none, .ld false 1 (.t 23)⟩,
     ⟨(some 25), none, .call 79 true [(.t 18), (.t 20), (.t 22), (.t 24)]⟩,
     ⟨(some 7), none, .mv (.t 25)⟩] [5, 7])
  (.seq (.reg none [⟨(some 26), none, .mv (.t 7)⟩,
     ⟨(some 27), none, .bin .neq .i (.t 26) (.k (V.i (-1)))⟩,
     ⟨(some 28), none, .mv (.t 27)⟩,
     ⟨(some 29), (some (28, true)), .mv (.t 7)⟩,
     ⟨(some 30), (some (28, true)), .fa 1 (.t 5)⟩,
     ⟨(some 31), (some (28, true)), .ld false 1 (.t 30)⟩,
     ⟨(some 32), (some (28, true)), .bin .leq .i (.t 29) (.t 31)⟩,
     ⟨(some 33), none, .pick (.t 28) (.t 32) (.k (V.b false))⟩,
     ⟨(some 6), none, .mv (.t 33)⟩] [6])
  (.ret))))
def rv42 : List RV := [.t 6]
open Go.Proofs Go.IntWalk
set_option linter.unusedVariables false
set_option maxRecDepth 100000
set_option maxHeartbeats 4000000
def I_arrivesBy (g : G) (t : TE) (a0 : Network) (a1 : Spot) (a2 : Spot) : Option Bool :=
  br (g.seq a1.Place a2.Place)
  (
   some (g.le a1.At a2.At))
  (
   cl (I_EarliestAt g t a0 a1.Place a2.Place a1.At) fun x1 =>
   br (g.eq x1 (-1))
   (
    some false)
   (
    some (g.le x1 a2.At)))
theorem fit42 : codeFit Try.prog Try.f42.ntmps (Try.f42.body.getD .skip) ir42 = true := by kernel_rfl
theorem c_I_arrivesBy {g : G} {t : TE} {a0 : Network} {a1 : Spot} {a2 : Spot} {r : Bool} (hg : g = G.real) (ht : t = TE.real) (h : I_arrivesBy g t a0 a1 a2 = some r) : Fn Try.prog 42 [.g (Network.rs t a0), .g (Spot.rs t a1), .g (Spot.rs t a2)] (.c (.r (.v (.bool r)))) := by
  obtain ⟨X, hX⟩ := hide (.c (.r (.v (.bool r))) : X)
  rw [← hX]
  refine fn_of (rvs := rv42) (j := ir42) Try.func42 rfl fit42 (Nat.le_of_ble_eq_true rfl) (by kernel_rfl) prog_mixed ?_
  intro g2 F hg2 hF
  obtain rfl : g2 = g := hg2.unique.trans hg.symm
  clear hg2
  obtain ⟨wrap, lt, le, eq, quo, rem, band, bor, bxor, shl, shr, nat, int, add, sub, mul, cat, seq, slt, sub3, byte, llen, nadd, nsub, dlen, dapp, dset, drep, rd, rda, up, rsub, dsub, all, sle, slen, hasI, putI, hasS, putS, imin, imax, fzc, bstr⟩ := g2
  obtain ⟨r_Leg, d_Leg, r_I64, d_I64, r_Booking, d_Booking, r_Trip, d_Trip, r_S, d_S, r_LI64, d_LI64, r_U8, d_U8, r_Fd⟩ := t
  obtain ⟨a0_Legs, a0_Off, a0_Change⟩ := a0
  obtain ⟨a1_Place, a1_At⟩ := a1
  obtain ⟨a2_Place, a2_At⟩ := a2
  unfold I_arrivesBy at h
  try dsimp only at h
  cbv
  cases hb1 : (seq a1_Place a2_Place) with
  | true =>
    rw [br_true hb1] at h
    cbv
    obtain rfl := Option.some.inj h
    exact ARet.mk trivial hX.symm
  | false =>
    rw [br_false hb1] at h
    cbv
    obtain ⟨x1, hx1, h⟩ := of_cl h
    try dsimp only at h
    refine ACall.mk _ _ rfl (hF _ _ _ (c_I_EarliestAt hg ht hx1)) (.inl rfl) (Nat.le_of_ble_eq_true rfl) ?_
    cbv
    cases hb2 : (eq x1 (-1)) with
    | true =>
      rw [br_true hb2] at h
      cbv
      try (rw [hb2]; cbv)
      try (rw [hb2]; cbv)
      try (rw [hb2]; cbv)
      try (rw [hb2]; cbv)
      obtain rfl := Option.some.inj h
      exact ARet.mk trivial hX.symm
    | false =>
      rw [br_false hb2] at h
      cbv
      try (rw [hb2]; cbv)
      try (rw [hb2]; cbv)
      try (rw [hb2]; cbv)
      try (rw [hb2]; cbv)
      obtain rfl := Option.some.inj h
      exact ARet.mk trivial hX.symm
end Go.Vs
namespace Go.Vs
set_option maxRecDepth 100000
def ir80 (s_k0 : ByteArray) : J :=
  .seq (.reg none [⟨(some 2), none, .box (.t 0)⟩,
     ⟨(some 3), none, .box (.t 1)⟩,
     ⟨(some 4), none, .mv (.k (.c (.r (.v (.string s_k0)))))⟩] [2, 3])
  (.seq (.seq (.reg none [⟨(some 5), none, .ld true 3 (.t 2)⟩,
      ⟨(some 6), none, .ld true 6 (.t 3)⟩,
      ⟨(some 7), none, .call 40 true [(.t 5), (.t 6)]⟩,
      ⟨(some 8), none, .not (.t 7)⟩] [2, 3, 8])
   (.cond (.t 8)
    (.seq (.reg none [⟨(some 4), none, .mv (.k (.c (.r (.v (.string s_k0)))))⟩] [4])
     (.ret))
    (.skip)))
  (.seq (.seq (.reg none [⟨(some 9), none, .fa 2 (.t 3)⟩,
      ⟨(some 10), none, .ld false 1 (.t 9)⟩] [2, 3, 10])
   (.block 0 (.seq (.reg none [⟨(some 12), none, .bin .eql .i (.t 10) (.k (V.i 3))⟩,
       ⟨(some 11), none, .mv (.t 12)⟩] [2, 3, 10, 11])
    (.cond (.t 11)
     (.seq (.reg none [⟨(some 13), none, .fa 0 (.t 2)⟩,
         ⟨(some 14), none, .ld false 1 (.t 13)⟩,
         ⟨(some 15), none, .fa 4 (.t 3)⟩,
         ⟨(some 16), none, .fa 0 (.t 15)⟩,
         ⟨(some 17), none, .ld false 1 (.t 16)⟩,
         ⟨(some 18), none, .ia 6 (.t 14) (.t 17)⟩,
         ⟨(some 19), none, .fa 0 (.t 18)⟩,
         ⟨(some 20), none, .ld false 1 (.t 19)⟩,
         ⟨(some 4), none, .mv (.t 20)⟩] [4])
      (.ret))
     (.seq (.reg none [⟨(some 22), none, .bin .eql .i (.t 10) (.k (V.i 2))⟩,
         ⟨(some 21), none, .mv (.t 22)⟩] [2, 3, 21])
      (.cond (.t 21)
       (.seq (.reg none [⟨(some 23), none, .fa 0 (.t 2)⟩,
           ⟨(some 24), none, .ld false 1 (.t 23)⟩,
           ⟨(some 25), none, .fa 4 (.t 3)⟩,
           ⟨(some 26), none, .fa 0 (.t 25)⟩,
           ⟨(some 27), none, .ld false 1 (.t 26)⟩,
           ⟨(some 28), none, .ia 6 (.t 24) (.t 27)⟩,
           ⟨(some 29), none, .fa 1 (.t 28)⟩,
           ⟨(some 30), none, .ld false 1 (.t 29)⟩,
           ⟨(some 4), none, .mv (.t 30)⟩] [4])
        (.ret))
       (.skip)))))))
  (.seq (.reg none [⟨(some 31), none, .fa 3 (.t 3)⟩,
     ⟨(some 32), none, .ld false 1 (.t 31)⟩,
     ⟨(some 4), none, .mv (.t 32)⟩] [4])
  (.ret))))
def rv80 : List RV := [.t 4]
open Go.Proofs Go.IntWalk
set_option linter.unusedVariables false
set_option maxRecDepth 100000
set_option maxHeartbeats 4000000
def I_PlaceOf (g : G) (t : TE) (a0 : Network) (a1 : Scan) : Option ByteArray :=
  cl (I_IsScan g t a0 (Scan.mk a1.Thing a1.At a1.Kind a1.Place (Trip.mk a1.Trip.Leg a1.Trip.Day))) fun x1 =>
  br x1
  (
   br (g.eq a1.Kind 3)
   (
    gd (((0 : Int) ≤ a1.Trip.Leg)) <|
    gt a0.Legs (g.nat a1.Trip.Leg) fun x2 =>
    some x2.From)
   (
    br (g.eq a1.Kind 2)
    (
     gd (((0 : Int) ≤ a1.Trip.Leg)) <|
     gt a0.Legs (g.nat a1.Trip.Leg) fun x3 =>
     some x3.To)
    (
     some a1.Place)))
  (
   some str_k0)
theorem fit80 : codeFit Try.prog Try.f80.ntmps (Try.f80.body.getD .skip) (ir80 str_k0) = true := by kernel_rfl
theorem c_I_PlaceOf {g : G} {t : TE} {a0 : Network} {a1 : Scan} {r : ByteArray} (hg : g = G.real) (ht : t = TE.real) (h : I_PlaceOf g t a0 a1 = some r) : Fn Try.prog 80 [.g (Network.rs t a0), .g (Scan.rs t a1)] (.c (.r (.v (.string r)))) := by
  obtain ⟨X, hX⟩ := hide (.c (.r (.v (.string r))) : X)
  rw [← hX]
  refine fn_of (rvs := rv80) (j := (ir80 str_k0)) Try.func80 rfl fit80 (Nat.le_of_ble_eq_true rfl) (by kernel_rfl) prog_mixed ?_
  intro g2 F hg2 hF
  obtain rfl : g2 = g := hg2.unique.trans hg.symm
  clear hg2
  obtain ⟨wrap, lt, le, eq, quo, rem, band, bor, bxor, shl, shr, nat, int, add, sub, mul, cat, seq, slt, sub3, byte, llen, nadd, nsub, dlen, dapp, dset, drep, rd, rda, up, rsub, dsub, all, sle, slen, hasI, putI, hasS, putS, imin, imax, fzc, bstr⟩ := g2
  obtain ⟨r_Leg, d_Leg, r_I64, d_I64, r_Booking, d_Booking, r_Trip, d_Trip, r_S, d_S, r_LI64, d_LI64, r_U8, d_U8, r_Fd⟩ := t
  obtain ⟨a0_Legs, a0_Off, a0_Change⟩ := a0
  obtain ⟨a1_Thing, a1_At, a1_Kind, a1_Place, ⟨a1_Trip_Leg, a1_Trip_Day⟩⟩ := a1
  unfold I_PlaceOf at h
  try dsimp only at h
  obtain ⟨s_k0, hs_k0⟩ : ∃ s, str_k0 = s := ⟨_, rfl⟩
  try rw [hs_k0] at h
  rw [hs_k0]
  cbv
  obtain ⟨x1, hx1, h⟩ := of_cl h
  try dsimp only at h
  refine ACall.mk _ _ rfl (hF _ _ _ (c_I_IsScan hg ht hx1)) (.inl rfl) (Nat.le_of_ble_eq_true rfl) ?_
  cbv
  cases hb1 : x1 with
  | true =>
    rw [br_true hb1] at h
    cbv
    cases hb2 : (eq a1_Kind 3) with
    | true =>
      rw [br_true hb2] at h
      cbv
      obtain ⟨hc1, h⟩ := of_gd h
      refine AStep.mk hc1 ?_
      cbv
      obtain ⟨x2, hx2, h⟩ := of_gt h
      obtain ⟨x2_From, x2_To, x2_Start, x2_Takes, x2_Days, x2_Room⟩ := x2
      try dsimp only at h
      refine AGet.mk _ (r_get_Leg hg ht hx2) ?_
      cbv
      obtain rfl := Option.some.inj h
      exact ARet.mk trivial hX.symm
    | false =>
      rw [br_false hb2] at h
      cbv
      cases hb3 : (eq a1_Kind 2) with
      | true =>
        rw [br_true hb3] at h
        cbv
        obtain ⟨hc2, h⟩ := of_gd h
        refine AStep.mk hc2 ?_
        cbv
        obtain ⟨x3, hx3, h⟩ := of_gt h
        obtain ⟨x3_From, x3_To, x3_Start, x3_Takes, x3_Days, x3_Room⟩ := x3
        try dsimp only at h
        refine AGet.mk _ (r_get_Leg hg ht hx3) ?_
        cbv
        obtain rfl := Option.some.inj h
        exact ARet.mk trivial hX.symm
      | false =>
        rw [br_false hb3] at h
        cbv
        obtain rfl := Option.some.inj h
        exact ARet.mk trivial hX.symm
  | false =>
    rw [br_false hb1] at h
    cbv
    obtain rfl := Option.some.inj h
    exact ARet.mk trivial hX.symm
end Go.Vs
namespace Go.Vs
set_option maxRecDepth 100000
def ir43 : J :=
  .seq (.reg none [⟨(some 2), none, .box (.t 0)⟩,
     ⟨(some 3), none, .box (.t 1)⟩,
     ⟨(some 4), none, .alloc [.r (.v (.string .empty)), .r (.v (.int .i64 0))]⟩] [2, 3, 4])
  (.seq (.seq (.reg none [⟨(some 5), none, .ld true 3 (.t 2)⟩,
      ⟨(some 6), none, .ld true 6 (.t 3)⟩,
      ⟨(some 7), none, .call 40 true [(.t 5), (.t 6)]⟩,
      ⟨(some 8), none, .not (.t 7)⟩] [2, 3, 4, 8])
   (.cond (.t 8)
    (.seq (.reg none [⟨(some 9), none, .bld [.r (.v (.string .empty)), .r (.v (.int .i64 0))] []⟩,
        ⟨none, none, .st 2 (.t 4) (.t 9)⟩] [4])
     (.ret))
    (.skip)))
  (.seq (.seq (.reg none [⟨(some 10), none, .fa 2 (.t 3)⟩,
      ⟨(some 11), none, .ld false 1 (.t 10)⟩,
      ⟨(some 12), none, .bin .eql .i (.t 11) (.k (V.i 3))⟩] [2, 3, 4, 12])
   (.cond (.t 12)
    (.seq (.reg (some [[], [0], [], [2], [2, 3], [0, 1, 2, 3, 4], [0, 1, 2, 3, 4, 5], [0, 1, 2, 3, 4, 5, 6], [], [], [9], [8, 9, 10], [0, 1, 2, 3, 4, 5, 6, 7, 8, 9, 10, 11], [0, 1, 2, 3, 4, 5, 6, 7, 8, 9, 10, 11, 12]]) [⟨(some 13), none, .fa 0 (.t 2)⟩,
        ⟨(some 14), none, .ld false 1 (.t 13)⟩,
        ⟨(some 15), none, .fa 4 (.t 3)⟩,
        ⟨(some 16), none, .fa 0 (.t 15)⟩,
        ⟨(some 17), none, .ld false 1 (.t 16)⟩,
        ⟨(some 18), none, .ia 6 (.t 14) (.t 17)⟩,
        ⟨(some 19), none, .fa 1 (.t 18)⟩,
        ⟨(some 20), none, .ld false 1 (.t 19)⟩,
        ⟨(some 21), none, .ld true 3 (.t 2)⟩,
        ⟨(some 22), none, .fa 4 (.t 3)⟩,
        ⟨(some 23), none, .ld true 2 (.t 22)⟩,
        ⟨(some 24), none, .call 75 true [(.t 21), (.t 23)]⟩,
        ⟨(some 25), none, .bld [.r (.v (.string .empty)), .r (.v (.int .i64 0))] [(0, 1, (.t 20)), (1, 1, (.t 24))]⟩,
        ⟨none, none, .st 2 (.t 4) (.t 25)⟩] [4])
     (.ret))
    (.skip)))
  (.seq (.reg (some [[], [], [0, 1], [], [3], [0, 1, 2, 3, 4], [0, 1, 2, 3, 4, 5]]) [⟨(some 26), none, .ld true 3 (.t 2)⟩,
     ⟨(some 27), none, .ld true 6 (.t 3)⟩,
     ⟨(some 28), none, .call 80 true [(.t 26), (.t 27)]⟩,
     ⟨(some 29), none, .fa 1 (.t 3)⟩,
     ⟨(some 30), none, .ld false 1 (.t 29)⟩,
     ⟨(some 31), none, .bld [.r (.v (.string .empty)), .r (.v (.int .i64 0))] [(0, 1, (.t 28)), (1, 1, (.t 30))]⟩,
     ⟨none, none, .st 2 (.t 4) (.t 31)⟩] [4])
  (.ret))))
def rv43 : List RV := [.c 4 true 2]
open Go.Proofs Go.IntWalk
set_option linter.unusedVariables false
set_option maxRecDepth 100000
set_option maxHeartbeats 4000000
def I_SpotBehind (g : G) (t : TE) (a0 : Network) (a1 : Scan) : Option Spot :=
  cl (I_IsScan g t a0 (Scan.mk a1.Thing a1.At a1.Kind a1.Place (Trip.mk a1.Trip.Leg a1.Trip.Day))) fun x1 =>
  br x1
  (
   br (g.eq a1.Kind 3)
   (
    gd (((0 : Int) ≤ a1.Trip.Leg)) <|
    gt a0.Legs (g.nat a1.Trip.Leg) fun x2 =>
    cl (I_ends g t a0 (Trip.mk a1.Trip.Leg a1.Trip.Day)) fun x3 =>
    some (Spot.mk x2.To x3))
   (
    cl (I_PlaceOf g t a0 (Scan.mk a1.Thing a1.At a1.Kind a1.Place (Trip.mk a1.Trip.Leg a1.Trip.Day))) fun x4 =>
    some (Spot.mk x4 a1.At)))
  (
   some (Spot.mk ByteArray.empty 0))
theorem fit43 : codeFit Try.prog Try.f43.ntmps (Try.f43.body.getD .skip) ir43 = true := by kernel_rfl
theorem c_I_SpotBehind {g : G} {t : TE} {a0 : Network} {a1 : Scan} {r : Spot} (hg : g = G.real) (ht : t = TE.real) (h : I_SpotBehind g t a0 a1 = some r) : Fn Try.prog 43 [.g (Network.rs t a0), .g (Scan.rs t a1)] (.g (Spot.ds t r)) := by
  obtain ⟨X, hX⟩ := hide (.g (Spot.ds t r) : X)
  rw [← hX]
  refine fn_of (rvs := rv43) (j := ir43) Try.func43 rfl fit43 (Nat.le_of_ble_eq_true rfl) (by kernel_rfl) prog_mixed ?_
  intro g2 F hg2 hF
  obtain rfl : g2 = g := hg2.unique.trans hg.symm
  clear hg2
  obtain ⟨wrap, lt, le, eq, quo, rem, band, bor, bxor, shl, shr, nat, int, add, sub, mul, cat, seq, slt, sub3, byte, llen, nadd, nsub, dlen, dapp, dset, drep, rd, rda, up, rsub, dsub, all, sle, slen, hasI, putI, hasS, putS, imin, imax, fzc, bstr⟩ := g2
  obtain ⟨r_Leg, d_Leg, r_I64, d_I64, r_Booking, d_Booking, r_Trip, d_Trip, r_S, d_S, r_LI64, d_LI64, r_U8, d_U8, r_Fd⟩ := t
  obtain ⟨a0_Legs, a0_Off, a0_Change⟩ := a0
  obtain ⟨a1_Thing, a1_At, a1_Kind, a1_Place, ⟨a1_Trip_Leg, a1_Trip_Day⟩⟩ := a1
  unfold I_SpotBehind at h
  try dsimp only at h
  cbv
  obtain ⟨x1, hx1, h⟩ := of_cl h
  try dsimp only at h
  refine ACall.mk _ _ rfl (hF _ _ _ (c_I_IsScan hg ht hx1)) (.inl rfl) (Nat.le_of_ble_eq_true rfl) ?_
  cbv
  cases hb1 : x1 with
  | true =>
    rw [br_true hb1] at h
    cbv
    cases hb2 : (eq a1_Kind 3) with
    | true =>
      rw [br_true hb2] at h
      cbv
      obtain ⟨hc1, h⟩ := of_gd h
      refine AStep.mk hc1 ?_
      cbv
      obtain ⟨x2, hx2, h⟩ := of_gt h
      obtain ⟨x2_From, x2_To, x2_Start, x2_Takes, x2_Days, x2_Room⟩ := x2
      try dsimp only at h
      refine AGet.mk _ (r_get_Leg hg ht hx2) ?_
      cbv
      obtain ⟨x3, hx3, h⟩ := of_cl h
      try dsimp only at h
      refine ACall.mk _ _ rfl (hF _ _ _ (c_I_ends hg ht hx3)) (.inl rfl) (Nat.le_of_ble_eq_true rfl) ?_
      cbv
      obtain rfl := Option.some.inj h
      exact ARet.mk trivial hX.symm
    | false =>
      rw [br_false hb2] at h
      cbv
      obtain ⟨x4, hx4, h⟩ := of_cl h
      try dsimp only at h
      refine ACall.mk _ _ rfl (hF _ _ _ (c_I_PlaceOf hg ht hx4)) (.inl rfl) (Nat.le_of_ble_eq_true rfl) ?_
      cbv
      obtain rfl := Option.some.inj h
      exact ARet.mk trivial hX.symm
  | false =>
    rw [br_false hb1] at h
    cbv
    obtain rfl := Option.some.inj h
    exact ARet.mk trivial hX.symm
end Go.Vs
namespace Go.Vs
set_option maxRecDepth 100000
def ir44 : J :=
  .seq (.reg none [⟨(some 2), none, .box (.t 0)⟩,
     ⟨(some 3), none, .box (.t 1)⟩,
     ⟨(some 4), none, .alloc [.r (.v (.string .empty)), .r (.v (.int .i64 0))]⟩] [2, 3, 4])
  (.seq (.seq (.reg none [⟨(some 5), none, .ld true 3 (.t 2)⟩,
      ⟨(some 6), none, .ld true 6 (.t 3)⟩,
      ⟨(some 7), none, .call 40 true [(.t 5), (.t 6)]⟩,
      ⟨(some 8), none, .not (.t 7)⟩] [2, 3, 4, 8])
   (.cond (.t 8)
    (.seq (.reg none [⟨(some 9), none, .bld [.r (.v (.string .empty)), .r (.v (.int .i64 0))] []⟩,
        ⟨none, none, .st 2 (.t 4) (.t 9)⟩] [4])
     (.ret))
    (.skip)))
  (.seq (.seq (.reg none [⟨(some 10), none, .fa 2 (.t 3)⟩,
      ⟨(some 11), none, .ld false 1 (.t 10)⟩,
      ⟨(some 12), none, .bin .eql .i (.t 11) (.k (V.i 3))⟩,
      ⟨(some 13), none, .mv (.t 12)⟩,
      ⟨(some 14), (some (13, false)), .fa 2 (.t 3)⟩,
      ⟨(some 15), (some (13, false)), .ld false 1 (.t 14)⟩,
      ⟨(some 16), (some (13, false)), .bin .eql .i (.t 15) (.k (V.i 2))⟩,
      ⟨(some 17), none, .pick (.t 13) (.k (V.b true)) (.t 16)⟩] [2, 3, 4, 17])
   (.cond (.t 17)
    (.seq (.reg (some [[], [0], [], [2], [2, 3], [0, 1, 2, 3, 4], [0, 1, 2, 3, 4, 5], [0, 1, 2, 3, 4, 5, 6], [], [], [9], [8, 9, 10], [0, 1, 2, 3, 4, 5, 6, 7, 8, 9, 10, 11], [0, 1, 2, 3, 4, 5, 6, 7, 8, 9, 10, 11, 12]]) [⟨(some 18), none, .fa 0 (.t 2)⟩,
        ⟨(some 19), none, .ld false 1 (.t 18)⟩,
        ⟨(some 20), none, .fa 4 (.t 3)⟩,
        ⟨(some 21), none, .fa 0 (.t 20)⟩,
        ⟨(some 22), none, .ld false 1 (.t 21)⟩,
        ⟨(some 23), none, .ia 6 (.t 19) (.t 22)⟩,
        ⟨(some 24), none, .fa 0 (.t 23)⟩,
        ⟨(some 25), none, .ld false 1 (.t 24)⟩,
        ⟨(some 26), none, .ld true 3 (.t 2)⟩,
        ⟨(some 27), none, .fa 4 (.t 3)⟩,
        ⟨(some 28), none, .ld true 2 (.t 27)⟩,
        ⟨(some 29), none, .call 74 true [(.t 26), (.t 28)]⟩,
        ⟨(some 30), none, .bld [.r (.v (.string .empty)), .r (.v (.int .i64 0))] [(0, 1, (.t 25)), (1, 1, (.t 29))]⟩,
        ⟨none, none, .st 2 (.t 4) (.t 30)⟩] [4])
     (.ret))
    (.skip)))
  (.seq (.reg none [⟨(some 31), none, .fa 3 (.t 3)⟩,
     ⟨(some 32), none, .ld false 1 (.t 31)⟩,
     ⟨(some 33), none, .fa 1 (.t 3)⟩,
     ⟨(some 34), none, .ld false 1 (.t 33)⟩,
     ⟨(some 35), none, .bld [.r (.v (.string .empty)), .r (.v (.int .i64 0))] [(0, 1, (.t 32)), (1, 1, (.t 34))]⟩,
     ⟨none, none, .st 2 (.t 4) (.t 35)⟩] [4])
  (.ret))))
def rv44 : List RV := [.c 4 true 2]
open Go.Proofs Go.IntWalk
set_option linter.unusedVariables false
set_option maxRecDepth 100000
set_option maxHeartbeats 4000000
def I_SpotBefore (g : G) (t : TE) (a0 : Network) (a1 : Scan) : Option Spot :=
  cl (I_IsScan g t a0 (Scan.mk a1.Thing a1.At a1.Kind a1.Place (Trip.mk a1.Trip.Leg a1.Trip.Day))) fun x1 =>
  br x1
  (
   br (g.eq a1.Kind 3)
   (
    gd (((0 : Int) ≤ a1.Trip.Leg)) <|
    gt a0.Legs (g.nat a1.Trip.Leg) fun x2 =>
    cl (I_starts g t a0 (Trip.mk a1.Trip.Leg a1.Trip.Day)) fun x3 =>
    some (Spot.mk x2.From x3))
   (
    br (g.eq a1.Kind 2)
    (
     gd (((0 : Int) ≤ a1.Trip.Leg)) <|
     gt a0.Legs (g.nat a1.Trip.Leg) fun x4 =>
     cl (I_starts g t a0 (Trip.mk a1.Trip.Leg a1.Trip.Day)) fun x5 =>
     some (Spot.mk x4.From x5))
    (
     some (Spot.mk a1.Place a1.At))))
  (
   some (Spot.mk ByteArray.empty 0))
theorem fit44 : codeFit Try.prog Try.f44.ntmps (Try.f44.body.getD .skip) ir44 = true := by kernel_rfl
theorem c_I_SpotBefore {g : G} {t : TE} {a0 : Network} {a1 : Scan} {r : Spot} (hg : g = G.real) (ht : t = TE.real) (h : I_SpotBefore g t a0 a1 = some r) : Fn Try.prog 44 [.g (Network.rs t a0), .g (Scan.rs t a1)] (.g (Spot.ds t r)) := by
  obtain ⟨X, hX⟩ := hide (.g (Spot.ds t r) : X)
  rw [← hX]
  refine fn_of (rvs := rv44) (j := ir44) Try.func44 rfl fit44 (Nat.le_of_ble_eq_true rfl) (by kernel_rfl) prog_mixed ?_
  intro g2 F hg2 hF
  obtain rfl : g2 = g := hg2.unique.trans hg.symm
  clear hg2
  obtain ⟨wrap, lt, le, eq, quo, rem, band, bor, bxor, shl, shr, nat, int, add, sub, mul, cat, seq, slt, sub3, byte, llen, nadd, nsub, dlen, dapp, dset, drep, rd, rda, up, rsub, dsub, all, sle, slen, hasI, putI, hasS, putS, imin, imax, fzc, bstr⟩ := g2
  obtain ⟨r_Leg, d_Leg, r_I64, d_I64, r_Booking, d_Booking, r_Trip, d_Trip, r_S, d_S, r_LI64, d_LI64, r_U8, d_U8, r_Fd⟩ := t
  obtain ⟨a0_Legs, a0_Off, a0_Change⟩ := a0
  obtain ⟨a1_Thing, a1_At, a1_Kind, a1_Place, ⟨a1_Trip_Leg, a1_Trip_Day⟩⟩ := a1
  unfold I_SpotBefore at h
  try dsimp only at h
  cbv
  obtain ⟨x1, hx1, h⟩ := of_cl h
  try dsimp only at h
  refine ACall.mk _ _ rfl (hF _ _ _ (c_I_IsScan hg ht hx1)) (.inl rfl) (Nat.le_of_ble_eq_true rfl) ?_
  cbv
  cases hb1 : x1 with
  | true =>
    rw [br_true hb1] at h
    cbv
    cases hb2 : (eq a1_Kind 3) with
    | true =>
      rw [br_true hb2] at h
      cbv
      try (rw [hb2]; cbv)
      try (rw [hb2]; cbv)
      try (rw [hb2]; cbv)
      obtain ⟨hc1, h⟩ := of_gd h
      refine AStep.mk hc1 ?_
      cbv
      obtain ⟨x2, hx2, h⟩ := of_gt h
      obtain ⟨x2_From, x2_To, x2_Start, x2_Takes, x2_Days, x2_Room⟩ := x2
      try dsimp only at h
      refine AGet.mk _ (r_get_Leg hg ht hx2) ?_
      cbv
      obtain ⟨x3, hx3, h⟩ := of_cl h
      try dsimp only at h
      refine ACall.mk _ _ rfl (hF _ _ _ (c_I_starts hg ht hx3)) (.inl rfl) (Nat.le_of_ble_eq_true rfl) ?_
      cbv
      obtain rfl := Option.some.inj h
      exact ARet.mk trivial hX.symm
    | false =>
      rw [br_false hb2] at h
      cbv
      try (rw [hb2]; cbv)
      try (rw [hb2]; cbv)
      try (rw [hb2]; cbv)
      cases hb3 : (eq a1_Kind 2) with
      | true =>
        rw [br_true hb3] at h
        cbv
        obtain ⟨hc2, h⟩ := of_gd h
        refine AStep.mk hc2 ?_
        cbv
        obtain ⟨x4, hx4, h⟩ := of_gt h
        obtain ⟨x4_From, x4_To, x4_Start, x4_Takes, x4_Days, x4_Room⟩ := x4
        try dsimp only at h
        refine AGet.mk _ (r_get_Leg hg ht hx4) ?_
        cbv
        obtain ⟨x5, hx5, h⟩ := of_cl h
        try dsimp only at h
        refine ACall.mk _ _ rfl (hF _ _ _ (c_I_starts hg ht hx5)) (.inl rfl) (Nat.le_of_ble_eq_true rfl) ?_
        cbv
        obtain rfl := Option.some.inj h
        exact ARet.mk trivial hX.symm
      | false =>
        rw [br_false hb3] at h
        cbv
        obtain rfl := Option.some.inj h
        exact ARet.mk trivial hX.symm
  | false =>
    rw [br_false hb1] at h
    cbv
    obtain rfl := Option.some.inj h
    exact ARet.mk trivial hX.symm
end Go.Vs
namespace Go.Vs
set_option maxRecDepth 100000
def ir11 : J :=
  .seq (.reg none [⟨(some 3), none, .box (.t 0)⟩,
     ⟨(some 4), none, .box (.t 1)⟩,
     ⟨(some 5), none, .box (.t 2)⟩,
     ⟨(some 6), none, .mv (.k (V.b false))⟩] [3, 4, 5])
  (.seq (.seq (.reg none [⟨(some 7), none, .ld true 3 (.t 3)⟩,
      ⟨(some 8), none, .ld true 6 (.t 4)⟩,
      ⟨(some 9), none, .call 40 true [(.t 7), (.t 8)]⟩,
      ⟨(some 10), none, .not (.t 9)⟩,
      ⟨(some 11), none, .mv (.t 10)⟩,
      ⟨(some 12), (some (11, false)), .ld true 3 (.t 3)⟩,
      ⟨(some 13), (some (11, false)), .ld true 6 (.t 5)⟩,
      ⟨(some 14), (some (11, false)), .call 40 true [(.t 12), (.t 13)]⟩,
      ⟨(some 15), (some (11, false)), .not (.t 14)⟩,
      ⟨(some 16), none, .pick (.t 11) (.k (V.b true)) (.t 15)⟩,
      ⟨(some 17), none, .mv (.t 16)⟩,
      ⟨(some 18), (some (17, false)), .fa 0 (.t 4)⟩,
      ⟨(some 19), (some (17, false)), .ld false 1 (.t 18)⟩,
      ⟨(some 20), (some (17, false)), .fa 0 (.t 5)⟩,
      ⟨(some 21), (some (17, false)), .ld false 1 (.t 20)⟩,
      ⟨(some 22), (some (17, false)), .bin .neq .i (.t 19) (.t 21)⟩,
      ⟨(some 23), none, .pick (.t 17) (.k (V.b true)) (.t 22)⟩,
      ⟨(some 24), none, .mv (.t 23)⟩,
      ⟨(some 25), (some (24, false)), .ld true 6 (.t 4)⟩,
      ⟨(some 26), (some (24, false)), .ld true 6 (.t 5)⟩,
      ⟨(some 27), (some (24, false)), .call 41 true [(.t 25), (.t 26)]⟩,
      ⟨(some 28), (some (24, false)), .bin .geq .i (.t 27) (.k (V.i 0))⟩,
      ⟨(some 29), none, .pick (.t 24) (.k (V.b true)) (.t 28)⟩,
      ⟨(some 30), none, .mv (.t 29)⟩,
      ⟨(some 31), (some (30, false)), .fa 2 (.t 4)⟩,
      ⟨(some 32), (some (30, false)), .ld false 1 (.t 31)⟩,
      ⟨(some 33), (some (30, false)), .bin .eql .i (.t 32) (.k (V.i 4))⟩,
      ⟨(some 34), none, .pick (.t 30) (.k (V.b true)) (.t 33)⟩] [3, 4, 5, 34])
   (.cond (.t 34)
    (.seq (.reg none [⟨(some 6), none, .mv (.k (V.b false))⟩] [6])
     (.ret))
    (.skip)))
  (.seq (.seq (.reg none [⟨(some 35), none, .fa 2 (.t 5)⟩,
      ⟨(some 36), none, .ld false 1 (.t 35)⟩,
      ⟨(some 37), none, .bin .eql .i (.t 36) (.k (V.i 2))⟩,
      ⟨(some 38), none, .mv (.t 37)⟩,
      ⟨(some 39), (some (38, true)), .fa 2 (.t 4)⟩,
      ⟨(some 40), (some (38, true)), .ld false 1 (.t 39)⟩,
      ⟨(some 41), (some (38, true)), .bin .eql .i (.t 40) (.k (V.i 3))⟩,
      ⟨(some 42), none, .pick (.t 38) (.t 41) (.k (V.b false))⟩,
      ⟨(some 43), none, .mv (.t 42)⟩,
      ⟨(some 44), (some (43, true)), .fa 4 (.t 4)⟩,
      ⟨(some 45), (some (43, true)), .ld true 2 (.t 44)⟩,
      ⟨(some 46), (some (43, true)), .fa 4 (.t 5)⟩,
      ⟨(some 47), (some (43, true)), .ld true 2 (.t 46)⟩,
      ⟨(some 48), (some (43, true)), .eqs false [.i, .i] (.t 45) (.t 47)⟩,
      ⟨(some 49), none, .pick (.t 43) (.t 48) (.k (V.b false))⟩] [3, 4, 5, 49])
   (.cond (.t 49)
    (.seq (.reg none [⟨(some 6), none, .mv (.k (V.b true))⟩] [6])
     (.ret))
    (.skip)))
  (.seq (.reg (some [[], [], [], [1, 2], [], [], [1, 2, 3, 4, 5], [0, 1, 2, 3, 4, 5, 6], [0, 1, 2, 3, 4, 5, 6, 7]]) [⟨(some 50), none, .ld true 3 (.t 3)⟩,
     ⟨(some 51), none, .ld true 3 (.t 3)⟩,
     ⟨(some 52), none, .ld true 6 (.t 4)⟩,
     ⟨(some 53), none, .call 43 true [(.t 51), (.t 52)]⟩,
     ⟨(some 54), none, .ld true 3 (.t 3)⟩,
     ⟨(some 55), none, .ld true 6 (.t 5)⟩,
     ⟨(some 56), none, .call 44 true [(.t 54), (.t 55)]⟩,
     ⟨(some 57), none, .call 42 true [(.t 50), (.t 53), (.t 56)]⟩,
     ⟨(some 6), none, .mv (.t 57)⟩] [6])
  (.ret))))
def rv11 : List RV := [.t 6]
open Go.Proofs Go.IntWalk
set_option linter.unusedVariables false
set_option maxRecDepth 100000
set_option maxHeartbeats 4000000
def I_CanFollow (g : G) (t : TE) (a0 : Network) (a1 : Scan) (a2 : Scan) : Option Bool :=
  cl (I_IsScan g t a0 (Scan.mk a1.Thing a1.At a1.Kind a1.Place (Trip.mk a1.Trip.Leg a1.Trip.Day))) fun x1 =>
  br x1
  (
   cl (I_IsScan g t a0 (Scan.mk a2.Thing a2.At a2.Kind a2.Place (Trip.mk a2.Trip.Leg a2.Trip.Day))) fun x2 =>
   br x2
   (
    br (g.eq a1.Thing a2.Thing)
    (
     lP (I_CompareScans g t (Scan.mk a1.Thing a1.At a1.Kind a1.Place (Trip.mk a1.Trip.Leg a1.Trip.Day)) (Scan.mk a2.Thing a2.At a2.Kind a2.Place (Trip.mk a2.Trip.Leg a2.Trip.Day))) fun x3 =>
     br (g.le 0 x3)
     (
      some false)
     (
      br (g.eq a1.Kind 4)
      (
       some false)
      (
       br (g.eq a2.Kind 2)
       (
        br (g.eq a1.Kind 3)
        (
         br (g.all [(g.eq a1.Trip.Leg a2.Trip.Leg), (g.eq a1.Trip.Day a2.Trip.Day)])
         (
          some true)
         (
          cl (I_SpotBehind g t a0 (Scan.mk a1.Thing a1.At a1.Kind a1.Place (Trip.mk a1.Trip.Leg a1.Trip.Day))) fun x4 =>
          cl (I_SpotBefore g t a0 (Scan.mk a2.Thing a2.At a2.Kind a2.Place (Trip.mk a2.Trip.Leg a2.Trip.Day))) fun x5 =>
          cl (I_arrivesBy g t a0 x4 x5) fun x6 =>
          some x6))
        (
         cl (I_SpotBehind g t a0 (Scan.mk a1.Thing a1.At a1.Kind a1.Place (Trip.mk a1.Trip.Leg a1.Trip.Day))) fun x7 =>
         cl (I_SpotBefore g t a0 (Scan.mk a2.Thing a2.At a2.Kind a2.Place (Trip.mk a2.Trip.Leg a2.Trip.Day))) fun x8 =>
         cl (I_arrivesBy g t a0 x7 x8) fun x9 =>
         some x9))
       (
        cl (I_SpotBehind g t a0 (Scan.mk a1.Thing a1.At a1.Kind a1.Place (Trip.mk a1.Trip.Leg a1.Trip.Day))) fun x10 =>
        cl (I_SpotBefore g t a0 (Scan.mk a2.Thing a2.At a2.Kind a2.Place (Trip.mk a2.Trip.Leg a2.Trip.Day))) fun x11 =>
        cl (I_arrivesBy g t a0 x10 x11) fun x12 =>
        some x12))))
    (
     some false))
   (
    some false))
  (
   some false)
theorem fit11 : codeFit Try.prog Try.f11.ntmps (Try.f11.body.getD .skip) ir11 = true := by kernel_rfl
theorem c_I_CanFollow {g : G} {t : TE} {a0 : Network} {a1 : Scan} {a2 : Scan} {r : Bool} (hg : g = G.real) (ht : t = TE.real) (h : I_CanFollow g t a0 a1 a2 = some r) : Fn Try.prog 11 [.g (Network.rs t a0), .g (Scan.rs t a1), .g (Scan.rs t a2)] (.c (.r (.v (.bool r)))) := by
  obtain ⟨X, hX⟩ := hide (.c (.r (.v (.bool r))) : X)
  rw [← hX]
  refine fn_of (rvs := rv11) (j := ir11) Try.func11 rfl fit11 (Nat.le_of_ble_eq_true rfl) (by kernel_rfl) prog_mixed ?_
  intro g2 F hg2 hF
  obtain rfl : g2 = g := hg2.unique.trans hg.symm
  clear hg2
  obtain ⟨wrap, lt, le, eq, quo, rem, band, bor, bxor, shl, shr, nat, int, add, sub, mul, cat, seq, slt, sub3, byte, llen, nadd, nsub, dlen, dapp, dset, drep, rd, rda, up, rsub, dsub, all, sle, slen, hasI, putI, hasS, putS, imin, imax, fzc, bstr⟩ := g2
  obtain ⟨r_Leg, d_Leg, r_I64, d_I64, r_Booking, d_Booking, r_Trip, d_Trip, r_S, d_S, r_LI64, d_LI64, r_U8, d_U8, r_Fd⟩ := t
  obtain ⟨a0_Legs, a0_Off, a0_Change⟩ := a0
  obtain ⟨a1_Thing, a1_At, a1_Kind, a1_Place, ⟨a1_Trip_Leg, a1_Trip_Day⟩⟩ := a1
  obtain ⟨a2_Thing, a2_At, a2_Kind, a2_Place, ⟨a2_Trip_Leg, a2_Trip_Day⟩⟩ := a2
  unfold I_CanFollow at h
  try dsimp only at h
  cbv
  obtain ⟨x1, hx1, h⟩ := of_cl h
  try dsimp only at h
  refine ACall.mk _ _ rfl (hF _ _ _ (c_I_IsScan hg ht hx1)) (.inl rfl) (Nat.le_of_ble_eq_true rfl) ?_
  cbv
  cases hb1 : x1 with
  | true =>
    rw [br_true hb1] at h
    cbv
    try (rw [hb1]; cbv)
    try (rw [hb1]; cbv)
    obtain ⟨x2, hx2, h⟩ := of_cl h
    try dsimp only at h
    refine ACall.mk _ _ rfl (hF _ _ _ (c_I_IsScan hg ht hx2)) (.inl rfl) (Nat.le_of_ble_eq_true rfl) ?_
    cbv
    try (rw [hb1]; cbv)
    try (rw [hb1]; cbv)
    cases hb2 : x2 with
    | true =>
      rw [br_true hb2] at h
      cbv
      try (rw [hb2]; cbv)
      try (rw [hb2]; cbv)
      try (rw [hb2]; cbv)
      try (rw [hb2]; cbv)
      try (rw [hb2]; cbv)
      cases hb3 : (eq a1_Thing a2_Thing) with
      | true =>
        rw [br_true hb3] at h
        cbv
        try (rw [hb3]; cbv)
        try (rw [hb3]; cbv)
        obtain ⟨x3, hx3, h⟩ := of_lP h
        try dsimp only at h
        refine ACall.mk _ _ rfl (hF _ _ _ (c_I_CompareScans hg ht hx3)) (.inl rfl) (Nat.le_of_ble_eq_true rfl) ?_
        cbv
        try (rw [hb3]; cbv)
        try (rw [hb3]; cbv)
        cases hb4 : (le 0 x3) with
        | true =>
          rw [br_true hb4] at h
          cbv
          try (rw [hb4]; cbv)
          try (rw [hb4]; cbv)
          try (rw [hb4]; cbv)
          obtain rfl := Option.some.inj h
          exact ARet.mk trivial hX.symm
        | false =>
          rw [br_false hb4] at h
          cbv
          try (rw [hb4]; cbv)
          try (rw [hb4]; cbv)
          try (rw [hb4]; cbv)
          cases hb5 : (eq a1_Kind 4) with
          | true =>
            rw [br_true hb5] at h
            cbv
            obtain rfl := Option.some.inj h
            exact ARet.mk trivial hX.symm
          | false =>
            rw [br_false hb5] at h
            cbv
            cases hb6 : (eq a2_Kind 2) with
            | true =>
              rw [br_true hb6] at h
              cbv
              try (rw [hb6]; cbv)
              try (rw [hb6]; cbv)
              try (rw [hb6]; cbv)
              cases hb7 : (eq a1_Kind 3) with
              | true =>
                rw [br_true hb7] at h
                cbv
                try (rw [hb7]; cbv)
                try (rw [hb7]; cbv)
                try (rw [hb7]; cbv)
                try (rw [hb7]; cbv)
                try (rw [hb7]; cbv)
                cases hb8 : (all [(eq a1_Trip_Leg a2_Trip_Leg), (eq a1_Trip_Day a2_Trip_Day)]) with
                | true =>
                  rw [br_true hb8] at h
                  cbv
                  obtain rfl := Option.some.inj h
                  exact ARet.mk trivial hX.symm
                | false =>
                  rw [br_false hb8] at h
                  cbv
                  obtain ⟨x4, hx4, h⟩ := of_cl h
                  obtain ⟨x4_Place, x4_At⟩ := x4
                  try dsimp only at h
                  refine ACall.mk _ _ rfl (hF _ _ _ (c_I_SpotBehind hg ht hx4)) (.inl rfl) (Nat.le_of_ble_eq_true rfl) ?_
                  cbv
                  obtain ⟨x5, hx5, h⟩ := of_cl h
                  obtain ⟨x5_Place, x5_At⟩ := x5
                  try dsimp only at h
                  refine ACall.mk _ _ rfl (hF _ _ _ (c_I_SpotBefore hg ht hx5)) (.inl rfl) (Nat.le_of_ble_eq_true rfl) ?_
                  cbv
                  obtain ⟨x6, hx6, h⟩ := of_cl h
                  try dsimp only at h
                  refine ACall.mk _ _ rfl (hF _ _ _ (c_I_arrivesBy hg ht hx6)) (.inl rfl) (Nat.le_of_ble_eq_true rfl) ?_
                  cbv
                  obtain rfl := Option.some.inj h
                  exact ARet.mk trivial hX.symm
              | false =>
                rw [br_false hb7] at h
                cbv
                try (rw [hb7]; cbv)
                try (rw [hb7]; cbv)
                try (rw [hb7]; cbv)
                try (rw [hb7]; cbv)
                try (rw [hb7]; cbv)
                obtain ⟨x7, hx7, h⟩ := of_cl h
                obtain ⟨x7_Place, x7_At⟩ := x7
                try dsimp only at h
                refine ACall.mk _ _ rfl (hF _ _ _ (c_I_SpotBehind hg ht hx7)) (.inl rfl) (Nat.le_of_ble_eq_true rfl) ?_
                cbv
                obtain ⟨x8, hx8, h⟩ := of_cl h
                obtain ⟨x8_Place, x8_At⟩ := x8
                try dsimp only at h
                refine ACall.mk _ _ rfl (hF _ _ _ (c_I_SpotBefore hg ht hx8)) (.inl rfl) (Nat.le_of_ble_eq_true rfl) ?_
                cbv
                obtain ⟨x9, hx9, h⟩ := of_cl h
                try dsimp only at h
                refine ACall.mk _ _ rfl (hF _ _ _ (c_I_arrivesBy hg ht hx9)) (.inl rfl) (Nat.le_of_ble_eq_true rfl) ?_
                cbv
                obtain rfl := Option.some.inj h
                exact ARet.mk trivial hX.symm
            | false =>
              rw [br_false hb6] at h
              cbv
              try (rw [hb6]; cbv)
              try (rw [hb6]; cbv)
              try (rw [hb6]; cbv)
              obtain ⟨x10, hx10, h⟩ := of_cl h
              obtain ⟨x10_Place, x10_At⟩ := x10
              try dsimp only at h
              refine ACall.mk _ _ rfl (hF _ _ _ (c_I_SpotBehind hg ht hx10)) (.inl rfl) (Nat.le_of_ble_eq_true rfl) ?_
              cbv
              obtain ⟨x11, hx11, h⟩ := of_cl h
              obtain ⟨x11_Place, x11_At⟩ := x11
              try dsimp only at h
              refine ACall.mk _ _ rfl (hF _ _ _ (c_I_SpotBefore hg ht hx11)) (.inl rfl) (Nat.le_of_ble_eq_true rfl) ?_
              cbv
              obtain ⟨x12, hx12, h⟩ := of_cl h
              try dsimp only at h
              refine ACall.mk _ _ rfl (hF _ _ _ (c_I_arrivesBy hg ht hx12)) (.inl rfl) (Nat.le_of_ble_eq_true rfl) ?_
              cbv
              obtain rfl := Option.some.inj h
              exact ARet.mk trivial hX.symm
      | false =>
        rw [br_false hb3] at h
        cbv
        try (rw [hb3]; cbv)
        try (rw [hb3]; cbv)
        try (rw [hb3]; cbv)
        try (rw [hb3]; cbv)
        obtain rfl := Option.some.inj h
        exact ARet.mk trivial hX.symm
    | false =>
      rw [br_false hb2] at h
      cbv
      try (rw [hb2]; cbv)
      try (rw [hb2]; cbv)
      try (rw [hb2]; cbv)
      try (rw [hb2]; cbv)
      try (rw [hb2]; cbv)
      obtain rfl := Option.some.inj h
      exact ARet.mk trivial hX.symm
  | false =>
    rw [br_false hb1] at h
    cbv
    try (rw [hb1]; cbv)
    try (rw [hb1]; cbv)
    try (rw [hb1]; cbv)
    try (rw [hb1]; cbv)
    obtain rfl := Option.some.inj h
    exact ARet.mk trivial hX.symm
end Go.Vs
namespace Go.Vs
set_option maxRecDepth 100000
def ir19 : J :=
  .seq (.reg none [⟨(some 4), none, .mv (.k (V.b false))⟩] [0, 1])
  (.seq (.seq (.reg none [⟨(some 6), none, .mv (.t 0)⟩,
      ⟨(some 7), none, .len false (.t 6)⟩,
      ⟨(some 8), none, .mv (.t 1)⟩,
      ⟨(some 9), none, .len false (.t 8)⟩,
      ⟨(some 10), none, .bin .neq .i (.t 7) (.t 9)⟩] [0, 1, 10])
   (.cond (.t 10)
    (.seq (.reg none [⟨(some 4), none, .mv (.k (V.b false))⟩] [4])
     (.ret))
    (.skip)))
  (.seq (.seq (.reg none [⟨(some 5), none, .mv (.k (V.i 0))⟩] [0, 1, 5])
   (.bl 0 (.seq (.seq (.reg none [⟨(some 11), none, .mv (.t 5)⟩,
        ⟨(some 12), none, .mv (.t 0)⟩,
        ⟨(some 13), none, .len false (.t 12)⟩,
        ⟨(some 14), none, .bin .lss .i (.t 11) (.t 13)⟩] [0, 1, 5, 14])
     (.cond (.t 14)
      (.skip)
      (.exit 0)))
    (.seq (.block 1 (.seq (.reg (some [[], [], [0, 1], [0, 1, 2], [], [], [4, 5], [4, 5, 6], [0, 1, 2, 3, 4, 5, 6, 7]]) [⟨(some 17), none, .mv (.t 0)⟩,
         ⟨(some 18), none, .mv (.t 5)⟩,
         ⟨(some 19), none, .ia 1 (.t 17) (.t 18)⟩,
         ⟨(some 20), none, .ld false 1 (.t 19)⟩,
         ⟨(some 21), none, .mv (.t 1)⟩,
         ⟨(some 22), none, .mv (.t 5)⟩,
         ⟨(some 23), none, .ia 1 (.t 21) (.t 22)⟩,
         ⟨(some 24), none, .ld false 1 (.t 23)⟩,
         ⟨(some 25), none, .bin .neq .i (.t 20) (.t 24)⟩] [0, 1, 5, 25])
      (.cond (.t 25)
       (.seq (.reg none [⟨(some 4), none, .mv (.k (V.b false))⟩] [4])
        (.ret))
       (.skip))))
    (.reg none [⟨(some 15), none, .mv (.t 5)⟩,
      ⟨(some 16), none, .bin .add .i (.t 15) (.k (V.i 1))⟩,
      ⟨(some 5), none, .mv (.t 16)⟩] [0, 1, 5])))))
  (.seq (.reg none [⟨(some 4), none, .mv (.k (V.b true))⟩] [4])
  (.ret))))
def rv19 : List RV := [.t 4]
open Go.Proofs Go.IntWalk
set_option linter.unusedVariables false
set_option maxRecDepth 100000
set_option maxHeartbeats 4000000
def L_eqIntS_l1 (g : G) (t : TE) (a1 : List Int) : List Int → Int → Option (LR Bool Unit)
  | [], v1 =>
    some (LR.out ())
  | z1 :: ls1, v1 =>
    gt a1 (g.nat v1) fun x1 =>
    br (g.eq z1 x1)
    (
     L_eqIntS_l1 g t a1 ls1 (g.wrap .i64 (g.add v1 1)))
    (
     some (LR.ret false))
def L_eqIntS (g : G) (t : TE) (a0 : List Int) (a1 : List Int) : Option Bool :=
  br (g.eq (g.llen (t.r_I64 a0)) (g.llen (t.r_I64 a1)))
  (
   cl (L_eqIntS_l1 g t a1 a0 0) fun o1 => lr o1 fun y1 =>
   some true)
  (
   some false)
theorem fit19 : codeFit Try.prog Try.f19.ntmps (Try.f19.body.getD .skip) ir19 = true := by kernel_rfl
theorem c_L_eqIntS {g : G} {t : TE} {a0 : List Int} {a1 : List Int} {r : Bool} (hg : g = G.real) (ht : t = TE.real) (h : L_eqIntS g t a0 a1 = some r) : Fn Try.prog 19 [.c (.s 1 (t.r_I64 a0)), .c (.s 1 (t.r_I64 a1))] (.c (.r (.v (.bool r)))) := by
  obtain ⟨X, hX⟩ := hide (.c (.r (.v (.bool r))) : X)
  rw [← hX]
  refine fn_of (rvs := rv19) (j := ir19) Try.func19 rfl fit19 (Nat.le_of_ble_eq_true rfl) (by kernel_rfl) prog_mixed ?_
  intro g2 F hg2 hF
  obtain rfl : g2 = g := hg2.unique.trans hg.symm
  clear hg2
  obtain ⟨wrap, lt, le, eq, quo, rem, band, bor, bxor, shl, shr, nat, int, add, sub, mul, cat, seq, slt, sub3, byte, llen, nadd, nsub, dlen, dapp, dset, drep, rd, rda, up, rsub, dsub, all, sle, slen, hasI, putI, hasS, putS, imin, imax, fzc, bstr⟩ := g2
  obtain ⟨r_Leg, d_Leg, r_I64, d_I64, r_Booking, d_Booking, r_Trip, d_Trip, r_S, d_S, r_LI64, d_LI64, r_U8, d_U8, r_Fd⟩ := t
  unfold L_eqIntS at h
  try dsimp only at h
  cbv
  cases hb1 : (eq (llen (r_I64 a0)) (llen (r_I64 a1))) with
  | true =>
    rw [br_true hb1] at h
    cbv
    obtain ⟨o1, ho1, h⟩ := of_cl h
    try dsimp only at h
    try rw [hg] at ho1
    try rw [ht] at ho1
    refine ABL.mk { p : Nat × Int // p.1 ≤ a0.length ∧ p.2 = ((p.1 : Nat) : Int) ∧ L_eqIntS_l1 G.real TE.real a1 (List.drop p.1 a0) p.2 = some o1 } (fun ⟨⟨k1, v1⟩, _⟩ => ({ sl := [(0, .c (.r (.s 1 (r_I64 a0)))), (1, .c (.r (.s 1 (r_I64 a1)))), (5, .c (.r (.v (.int .i64 v1))))], tab := [] } : St)) 0 (fun p => a0.length - p.1.1) ⟨(0, 0), Nat.zero_le _, rfl, ho1⟩ (Unit) (fun _ => ({ sl := [], tab := [] } : St)) 0 (fun y => o1 = LR.out y) ?_ ?_ ?_
    · refine Wk.of [] rfl rfl ?_ ?_
      · cbv
        all_goals exact ⟨⟨_, rfl, rfl⟩, ⟨_, rfl, rfl⟩, ⟨_, rfl, rfl⟩, trivial⟩
      · cbv
        all_goals exact trivial
    · rintro ⟨⟨k1, v1⟩, hk1, hi1, h_1⟩ hq1
      have hm1 := (hq1.1 0 _ _ rfl)
      try dsimp only at hk1 hi1 h_1
      clear hq1
      cbv
      by_cases hc1_ : k1 < a0.length
      · have hb2 : lt v1 (llen (r_I64 a0)) = true := ltL_true_I64 hg ht hi1 hc1_
        have hs1 := stepL_I64 hg ht hi1 hc1_ hm1
        obtain ⟨z1, hz1⟩ := some_of_lt hc1_
        rw [drop_of_some hz1] at h_1
        rw [L_eqIntS_l1] at h_1
        try rw [← hg] at h_1
        try rw [← ht] at h_1
        try dsimp only at h_1
        rw [hb2]
        cbv
        refine AStep.mk (nn_L hi1) ?_
        cbv
        refine AGet.mk _ (r_getL_I64 hg ht hi1 hz1) ?_
        cbv
        refine AStep.mk (nn_L hi1) ?_
        cbv
        obtain ⟨x1, hx1, h_1⟩ := of_gt h_1
        try dsimp only at h_1
        refine AGet.mk _ (r_get_I64 hg ht hx1) ?_
        cbv
        cases hb3 : (eq z1 x1) with
        | true =>
          rw [br_true hb3] at h_1
          cbv
          try rw [hg] at h_1
          try rw [ht] at h_1
          refine ⟨⟨(k1 + 1, (wrap .i64 (add v1 1))), hc1_, hs1, h_1⟩, Wk.of [] rfl rfl ?_ ?_, meas_L hc1_⟩
          · cbv
            all_goals exact ⟨⟨_, rfl, rfl⟩, ⟨_, rfl, rfl⟩, ⟨_, rfl, rfl⟩, trivial⟩
          · cbv
            all_goals exact trivial
        | false =>
          rw [br_false hb3] at h_1
          cbv
          obtain rfl := Option.some.inj h_1
          try dsimp only [lr, lrL, lrp, lrpL] at h
          obtain rfl := Option.some.inj h
          exact ARet.mk trivial hX.symm
      · have hb2 : lt v1 (llen (r_I64 a0)) = false := ltL_false_I64 hg ht hi1 hc1_
        rw [List.drop_of_length_le (Nat.le_of_not_lt hc1_)] at h_1
        rw [L_eqIntS_l1] at h_1
        try rw [← hg] at h_1
        try rw [← ht] at h_1
        try dsimp only at h_1
        rw [hb2]
        cbv
        refine ⟨(), Wk.of [] rfl rfl ?_ ?_, (Option.some.inj h_1).symm⟩
        · cbv
          all_goals exact trivial
        · cbv
          all_goals exact trivial
    · rintro _ hy1
      replace hy1 := hy1.symm
      subst hy1
      try dsimp only [lr, lrL, lrp, lrpL] at h
      cbv
      obtain rfl := Option.some.inj h
      exact ARet.mk trivial hX.symm
  | false =>
    rw [br_false hb1] at h
    cbv
    obtain rfl := Option.some.inj h
    exact ARet.mk trivial hX.symm
end Go.Vs
namespace Go.Vs
set_option maxRecDepth 100000
def ir81 : J :=
  .seq (.reg none [⟨(some 2), none, .box (.t 0)⟩,
     ⟨(some 3), none, .box (.t 1)⟩,
     ⟨(some 4), none, .mv (.k (V.b false))⟩] [2, 3])
  (.seq (.seq (.reg none [⟨(some 5), none, .fa 0 (.t 2)⟩,
      ⟨(some 6), none, .ld false 1 (.t 5)⟩,
      ⟨(some 7), none, .fa 0 (.t 3)⟩,
      ⟨(some 8), none, .ld false 1 (.t 7)⟩,
      ⟨(some 9), none, .bin .neq .s (.t 6) (.t 8)⟩] [2, 3, 9])
   (.cond (.t 9)
    (.seq (.reg none [⟨(some 4), none, .mv (.k (V.b false))⟩] [4])
     (.ret))
    (.skip)))
  (.seq (.seq (.reg none [⟨(some 10), none, .fa 1 (.t 2)⟩,
      ⟨(some 11), none, .ld false 1 (.t 10)⟩,
      ⟨(some 12), none, .fa 1 (.t 3)⟩,
      ⟨(some 13), none, .ld false 1 (.t 12)⟩,
      ⟨(some 14), none, .bin .neq .s (.t 11) (.t 13)⟩] [2, 3, 14])
   (.cond (.t 14)
    (.seq (.reg none [⟨(some 4), none, .mv (.k (V.b false))⟩] [4])
     (.ret))
    (.skip)))
  (.seq (.seq (.reg none [⟨(some 15), none, .fa 2 (.t 2)⟩,
      ⟨(some 16), none, .ld false 1 (.t 15)⟩,
      ⟨(some 17), none, .fa 2 (.t 3)⟩,
      ⟨(some 18), none, .ld false 1 (.t 17)⟩,
      ⟨(some 19), none, .bin .neq .i (.t 16) (.t 18)⟩] [2, 3, 19])
   (.cond (.t 19)
    (.seq (.reg none [⟨(some 4), none, .mv (.k (V.b false))⟩] [4])
     (.ret))
    (.skip)))
  (.seq (.seq (.reg none [⟨(some 20), none, .fa 3 (.t 2)⟩,
      ⟨(some 21), none, .ld false 1 (.t 20)⟩,
      ⟨(some 22), none, .fa 3 (.t 3)⟩,
      ⟨(some 23), none, .ld false 1 (.t 22)⟩,
      ⟨(some 24), none, .bin .neq .i (.t 21) (.t 23)⟩] [2, 3, 24])
   (.cond (.t 24)
    (.seq (.reg none [⟨(some 4), none, .mv (.k (V.b false))⟩] [4])
     (.ret))
    (.skip)))
  (.seq (.seq (.reg none [⟨(some 25), none, .fa 4 (.t 2)⟩,
      ⟨(some 26), none, .ld false 1 (.t 25)⟩,
      ⟨(some 27), none, .fa 4 (.t 3)⟩,
      ⟨(some 28), none, .ld false 1 (.t 27)⟩,
      ⟨(some 29), none, .bin .neq .i (.t 26) (.t 28)⟩] [2, 3, 29])
   (.cond (.t 29)
    (.seq (.reg none [⟨(some 4), none, .mv (.k (V.b false))⟩] [4])
     (.ret))
    (.skip)))
  (.seq (.seq (.reg none [⟨(some 30), none, .fa 5 (.t 2)⟩,
      ⟨(some 31), none, .ld false 1 (.t 30)⟩,
      ⟨(some 32), none, .fa 5 (.t 3)⟩,
      ⟨(some 33), none, .ld false 1 (.t 32)⟩,
      ⟨(some 34), none, .bin .neq .i (.t 31) (.t 33)⟩] [34])
   (.cond (.t 34)
    (.seq (.reg none [⟨(some 4), none, .mv (.k (V.b false))⟩] [4])
     (.ret))
    (.skip)))
  (.seq (.reg none [⟨(some 4), none, .mv (.k (V.b true))⟩] [4])
  (.ret))))))))
def rv81 : List RV := [.t 4]
open Go.Proofs Go.IntWalk
set_option linter.unusedVariables false
set_option maxRecDepth 100000
set_option maxHeartbeats 4000000
def L_eqLeg (g : G) (t : TE) (a0 : Leg) (a1 : Leg) : Bool :=
  br (g.seq a0.From a1.From)
  (
   br (g.seq a0.To a1.To)
   (
    br (g.eq a0.Start a1.Start)
    (
     br (g.eq a0.Takes a1.Takes)
     (
      br (g.eq a0.Days a1.Days)
      (
       br (g.eq a0.Room a1.Room)
       (
        true)
       (
        false))
      (
       false))
     (
      false))
    (
     false))
   (
    false))
  (
   false)
theorem fit81 : codeFit Try.prog Try.f81.ntmps (Try.f81.body.getD .skip) ir81 = true := by kernel_rfl
theorem c_L_eqLeg {g : G} {t : TE} {a0 : Leg} {a1 : Leg} {r : Bool} (hg : g = G.real) (ht : t = TE.real) (h : L_eqLeg g t a0 a1 = r) : Fn Try.prog 81 [.g (Leg.rs t a0), .g (Leg.rs t a1)] (.c (.r (.v (.bool r)))) := by
  obtain ⟨X, hX⟩ := hide (.c (.r (.v (.bool r))) : X)
  rw [← hX]
  refine fn_of (rvs := rv81) (j := ir81) Try.func81 rfl fit81 (Nat.le_of_ble_eq_true rfl) (by kernel_rfl) prog_mixed ?_
  intro g2 F hg2 hF
  obtain rfl : g2 = g := hg2.unique.trans hg.symm
  clear hg2
  obtain ⟨wrap, lt, le, eq, quo, rem, band, bor, bxor, shl, shr, nat, int, add, sub, mul, cat, seq, slt, sub3, byte, llen, nadd, nsub, dlen, dapp, dset, drep, rd, rda, up, rsub, dsub, all, sle, slen, hasI, putI, hasS, putS, imin, imax, fzc, bstr⟩ := g2
  obtain ⟨r_Leg, d_Leg, r_I64, d_I64, r_Booking, d_Booking, r_Trip, d_Trip, r_S, d_S, r_LI64, d_LI64, r_U8, d_U8, r_Fd⟩ := t
  obtain ⟨a0_From, a0_To, a0_Start, a0_Takes, a0_Days, a0_Room⟩ := a0
  obtain ⟨a1_From, a1_To, a1_Start, a1_Takes, a1_Days, a1_Room⟩ := a1
  unfold L_eqLeg at h
  try dsimp only at h
  cbv
  cases hb1 : (seq a0_From a1_From) with
  | true =>
    rw [br_true hb1] at h
    cbv
    cases hb2 : (seq a0_To a1_To) with
    | true =>
      rw [br_true hb2] at h
      cbv
      cases hb3 : (eq a0_Start a1_Start) with
      | true =>
        rw [br_true hb3] at h
        cbv
        cases hb4 : (eq a0_Takes a1_Takes) with
        | true =>
          rw [br_true hb4] at h
          cbv
          cases hb5 : (eq a0_Days a1_Days) with
          | true =>
            rw [br_true hb5] at h
            cbv
            cases hb6 : (eq a0_Room a1_Room) with
            | true =>
              rw [br_true hb6] at h
              cbv
              subst h
              exact ARet.mk trivial hX.symm
            | false =>
              rw [br_false hb6] at h
              cbv
              subst h
              exact ARet.mk trivial hX.symm
          | false =>
            rw [br_false hb5] at h
            cbv
            subst h
            exact ARet.mk trivial hX.symm
        | false =>
          rw [br_false hb4] at h
          cbv
          subst h
          exact ARet.mk trivial hX.symm
      | false =>
        rw [br_false hb3] at h
        cbv
        subst h
        exact ARet.mk trivial hX.symm
    | false =>
      rw [br_false hb2] at h
      cbv
      subst h
      exact ARet.mk trivial hX.symm
  | false =>
    rw [br_false hb1] at h
    cbv
    subst h
    exact ARet.mk trivial hX.symm
end Go.Vs
namespace Go.Vs
set_option maxRecDepth 100000
def ir45 : J :=
  .seq (.reg none [⟨(some 4), none, .mv (.k (V.b false))⟩] [0, 1])
  (.seq (.seq (.reg none [⟨(some 6), none, .mv (.t 0)⟩,
      ⟨(some 7), none, .len false (.t 6)⟩,
      ⟨(some 8), none, .mv (.t 1)⟩,
      ⟨(some 9), none, .len false (.t 8)⟩,
      ⟨(some 10), none, .bin .neq .i (.t 7) (.t 9)⟩] [0, 1, 10])
   (.cond (.t 10)
    (.seq (.reg none [⟨(some 4), none, .mv (.k (V.b false))⟩] [4])
     (.ret))
    (.skip)))
  (.seq (.seq (.reg none [⟨(some 5), none, .mv (.k (V.i 0))⟩] [0, 1, 5])
   (.bl 0 (.seq (.seq (.reg none [⟨(some 11), none, .mv (.t 5)⟩,
        ⟨(some 12), none, .mv (.t 0)⟩,
        ⟨(some 13), none, .len false (.t 12)⟩,
        ⟨(some 14), none, .bin .lss .i (.t 11) (.t 13)⟩] [0, 1, 5, 14])
     (.cond (.t 14)
      (.skip)
      (.exit 0)))
    (.seq (.block 1 (.seq (.reg (some [[], [], [0, 1], [0, 1, 2], [], [], [4, 5], [4, 5, 6], [0, 1, 2, 3, 4, 5, 6, 7], [0, 1, 2, 3, 4, 5, 6, 7, 8]]) [⟨(some 17), none, .mv (.t 0)⟩,
         ⟨(some 18), none, .mv (.t 5)⟩,
         ⟨(some 19), none, .ia 6 (.t 17) (.t 18)⟩,
         ⟨(some 20), none, .ld true 6 (.t 19)⟩,
         ⟨(some 21), none, .mv (.t 1)⟩,
         ⟨(some 22), none, .mv (.t 5)⟩,
         ⟨(some 23), none, .ia 6 (.t 21) (.t 22)⟩,
         ⟨(some 24), none, .ld true 6 (.t 23)⟩,
         ⟨(some 25), none, .call 81 true [(.t 20), (.t 24)]⟩,
         ⟨(some 26), none, .not (.t 25)⟩] [0, 1, 5, 26])
      (.cond (.t 26)
       (.seq (.reg none [⟨(some 4), none, .mv (.k (V.b false))⟩] [4])
        (.ret))
       (.skip))))
    (.reg none [⟨(some 15), none, .mv (.t 5)⟩,
      ⟨(some 16), none, .bin .add .i (.t 15) (.k (V.i 1))⟩,
      ⟨(some 5), none, .mv (.t 16)⟩] [0, 1, 5])))))
  (.seq (.reg none [⟨(some 4), none, .mv (.k (V.b true))⟩] [4])
  (.ret))))
def rv45 : List RV := [.t 4]
open Go.Proofs Go.IntWalk
set_option linter.unusedVariables false
set_option maxRecDepth 100000
set_option maxHeartbeats 4000000
def L_eqLegS_l1 (g : G) (t : TE) (a1 : List Leg) : List Leg → Int → Option (LR Bool Unit)
  | [], v1 =>
    some (LR.out ())
  | z1 :: ls1, v1 =>
    gt a1 (g.nat v1) fun x1 =>
    lP (L_eqLeg g t z1 x1) fun x2 =>
    br x2
    (
     L_eqLegS_l1 g t a1 ls1 (g.wrap .i64 (g.add v1 1)))
    (
     some (LR.ret false))
def L_eqLegS (g : G) (t : TE) (a0 : List Leg) (a1 : List Leg) : Option Bool :=
  br (g.eq (g.llen (t.r_Leg a0)) (g.llen (t.r_Leg a1)))
  (
   cl (L_eqLegS_l1 g t a1 a0 0) fun o1 => lr o1 fun y1 =>
   some true)
  (
   some false)
theorem fit45 : codeFit Try.prog Try.f45.ntmps (Try.f45.body.getD .skip) ir45 = true := by kernel_rfl
theorem c_L_eqLegS {g : G} {t : TE} {a0 : List Leg} {a1 : List Leg} {r : Bool} (hg : g = G.real) (ht : t = TE.real) (h : L_eqLegS g t a0 a1 = some r) : Fn Try.prog 45 [.c (.s 6 (t.r_Leg a0)), .c (.s 6 (t.r_Leg a1))] (.c (.r (.v (.bool r)))) := by
  obtain ⟨X, hX⟩ := hide (.c (.r (.v (.bool r))) : X)
  rw [← hX]
  refine fn_of (rvs := rv45) (j := ir45) Try.func45 rfl fit45 (Nat.le_of_ble_eq_true rfl) (by kernel_rfl) prog_mixed ?_
  intro g2 F hg2 hF
  obtain rfl : g2 = g := hg2.unique.trans hg.symm
  clear hg2
  obtain ⟨wrap, lt, le, eq, quo, rem, band, bor, bxor, shl, shr, nat, int, add, sub, mul, cat, seq, slt, sub3, byte, llen, nadd, nsub, dlen, dapp, dset, drep, rd, rda, up, rsub, dsub, all, sle, slen, hasI, putI, hasS, putS, imin, imax, fzc, bstr⟩ := g2
  obtain ⟨r_Leg, d_Leg, r_I64, d_I64, r_Booking, d_Booking, r_Trip, d_Trip, r_S, d_S, r_LI64, d_LI64, r_U8, d_U8, r_Fd⟩ := t
  unfold L_eqLegS at h
  try dsimp only at h
  cbv
  cases hb1 : (eq (llen (r_Leg a0)) (llen (r_Leg a1))) with
  | true =>
    rw [br_true hb1] at h
    cbv
    obtain ⟨o1, ho1, h⟩ := of_cl h
    try dsimp only at h
    try rw [hg] at ho1
    try rw [ht] at ho1
    refine ABL.mk { p : Nat × Int // p.1 ≤ a0.length ∧ p.2 = ((p.1 : Nat) : Int) ∧ L_eqLegS_l1 G.real TE.real a1 (List.drop p.1 a0) p.2 = some o1 } (fun ⟨⟨k1, v1⟩, _⟩ => ({ sl := [(0, .c (.r (.s 6 (r_Leg a0)))), (1, .c (.r (.s 6 (r_Leg a1)))), (5, .c (.r (.v (.int .i64 v1))))], tab := [] } : St)) 0 (fun p => a0.length - p.1.1) ⟨(0, 0), Nat.zero_le _, rfl, ho1⟩ (Unit) (fun _ => ({ sl := [], tab := [] } : St)) 0 (fun y => o1 = LR.out y) ?_ ?_ ?_
    · refine Wk.of [] rfl rfl ?_ ?_
      · cbv
        all_goals exact ⟨⟨_, rfl, rfl⟩, ⟨_, rfl, rfl⟩, ⟨_, rfl, rfl⟩, trivial⟩
      · cbv
        all_goals exact trivial
    · rintro ⟨⟨k1, v1⟩, hk1, hi1, h_1⟩ hq1
      have hm1 := (hq1.1 0 _ _ rfl)
      try dsimp only at hk1 hi1 h_1
      clear hq1
      cbv
      by_cases hc1_ : k1 < a0.length
      · have hb2 : lt v1 (llen (r_Leg a0)) = true := ltL_true_Leg hg ht hi1 hc1_
        have hs1 := stepL_Leg hg ht hi1 hc1_ hm1
        obtain ⟨z1, hz1⟩ := some_of_lt hc1_
        rw [drop_of_some hz1] at h_1
        rw [L_eqLegS_l1] at h_1
        obtain ⟨z1_From, z1_To, z1_Start, z1_Takes, z1_Days, z1_Room⟩ := z1
        try rw [← hg] at h_1
        try rw [← ht] at h_1
        try dsimp only at h_1
        rw [hb2]
        cbv
        refine AStep.mk (nn_L hi1) ?_
        cbv
        refine AGet.mk _ (r_getL_Leg hg ht hi1 hz1) ?_
        cbv
        refine AStep.mk (nn_L hi1) ?_
        cbv
        obtain ⟨x1, hx1, h_1⟩ := of_gt h_1
        obtain ⟨x1_From, x1_To, x1_Start, x1_Takes, x1_Days, x1_Room⟩ := x1
        try dsimp only at h_1
        refine AGet.mk _ (r_get_Leg hg ht hx1) ?_
        cbv
        obtain ⟨x2, hx2, h_1⟩ := of_lP h_1
        try dsimp only at h_1
        refine ACall.mk _ _ rfl (hF _ _ _ (c_L_eqLeg hg ht hx2)) (.inl rfl) (Nat.le_of_ble_eq_true rfl) ?_
        cbv
        cases hb3 : x2 with
        | true =>
          rw [br_true hb3] at h_1
          cbv
          try rw [hg] at h_1
          try rw [ht] at h_1
          refine ⟨⟨(k1 + 1, (wrap .i64 (add v1 1))), hc1_, hs1, h_1⟩, Wk.of [] rfl rfl ?_ ?_, meas_L hc1_⟩
          · cbv
            all_goals exact ⟨⟨_, rfl, rfl⟩, ⟨_, rfl, rfl⟩, ⟨_, rfl, rfl⟩, trivial⟩
          · cbv
            all_goals exact trivial
        | false =>
          rw [br_false hb3] at h_1
          cbv
          obtain rfl := Option.some.inj h_1
          try dsimp only [lr, lrL, lrp, lrpL] at h
          obtain rfl := Option.some.inj h
          exact ARet.mk trivial hX.symm
      · have hb2 : lt v1 (llen (r_Leg a0)) = false := ltL_false_Leg hg ht hi1 hc1_
        rw [List.drop_of_length_le (Nat.le_of_not_lt hc1_)] at h_1
        rw [L_eqLegS_l1] at h_1
        try rw [← hg] at h_1
        try rw [← ht] at h_1
        try dsimp only at h_1
        rw [hb2]
        cbv
        refine ⟨(), Wk.of [] rfl rfl ?_ ?_, (Option.some.inj h_1).symm⟩
        · cbv
          all_goals exact trivial
        · cbv
          all_goals exact trivial
    · rintro _ hy1
      replace hy1 := hy1.symm
      subst hy1
      try dsimp only [lr, lrL, lrp, lrpL] at h
      cbv
      obtain rfl := Option.some.inj h
      exact ARet.mk trivial hX.symm
  | false =>
    rw [br_false hb1] at h
    cbv
    obtain rfl := Option.some.inj h
    exact ARet.mk trivial hX.symm
end Go.Vs
namespace Go.Vs
set_option maxRecDepth 100000
def ir12 : J :=
  .seq (.reg none [⟨(some 2), none, .box (.t 0)⟩,
     ⟨(some 3), none, .box (.t 1)⟩,
     ⟨(some 4), none, .mv (.k (V.b false))⟩] [2, 3])
  (.seq (.seq (.reg none [⟨(some 5), none, .fa 0 (.t 2)⟩,
      ⟨(some 6), none, .ld false 1 (.t 5)⟩,
      ⟨(some 7), none, .fa 0 (.t 3)⟩,
      ⟨(some 8), none, .ld false 1 (.t 7)⟩,
      ⟨(some 9), none, .call 45 true [(.t 6), (.t 8)]⟩,
      ⟨(some 10), none, .not (.t 9)⟩] [2, 3, 10])
   (.cond (.t 10)
    (.seq (.reg none [⟨(some 4), none, .mv (.k (V.b false))⟩] [4])
     (.ret))
    (.skip)))
  (.seq (.seq (.reg none [⟨(some 11), none, .fa 1 (.t 2)⟩,
      ⟨(some 12), none, .ld false 1 (.t 11)⟩,
      ⟨(some 13), none, .fa 1 (.t 3)⟩,
      ⟨(some 14), none, .ld false 1 (.t 13)⟩,
      ⟨(some 15), none, .call 19 true [(.t 12), (.t 14)]⟩,
      ⟨(some 16), none, .not (.t 15)⟩] [2, 3, 16])
   (.cond (.t 16)
    (.seq (.reg none [⟨(some 4), none, .mv (.k (V.b false))⟩] [4])
     (.ret))
    (.skip)))
  (.seq (.seq (.reg none [⟨(some 17), none, .fa 2 (.t 2)⟩,
      ⟨(some 18), none, .ld false 1 (.t 17)⟩,
      ⟨(some 19), none, .fa 2 (.t 3)⟩,
      ⟨(some 20), none, .ld false 1 (.t 19)⟩,
      ⟨(some 21), none, .bin .neq .i (.t 18) (.t 20)⟩] [21])
   (.cond (.t 21)
    (.seq (.reg none [⟨(some 4), none, .mv (.k (V.b false))⟩] [4])
     (.ret))
    (.skip)))
  (.seq (.reg none [⟨(some 4), none, .mv (.k (V.b true))⟩] [4])
  (.ret)))))
def rv12 : List RV := [.t 4]
open Go.Proofs Go.IntWalk
set_option linter.unusedVariables false
set_option maxRecDepth 100000
set_option maxHeartbeats 4000000
def L_eqNetwork (g : G) (t : TE) (a0 : Network) (a1 : Network) : Option Bool :=
  cl (L_eqLegS g t a0.Legs a1.Legs) fun x1 =>
  br x1
  (
   cl (L_eqIntS g t a0.Off a1.Off) fun x2 =>
   br x2
   (
    br (g.eq a0.Change a1.Change)
    (
     some true)
    (
     some false))
   (
    some false))
  (
   some false)
theorem fit12 : codeFit Try.prog Try.f12.ntmps (Try.f12.body.getD .skip) ir12 = true := by kernel_rfl
theorem c_L_eqNetwork {g : G} {t : TE} {a0 : Network} {a1 : Network} {r : Bool} (hg : g = G.real) (ht : t = TE.real) (h : L_eqNetwork g t a0 a1 = some r) : Fn Try.prog 12 [.g (Network.rs t a0), .g (Network.rs t a1)] (.c (.r (.v (.bool r)))) := by
  obtain ⟨X, hX⟩ := hide (.c (.r (.v (.bool r))) : X)
  rw [← hX]
  refine fn_of (rvs := rv12) (j := ir12) Try.func12 rfl fit12 (Nat.le_of_ble_eq_true rfl) (by kernel_rfl) prog_mixed ?_
  intro g2 F hg2 hF
  obtain rfl : g2 = g := hg2.unique.trans hg.symm
  clear hg2
  obtain ⟨wrap, lt, le, eq, quo, rem, band, bor, bxor, shl, shr, nat, int, add, sub, mul, cat, seq, slt, sub3, byte, llen, nadd, nsub, dlen, dapp, dset, drep, rd, rda, up, rsub, dsub, all, sle, slen, hasI, putI, hasS, putS, imin, imax, fzc, bstr⟩ := g2
  obtain ⟨r_Leg, d_Leg, r_I64, d_I64, r_Booking, d_Booking, r_Trip, d_Trip, r_S, d_S, r_LI64, d_LI64, r_U8, d_U8, r_Fd⟩ := t
  obtain ⟨a0_Legs, a0_Off, a0_Change⟩ := a0
  obtain ⟨a1_Legs, a1_Off, a1_Change⟩ := a1
  unfold L_eqNetwork at h
  try dsimp only at h
  cbv
  obtain ⟨x1, hx1, h⟩ := of_cl h
  try dsimp only at h
  refine ACall.mk _ _ rfl (hF _ _ _ (c_L_eqLegS hg ht hx1)) (.inl rfl) (Nat.le_of_ble_eq_true rfl) ?_
  cbv
  cases hb1 : x1 with
  | true =>
    rw [br_true hb1] at h
    cbv
    obtain ⟨x2, hx2, h⟩ := of_cl h
    try dsimp only at h
    refine ACall.mk _ _ rfl (hF _ _ _ (c_L_eqIntS hg ht hx2)) (.inl rfl) (Nat.le_of_ble_eq_true rfl) ?_
    cbv
    cases hb2 : x2 with
    | true =>
      rw [br_true hb2] at h
      cbv
      cases hb3 : (eq a0_Change a1_Change) with
      | true =>
        rw [br_true hb3] at h
        cbv
        obtain rfl := Option.some.inj h
        exact ARet.mk trivial hX.symm
      | false =>
        rw [br_false hb3] at h
        cbv
        obtain rfl := Option.some.inj h
        exact ARet.mk trivial hX.symm
    | false =>
      rw [br_false hb2] at h
      cbv
      obtain rfl := Option.some.inj h
      exact ARet.mk trivial hX.symm
  | false =>
    rw [br_false hb1] at h
    cbv
    obtain rfl := Option.some.inj h
    exact ARet.mk trivial hX.symm
end Go.Vs
namespace Go.Vs
set_option maxRecDepth 100000
def ir3 : J :=
  .seq (.reg none [⟨(some 3), none, .box (.t 0)⟩,
     ⟨(some 4), none, .box (.t 1)⟩,
     ⟨(some 5), none, .box (.t 2)⟩,
     ⟨(some 6), none, .mv (.k (V.b false))⟩] [3, 4, 5])
  (.seq (.reg none [⟨(some 7), none, .mv (.k (V.i 1048576))⟩] [3, 4, 5, 7])
  (.seq (.reg none [⟨(some 11), none, .ld true 3 (.t 3)⟩,
     ⟨(some 12), none, .mv (.t 7)⟩,
     ⟨(some 13), none, .call 6 true [(.t 11), (.t 12)]⟩,
     ⟨(some 7), none, .mv (.t 13)⟩] [3, 4, 5, 7])
  (.seq (.seq (.reg none [⟨(some 14), none, .mv (.t 7)⟩,
      ⟨(some 15), none, .bin .lss .i (.t 14) (.k (V.i 0))⟩] [3, 4, 5, 7, 15])
   (.cond (.t 15)
    (.seq (.reg none [⟨(some 6), none, .mv (.k (V.b true))⟩] [6])
     (.ret))
    (.skip)))
  (.seq (.reg none [⟨(some 16), none, .ld true 6 (.t 4)⟩,
     ⟨(some 17), none, .mv (.t 7)⟩,
     ⟨(some 18), none, .call 7 true [(.t 16), (.t 17)]⟩,
     ⟨(some 7), none, .mv (.t 18)⟩] [3, 4, 5, 7])
  (.seq (.seq (.reg none [⟨(some 19), none, .mv (.t 7)⟩,
      ⟨(some 20), none, .bin .lss .i (.t 19) (.k (V.i 0))⟩] [3, 4, 5, 7, 20])
   (.cond (.t 20)
    (.seq (.reg none [⟨(some 6), none, .mv (.k (V.b true))⟩] [6])
     (.ret))
    (.skip)))
  (.seq (.reg none [⟨(some 21), none, .ld true 6 (.t 5)⟩,
     ⟨(some 22), none, .mv (.t 7)⟩,
     ⟨(some 23), none, .call 7 true [(.t 21), (.t 22)]⟩,
     ⟨(some 7), none, .mv (.t 23)⟩] [3, 4, 5, 7])
  (.seq (.seq (.reg none [⟨(some 24), none, .mv (.t 7)⟩,
      ⟨(some 25), none, .bin .lss .i (.t 24) (.k (V.i 0))⟩] [3, 4, 5, 25])
   (.cond (.t 25)
    (.seq (.reg none [⟨(some 6), none, .mv (.k (V.b true))⟩] [6])
     (.ret))
    (.skip)))
  (.seq (.reg (some [[], [0], [], [0, 1, 2], [], [0, 1, 2, 3, 4], [0, 1, 2, 3, 4, 5], [0, 1, 2, 3, 4, 5, 6]]) [⟨(some 26), none, .ld true 3 (.t 3)⟩,
     ⟨(some 27), none, .call 9 false [(.t 26)]⟩,
     ⟨(some 28), none, .ld true 6 (.t 4)⟩,
     ⟨(some 29), none, .call 10 true [(.t 28)]⟩,
     ⟨(some 30), none, .ld true 6 (.t 5)⟩,
     ⟨(some 31), none, .call 10 true [(.t 30)]⟩,
     ⟨(some 32), none, .call 8 true [(.t 27), (.t 29), (.t 31)]⟩,
     ⟨(some 8), none, .mv (.t 32)⟩] [3, 4, 5, 8])
  (.seq (.reg none [⟨(some 33), none, .ld true 3 (.t 3)⟩,
     ⟨(some 34), none, .call 9 false [(.t 33)]⟩,
     ⟨(some 9), none, .alloc [.n 6, .n 1, .r (.v (.int .i64 0))]⟩,
     ⟨none, none, .st 3 (.t 9) (.t 34)⟩] [3, 4, 5, 8, 9])
  (.seq (.reg (some [[], [], [1], [], [1, 2, 3], [0, 1, 2, 3, 4], [0, 1, 2, 3, 4, 5]]) [⟨(some 35), none, .ld true 3 (.t 9)⟩,
     ⟨(some 36), none, .ld true 6 (.t 4)⟩,
     ⟨(some 37), none, .call 10 true [(.t 36)]⟩,
     ⟨(some 38), none, .ld true 6 (.t 5)⟩,
     ⟨(some 39), none, .call 10 true [(.t 38)]⟩,
     ⟨(some 40), none, .call 11 true [(.t 35), (.t 37), (.t 39)]⟩,
     ⟨(some 10), none, .mv (.t 40)⟩] [3, 8, 9, 10])
  (.seq (.seq (.reg none [⟨(some 41), none, .mv (.t 10)⟩,
      ⟨(some 42), none, .mv (.t 8)⟩,
      ⟨(some 43), none, .bin .neq .b (.t 41) (.t 42)⟩] [3, 9, 43])
   (.cond (.t 43)
    (.seq (.reg none [⟨(some 6), none, .mv (.k (V.b false))⟩] [6])
     (.ret))
    (.skip)))
  (.seq (.seq (.reg (some [[], [], [1], [0, 1, 2], [0, 1, 2, 3]]) [⟨(some 44), none, .ld true 3 (.t 9)⟩,
      ⟨(some 45), none, .ld true 3 (.t 3)⟩,
      ⟨(some 46), none, .call 9 false [(.t 45)]⟩,
      ⟨(some 47), none, .call 12 true [(.t 44), (.t 46)]⟩,
      ⟨(some 48), none, .not (.t 47)⟩] [48])
   (.cond (.t 48)
    (.seq (.reg none [⟨(some 6), none, .mv (.k (V.b false))⟩] [6])
     (.ret))
    (.skip)))
  (.seq (.reg none [⟨(some 6), none, .mv (.k (V.b true))⟩] [6])
  (.ret))))))))))))))
def rv3 : List RV := [.t 6]
open Go.Proofs Go.IntWalk
set_option linter.unusedVariables false
set_option maxRecDepth 100000
set_option maxHeartbeats 4000000
def L_FnExactCanFollow (g : G) (t : TE) (a0 : Network) (a1 : Scan) (a2 : Scan) : Option Bool :=
  lP (L_szNetwork g t a0 1048576) fun x1 =>
  br (g.lt x1 0)
  (
   some true)
  (
   lP (L_szScan g t (Scan.mk a1.Thing a1.At a1.Kind a1.Place (Trip.mk a1.Trip.Leg a1.Trip.Day)) x1) fun x2 =>
   br (g.lt x2 0)
   (
    some true)
   (
    lP (L_szScan g t (Scan.mk a2.Thing a2.At a2.Kind a2.Place (Trip.mk a2.Trip.Leg a2.Trip.Day)) x2) fun x3 =>
    br (g.lt x3 0)
    (
     some true)
    (
     cl (L_toNetwork g t a0) fun x4 =>
     lP (L_toScan g t (Scan.mk a1.Thing a1.At a1.Kind a1.Place (Trip.mk a1.Trip.Leg a1.Trip.Day))) fun x5 =>
     lP (L_toScan g t (Scan.mk a2.Thing a2.At a2.Kind a2.Place (Trip.mk a2.Trip.Leg a2.Trip.Day))) fun x6 =>
     cl (S_CanFollow g t x4 (Scan.mk x5.Thing x5.At x5.Kind x5.Place (Trip.mk x5.Trip.Leg x5.Trip.Day)) (Scan.mk x6.Thing x6.At x6.Kind x6.Place (Trip.mk x6.Trip.Leg x6.Trip.Day))) fun x7 =>
     cl (L_toNetwork g t a0) fun x8 =>
     lP (L_toScan g t (Scan.mk a1.Thing a1.At a1.Kind a1.Place (Trip.mk a1.Trip.Leg a1.Trip.Day))) fun x9 =>
     lP (L_toScan g t (Scan.mk a2.Thing a2.At a2.Kind a2.Place (Trip.mk a2.Trip.Leg a2.Trip.Day))) fun x10 =>
     cl (I_CanFollow g t x8 (Scan.mk x9.Thing x9.At x9.Kind x9.Place (Trip.mk x9.Trip.Leg x9.Trip.Day)) (Scan.mk x10.Thing x10.At x10.Kind x10.Place (Trip.mk x10.Trip.Leg x10.Trip.Day))) fun x11 =>
     br x11
     (
      br x7
      (
       cl (L_toNetwork g t a0) fun x12 =>
       cl (L_eqNetwork g t x8 x12) fun x13 =>
       br x13
       (
        some true)
       (
        some false))
      (
       some false))
     (
      br x7
      (
       some false)
      (
       cl (L_toNetwork g t a0) fun x14 =>
       cl (L_eqNetwork g t x8 x14) fun x15 =>
       br x15
       (
        some true)
       (
        some false))))))
theorem fit3 : codeFit Try.prog Try.f3.ntmps (Try.f3.body.getD .skip) ir3 = true := by kernel_rfl
theorem c_L_FnExactCanFollow {g : G} {t : TE} {a0 : Network} {a1 : Scan} {a2 : Scan} {r : Bool} (hg : g = G.real) (ht : t = TE.real) (h : L_FnExactCanFollow g t a0 a1 a2 = some r) : Fn Try.prog 3 [.g (Network.rs t a0), .g (Scan.rs t a1), .g (Scan.rs t a2)] (.c (.r (.v (.bool r)))) := by
  obtain ⟨X, hX⟩ := hide (.c (.r (.v (.bool r))) : X)
  rw [← hX]
  refine fn_of (rvs := rv3) (j := ir3) Try.func3 rfl fit3 (Nat.le_of_ble_eq_true rfl) (by kernel_rfl) prog_mixed ?_
  intro g2 F hg2 hF
  obtain rfl : g2 = g := hg2.unique.trans hg.symm
  clear hg2
  obtain ⟨wrap, lt, le, eq, quo, rem, band, bor, bxor, shl, shr, nat, int, add, sub, mul, cat, seq, slt, sub3, byte, llen, nadd, nsub, dlen, dapp, dset, drep, rd, rda, up, rsub, dsub, all, sle, slen, hasI, putI, hasS, putS, imin, imax, fzc, bstr⟩ := g2
  obtain ⟨r_Leg, d_Leg, r_I64, d_I64, r_Booking, d_Booking, r_Trip, d_Trip, r_S, d_S, r_LI64, d_LI64, r_U8, d_U8, r_Fd⟩ := t
  obtain ⟨a0_Legs, a0_Off, a0_Change⟩ := a0
  obtain ⟨a1_Thing, a1_At, a1_Kind, a1_Place, ⟨a1_Trip_Leg, a1_Trip_Day⟩⟩ := a1
  obtain ⟨a2_Thing, a2_At, a2_Kind, a2_Place, ⟨a2_Trip_Leg, a2_Trip_Day⟩⟩ := a2
  have hrda_Leg : ∀ l, rda (d_Leg l) = r_Leg l := rda_Leg hg ht
  have hrda_I64 : ∀ l, rda (d_I64 l) = r_I64 l := rda_I64 hg ht
  unfold L_FnExactCanFollow at h
  try dsimp only at h
  cbv
  obtain ⟨x1, hx1, h⟩ := of_lP h
  try dsimp only at h
  refine ACall.mk _ _ rfl (hF _ _ _ (c_L_szNetwork hg ht hx1)) (.inl rfl) (Nat.le_of_ble_eq_true rfl) ?_
  cbv
  cases hb1 : (lt x1 0) with
  | true =>
    rw [br_true hb1] at h
    cbv
    obtain rfl := Option.some.inj h
    exact ARet.mk trivial hX.symm
  | false =>
    rw [br_false hb1] at h
    cbv
    obtain ⟨x2, hx2, h⟩ := of_lP h
    try dsimp only at h
    refine ACall.mk _ _ rfl (hF _ _ _ (c_L_szScan hg ht hx2)) (.inl rfl) (Nat.le_of_ble_eq_true rfl) ?_
    cbv
    cases hb2 : (lt x2 0) with
    | true =>
      rw [br_true hb2] at h
      cbv
      obtain rfl := Option.some.inj h
      exact ARet.mk trivial hX.symm
    | false =>
      rw [br_false hb2] at h
      cbv
      obtain ⟨x3, hx3, h⟩ := of_lP h
      try dsimp only at h
      refine ACall.mk _ _ rfl (hF _ _ _ (c_L_szScan hg ht hx3)) (.inl rfl) (Nat.le_of_ble_eq_true rfl) ?_
      cbv
      cases hb3 : (lt x3 0) with
      | true =>
        rw [br_true hb3] at h
        cbv
        obtain rfl := Option.some.inj h
        exact ARet.mk trivial hX.symm
      | false =>
        rw [br_false hb3] at h
        cbv
        obtain ⟨x4, hx4, h⟩ := of_cl h
        obtain ⟨x4_Legs, x4_Off, x4_Change⟩ := x4
        try dsimp only at h
        refine ACallR.mk _ _ (.g [.r (.s 6 (r_Leg x4_Legs)), .r (.s 1 (r_I64 x4_Off)), .r (.v (.int .i64 x4_Change))]) rfl (hF _ _ _ (c_L_toNetwork hg ht hx4)) (.inl rfl) (Nat.le_of_ble_eq_true rfl) (by cbv; (try simp only [hrda_I64, hrda_Leg])) ?_
        cbv
        obtain ⟨x5, hx5, h⟩ := of_lP h
        obtain ⟨x5_Thing, x5_At, x5_Kind, x5_Place, ⟨x5_Trip_Leg, x5_Trip_Day⟩⟩ := x5
        try dsimp only at h
        refine ACall.mk _ _ rfl (hF _ _ _ (c_L_toScan hg ht hx5)) (.inl rfl) (Nat.le_of_ble_eq_true rfl) ?_
        cbv
        obtain ⟨x6, hx6, h⟩ := of_lP h
        obtain ⟨x6_Thing, x6_At, x6_Kind, x6_Place, ⟨x6_Trip_Leg, x6_Trip_Day⟩⟩ := x6
        try dsimp only at h
        refine ACall.mk _ _ rfl (hF _ _ _ (c_L_toScan hg ht hx6)) (.inl rfl) (Nat.le_of_ble_eq_true rfl) ?_
        cbv
        obtain ⟨x7, hx7, h⟩ := of_cl h
        try dsimp only at h
        refine ACall.mk _ _ rfl (hF _ _ _ (c_S_CanFollow hg ht hx7)) (.inl rfl) (Nat.le_of_ble_eq_true rfl) ?_
        cbv
        obtain ⟨x8, hx8, h⟩ := of_cl h
        obtain ⟨x8_Legs, x8_Off, x8_Change⟩ := x8
        try dsimp only at h
        refine ACallR.mk _ _ (.g [.r (.s 6 (r_Leg x8_Legs)), .r (.s 1 (r_I64 x8_Off)), .r (.v (.int .i64 x8_Change))]) rfl (hF _ _ _ (c_L_toNetwork hg ht hx8)) (.inl rfl) (Nat.le_of_ble_eq_true rfl) (by cbv; (try simp only [hrda_I64, hrda_Leg])) ?_
        cbv
        obtain ⟨x9, hx9, h⟩ := of_lP h
        obtain ⟨x9_Thing, x9_At, x9_Kind, x9_Place, ⟨x9_Trip_Leg, x9_Trip_Day⟩⟩ := x9
        try dsimp only at h
        refine ACall.mk _ _ rfl (hF _ _ _ (c_L_toScan hg ht hx9)) (.inl rfl) (Nat.le_of_ble_eq_true rfl) ?_
        cbv
        obtain ⟨x10, hx10, h⟩ := of_lP h
        obtain ⟨x10_Thing, x10_At, x10_Kind, x10_Place, ⟨x10_Trip_Leg, x10_Trip_Day⟩⟩ := x10
        try dsimp only at h
        refine ACall.mk _ _ rfl (hF _ _ _ (c_L_toScan hg ht hx10)) (.inl rfl) (Nat.le_of_ble_eq_true rfl) ?_
        cbv
        obtain ⟨x11, hx11, h⟩ := of_cl h
        try dsimp only at h
        refine ACall.mk _ _ rfl (hF _ _ _ (c_I_CanFollow hg ht hx11)) (.inl rfl) (Nat.le_of_ble_eq_true rfl) ?_
        cbv
        cases hb4 : x11 with
        | true =>
          rw [br_true hb4] at h
          cbv
          cases hb5 : x7 with
          | true =>
            rw [br_true hb5] at h
            cbv
            obtain ⟨x12, hx12, h⟩ := of_cl h
            obtain ⟨x12_Legs, x12_Off, x12_Change⟩ := x12
            try dsimp only at h
            refine ACallR.mk _ _ (.g [.r (.s 6 (r_Leg x12_Legs)), .r (.s 1 (r_I64 x12_Off)), .r (.v (.int .i64 x12_Change))]) rfl (hF _ _ _ (c_L_toNetwork hg ht hx12)) (.inl rfl) (Nat.le_of_ble_eq_true rfl) (by cbv; (try simp only [hrda_I64, hrda_Leg])) ?_
            cbv
            obtain ⟨x13, hx13, h⟩ := of_cl h
            try dsimp only at h
            refine ACall.mk _ _ rfl (hF _ _ _ (c_L_eqNetwork hg ht hx13)) (.inl rfl) (Nat.le_of_ble_eq_true rfl) ?_
            cbv
            cases hb6 : x13 with
            | true =>
              rw [br_true hb6] at h
              cbv
              obtain rfl := Option.some.inj h
              exact ARet.mk trivial hX.symm
            | false =>
              rw [br_false hb6] at h
              cbv
              obtain rfl := Option.some.inj h
              exact ARet.mk trivial hX.symm
          | false =>
            rw [br_false hb5] at h
            cbv
            obtain rfl := Option.some.inj h
            exact ARet.mk trivial hX.symm
        | false =>
          rw [br_false hb4] at h
          cbv
          cases hb7 : x7 with
          | true =>
            rw [br_true hb7] at h
            cbv
            obtain rfl := Option.some.inj h
            exact ARet.mk trivial hX.symm
          | false =>
            rw [br_false hb7] at h
            cbv
            obtain ⟨x14, hx14, h⟩ := of_cl h
            obtain ⟨x14_Legs, x14_Off, x14_Change⟩ := x14
            try dsimp only at h
            refine ACallR.mk _ _ (.g [.r (.s 6 (r_Leg x14_Legs)), .r (.s 1 (r_I64 x14_Off)), .r (.v (.int .i64 x14_Change))]) rfl (hF _ _ _ (c_L_toNetwork hg ht hx14)) (.inl rfl) (Nat.le_of_ble_eq_true rfl) (by cbv; (try simp only [hrda_I64, hrda_Leg])) ?_
            cbv
            obtain ⟨x15, hx15, h⟩ := of_cl h
            try dsimp only at h
            refine ACall.mk _ _ rfl (hF _ _ _ (c_L_eqNetwork hg ht hx15)) (.inl rfl) (Nat.le_of_ble_eq_true rfl) ?_
            cbv
            cases hb8 : x15 with
            | true =>
              rw [br_true hb8] at h
              cbv
              obtain rfl := Option.some.inj h
              exact ARet.mk trivial hX.symm
            | false =>
              rw [br_false hb8] at h
              cbv
              obtain rfl := Option.some.inj h
              exact ARet.mk trivial hX.symm
end Go.Vs
namespace Go.Vs
set_option maxRecDepth 100000
def ir13 : J :=
  .seq (.reg none [⟨(some 4), none, .mv (.k (V.i 0))⟩] [0, 1])
  (.seq (.reg none [⟨(some 5), none, .mv (.t 1)⟩,
     ⟨(some 6), none, .mv (.t 0)⟩,
     ⟨(some 7), none, .len false (.t 6)⟩,
     ⟨(some 8), none, .bin .sub .i (.t 5) (.t 7)⟩,
     ⟨(some 1), none, .mv (.t 8)⟩] [1])
  (.seq (.seq (.reg none [⟨(some 9), none, .mv (.t 1)⟩,
      ⟨(some 10), none, .bin .lss .i (.t 9) (.k (V.i 0))⟩] [1, 10])
   (.cond (.t 10)
    (.seq (.reg none [⟨(some 4), none, .mv (.k (V.i (-1)))⟩] [4])
     (.ret))
    (.skip)))
  (.seq (.reg none [⟨(some 11), none, .mv (.t 1)⟩,
     ⟨(some 4), none, .mv (.t 11)⟩] [4])
  (.ret))))
def rv13 : List RV := [.t 4]
open Go.Proofs Go.IntWalk
set_option linter.unusedVariables false
set_option maxRecDepth 100000
set_option maxHeartbeats 4000000
def L_szBookingS (g : G) (t : TE) (a0 : List Booking) (a1 : Int) : Int :=
  br (g.lt (g.wrap .i64 (g.sub a1 (g.llen (t.r_Booking a0)))) 0)
  (
   (-1))
  (
   (g.wrap .i64 (g.sub a1 (g.llen (t.r_Booking a0)))))
theorem fit13 : codeFit Try.prog Try.f13.ntmps (Try.f13.body.getD .skip) ir13 = true := by kernel_rfl
theorem c_L_szBookingS {g : G} {t : TE} {a0 : List Booking} {a1 : Int} {r : Int} (hg : g = G.real) (ht : t = TE.real) (h : L_szBookingS g t a0 a1 = r) : Fn Try.prog 13 [.c (.s 4 (t.r_Booking a0)), .c (.v (.int .i64 a1))] (.c (.r (.v (.int .i64 r)))) := by
  obtain ⟨X, hX⟩ := hide (.c (.r (.v (.int .i64 r))) : X)
  rw [← hX]
  refine fn_of (rvs := rv13) (j := ir13) Try.func13 rfl fit13 (Nat.le_of_ble_eq_true rfl) (by kernel_rfl) prog_mixed ?_
  intro g2 F hg2 hF
  obtain rfl : g2 = g := hg2.unique.trans hg.symm
  clear hg2
  obtain ⟨wrap, lt, le, eq, quo, rem, band, bor, bxor, shl, shr, nat, int, add, sub, mul, cat, seq, slt, sub3, byte, llen, nadd, nsub, dlen, dapp, dset, drep, rd, rda, up, rsub, dsub, all, sle, slen, hasI, putI, hasS, putS, imin, imax, fzc, bstr⟩ := g2
  obtain ⟨r_Leg, d_Leg, r_I64, d_I64, r_Booking, d_Booking, r_Trip, d_Trip, r_S, d_S, r_LI64, d_LI64, r_U8, d_U8, r_Fd⟩ := t
  unfold L_szBookingS at h
  try dsimp only at h
  cbv
  cases hb1 : (lt (wrap .i64 (sub a1 (llen (r_Booking a0)))) 0) with
  | true =>
    rw [br_true hb1] at h
    cbv
    subst h
    exact ARet.mk trivial hX.symm
  | false =>
    rw [br_false hb1] at h
    cbv
    subst h
    exact ARet.mk trivial hX.symm
end Go.Vs
namespace Go.Vs
set_option maxRecDepth 100000
def ir14 : J :=
  .seq (.reg none [⟨(some 4), none, .mv (.k (V.i 0))⟩] [0, 1])
  (.seq (.reg none [⟨(some 5), none, .mv (.t 1)⟩,
     ⟨(some 6), none, .mv (.t 0)⟩,
     ⟨(some 7), none, .len false (.t 6)⟩,
     ⟨(some 8), none, .bin .sub .i (.t 5) (.t 7)⟩,
     ⟨(some 1), none, .mv (.t 8)⟩] [1])
  (.seq (.seq (.reg none [⟨(some 9), none, .mv (.t 1)⟩,
      ⟨(some 10), none, .bin .lss .i (.t 9) (.k (V.i 0))⟩] [1, 10])
   (.cond (.t 10)
    (.seq (.reg none [⟨(some 4), none, .mv (.k (V.i (-1)))⟩] [4])
     (.ret))
    (.skip)))
  (.seq (.reg none [⟨(some 11), none, .mv (.t 1)⟩,
     ⟨(some 4), none, .mv (.t 11)⟩] [4])
  (.ret))))
def rv14 : List RV := [.t 4]
open Go.Proofs Go.IntWalk
set_option linter.unusedVariables false
set_option maxRecDepth 100000
set_option maxHeartbeats 4000000
def L_szTripS (g : G) (t : TE) (a0 : List Trip) (a1 : Int) : Int :=
  br (g.lt (g.wrap .i64 (g.sub a1 (g.llen (t.r_Trip a0)))) 0)
  (
   (-1))
  (
   (g.wrap .i64 (g.sub a1 (g.llen (t.r_Trip a0)))))
theorem fit14 : codeFit Try.prog Try.f14.ntmps (Try.f14.body.getD .skip) ir14 = true := by kernel_rfl
theorem c_L_szTripS {g : G} {t : TE} {a0 : List Trip} {a1 : Int} {r : Int} (hg : g = G.real) (ht : t = TE.real) (h : L_szTripS g t a0 a1 = r) : Fn Try.prog 14 [.c (.s 2 (t.r_Trip a0)), .c (.v (.int .i64 a1))] (.c (.r (.v (.int .i64 r)))) := by
  obtain ⟨X, hX⟩ := hide (.c (.r (.v (.int .i64 r))) : X)
  rw [← hX]
  refine fn_of (rvs := rv14) (j := ir14) Try.func14 rfl fit14 (Nat.le_of_ble_eq_true rfl) (by kernel_rfl) prog_mixed ?_
  intro g2 F hg2 hF
  obtain rfl : g2 = g := hg2.unique.trans hg.symm
  clear hg2
  obtain ⟨wrap, lt, le, eq, quo, rem, band, bor, bxor, shl, shr, nat, int, add, sub, mul, cat, seq, slt, sub3, byte, llen, nadd, nsub, dlen, dapp, dset, drep, rd, rda, up, rsub, dsub, all, sle, slen, hasI, putI, hasS, putS, imin, imax, fzc, bstr⟩ := g2
  obtain ⟨r_Leg, d_Leg, r_I64, d_I64, r_Booking, d_Booking, r_Trip, d_Trip, r_S, d_S, r_LI64, d_LI64, r_U8, d_U8, r_Fd⟩ := t
  unfold L_szTripS at h
  try dsimp only at h
  cbv
  cases hb1 : (lt (wrap .i64 (sub a1 (llen (r_Trip a0)))) 0) with
  | true =>
    rw [br_true hb1] at h
    cbv
    subst h
    exact ARet.mk trivial hX.symm
  | false =>
    rw [br_false hb1] at h
    cbv
    subst h
    exact ARet.mk trivial hX.symm
end Go.Vs
namespace Go.Vs
set_option maxRecDepth 100000
def ir51 : J :=
  .seq (.reg none [⟨(some 1), none, .box (.t 0)⟩,
     ⟨(some 2), none, .alloc [.r (.v (.int .i64 0)), .r (.v (.int .i64 0)), .r (.v (.int .i64 0)), .r (.v (.int .i64 0))]⟩] [1, 2])
  (.seq (.reg none [⟨(some 3), none, .alloc [.r (.v (.int .i64 0)), .r (.v (.int .i64 0)), .r (.v (.int .i64 0)), .r (.v (.int .i64 0))]⟩] [1, 2, 3])
  (.seq (.reg none [⟨(some 4), none, .fa 0 (.t 1)⟩,
     ⟨(some 5), none, .ld false 1 (.t 4)⟩,
     ⟨(some 6), none, .fa 0 (.t 3)⟩,
     ⟨none, none, .st 1 (.t 6) (.t 5)⟩] [1, 2, 3])
  (.seq (.reg none [⟨(some 7), none, .fa 1 (.t 1)⟩,
     ⟨(some 8), none, .ld true 2 (.t 7)⟩,
     ⟨(some 9), none, .call 39 true [(.t 8)]⟩,
     ⟨(some 10), none, .fa 1 (.t 3)⟩,
     ⟨none, none, .st 2 (.t 10) (.t 9)⟩] [1, 2, 3])
  (.seq (.reg none [⟨(some 11), none, .fa 3 (.t 1)⟩,
     ⟨(some 12), none, .ld false 1 (.t 11)⟩,
     ⟨(some 13), none, .fa 3 (.t 3)⟩,
     ⟨none, none, .st 1 (.t 13) (.t 12)⟩] [2, 3])
  (.seq (.reg none [⟨(some 14), none, .ld true 4 (.t 3)⟩,
     ⟨none, none, .st 4 (.t 2) (.t 14)⟩] [2])
  (.ret))))))
def rv51 : List RV := [.c 2 true 4]
open Go.Proofs Go.IntWalk
set_option linter.unusedVariables false
set_option maxRecDepth 100000
set_option maxHeartbeats 4000000
def L_toBooking (g : G) (t : TE) (a0 : Booking) : Booking :=
  lP (L_toTrip g t (Trip.mk a0.Trip.Leg a0.Trip.Day)) fun x1 =>
  (Booking.mk a0.Thing x1 a0.Weight)
theorem fit51 : codeFit Try.prog Try.f51.ntmps (Try.f51.body.getD .skip) ir51 = true := by kernel_rfl
theorem c_L_toBooking {g : G} {t : TE} {a0 : Booking} {r : Booking} (hg : g = G.real) (ht : t = TE.real) (h : L_toBooking g t a0 = r) : Fn Try.prog 51 [.g (Booking.rs t a0)] (.g (Booking.ds t r)) := by
  obtain ⟨X, hX⟩ := hide (.g (Booking.ds t r) : X)
  rw [← hX]
  refine fn_of (rvs := rv51) (j := ir51) Try.func51 rfl fit51 (Nat.le_of_ble_eq_true rfl) (by kernel_rfl) prog_mixed ?_
  intro g2 F hg2 hF
  obtain rfl : g2 = g := hg2.unique.trans hg.symm
  clear hg2
  obtain ⟨wrap, lt, le, eq, quo, rem, band, bor, bxor, shl, shr, nat, int, add, sub, mul, cat, seq, slt, sub3, byte, llen, nadd, nsub, dlen, dapp, dset, drep, rd, rda, up, rsub, dsub, all, sle, slen, hasI, putI, hasS, putS, imin, imax, fzc, bstr⟩ := g2
  obtain ⟨r_Leg, d_Leg, r_I64, d_I64, r_Booking, d_Booking, r_Trip, d_Trip, r_S, d_S, r_LI64, d_LI64, r_U8, d_U8, r_Fd⟩ := t
  obtain ⟨a0_Thing, ⟨a0_Trip_Leg, a0_Trip_Day⟩, a0_Weight⟩ := a0
  unfold L_toBooking at h
  try dsimp only at h
  cbv
  obtain ⟨x1, hx1, h⟩ := of_lP h
  obtain ⟨x1_Leg, x1_Day⟩ := x1
  try dsimp only at h
  refine ACall.mk _ _ rfl (hF _ _ _ (c_L_toTrip hg ht hx1)) (.inl rfl) (Nat.le_of_ble_eq_true rfl) ?_
  cbv
  subst h
  exact ARet.mk trivial hX.symm
end Go.Vs
namespace Go.Vs
set_option maxRecDepth 100000
def ir16 : J :=
  .seq (.reg none [⟨(some 2), none, .mv (.k (.c (.n 4)))⟩] [0])
  (.seq (.reg none [⟨(some 5), none, .mv (.t 0)⟩,
     ⟨(some 6), none, .len false (.t 5)⟩,
     ⟨(some 7), none, .mk 4 32 [.r (.v (.int .i64 0)), .r (.v (.int .i64 0)), .r (.v (.int .i64 0)), .r (.v (.int .i64 0))] (.t 6)⟩,
     ⟨(some 3), none, .mv (.t 7)⟩] [0, 3])
  (.seq (.seq (.reg none [⟨(some 4), none, .mv (.k (V.i 0))⟩] [0, 3, 4])
   (.bl 0 (.seq (.seq (.reg none [⟨(some 8), none, .mv (.t 4)⟩,
        ⟨(some 9), none, .mv (.t 0)⟩,
        ⟨(some 10), none, .len false (.t 9)⟩,
        ⟨(some 11), none, .bin .lss .i (.t 8) (.t 10)⟩] [0, 3, 4, 11])
     (.cond (.t 11)
      (.skip)
      (.exit 0)))
    (.seq (.block 1 (.reg none [⟨(some 14), none, .mv (.t 3)⟩,
        ⟨(some 15), none, .mv (.t 4)⟩,
        ⟨(some 16), none, .mv (.t 0)⟩,
        ⟨(some 17), none, .mv (.t 4)⟩,
        ⟨(some 18), none, .ia 4 (.t 16) (.t 17)⟩,
        ⟨(some 19), none, .ld true 4 (.t 18)⟩,
        ⟨(some 20), none, .call 51 true [(.t 19)]⟩,
        ⟨(some 21), none, .ia 4 (.t 14) (.t 15)⟩,
        ⟨none, none, .st 4 (.t 21) (.t 20)⟩] [0, 3, 4]))
    (.reg none [⟨(some 12), none, .mv (.t 4)⟩,
      ⟨(some 13), none, .bin .add .i (.t 12) (.k (V.i 1))⟩,
      ⟨(some 4), none, .mv (.t 13)⟩] [0, 3, 4])))))
  (.seq (.reg none [⟨(some 22), none, .mv (.t 3)⟩,
     ⟨(some 2), none, .mv (.t 22)⟩] [2])
  (.ret))))
def rv16 : List RV := [.t 2]
open Go.Proofs Go.IntWalk
set_option linter.unusedVariables false
set_option maxRecDepth 100000
set_option maxHeartbeats 4000000
def L_toBookingS_l1 (g : G) (t : TE) : List Booking → Int → List Booking → Option (List Booking)
  | [], v1, w1 =>
    some w1
  | z1 :: ls1, v1, w1 =>
    lP (L_toBooking g t (Booking.mk z1.Thing (Trip.mk z1.Trip.Leg z1.Trip.Day) z1.Weight)) fun x1 =>
    gd (((0 : Int) ≤ v1 ∧ v1 < (((g.dlen (t.d_Booking w1)) : Nat) : Int))) <|
    gt w1 (g.nat v1) fun x2 =>
    lP (List.set w1 (g.nat v1) (Booking.mk x1.Thing (Trip.mk x1.Trip.Leg x1.Trip.Day) x1.Weight)) fun (l2 : List Booking) =>
    L_toBookingS_l1 g t ls1 (g.wrap .i64 (g.add v1 1)) l2
def L_toBookingS (g : G) (t : TE) (a0 : List Booking) : Option (List Booking) :=
  gd (((0 : Int) ≤ (g.llen (t.r_Booking a0)) ∧ 32 * (g.llen (t.r_Booking a0)) ≤ 70368744177664 ∧ (g.llen (t.r_Booking a0)) ≤ 4611686018427387904)) <|
  lP (List.replicate (g.nat (g.llen (t.r_Booking a0))) (Booking.mk 0 (Trip.mk 0 0) 0)) fun (l1 : List Booking) =>
  cl (L_toBookingS_l1 g t a0 0 l1) fun y1 =>
  some y1
theorem fit16 : codeFit Try.prog Try.f16.ntmps (Try.f16.body.getD .skip) ir16 = true := by kernel_rfl
theorem c_L_toBookingS {g : G} {t : TE} {a0 : List Booking} {r : List Booking} (hg : g = G.real) (ht : t = TE.real) (h : L_toBookingS g t a0 = some r) : Fn Try.prog 16 [.c (.s 4 (t.r_Booking a0))] (.c (.o 4 (t.d_Booking r))) := by
  obtain ⟨X, hX⟩ := hide (.c (.o 4 (t.d_Booking r)) : X)
  rw [← hX]
  refine fn_of (rvs := rv16) (j := ir16) Try.func16 rfl fit16 (Nat.le_of_ble_eq_true rfl) (by kernel_rfl) prog_mixed ?_
  intro g2 F hg2 hF
  obtain rfl : g2 = g := hg2.unique.trans hg.symm
  clear hg2
  obtain ⟨wrap, lt, le, eq, quo, rem, band, bor, bxor, shl, shr, nat, int, add, sub, mul, cat, seq, slt, sub3, byte, llen, nadd, nsub, dlen, dapp, dset, drep, rd, rda, up, rsub, dsub, all, sle, slen, hasI, putI, hasS, putS, imin, imax, fzc, bstr⟩ := g2
  obtain ⟨r_Leg, d_Leg, r_I64, d_I64, r_Booking, d_Booking, r_Trip, d_Trip, r_S, d_S, r_LI64, d_LI64, r_U8, d_U8, r_Fd⟩ := t
  unfold L_toBookingS at h
  try dsimp only at h
  cbv
  obtain ⟨hc2, h⟩ := of_gd h
  refine AStep.mk (mk_ok hc2) ?_
  cbv
  obtain ⟨l1, hl1, h⟩ := of_lP h
  try dsimp only at h
  refine ANew.mk (d_Booking l1) (dlen (d_Booking l1)) (by rw [← hl1]; exact drep_Booking hg ht _ (Booking.mk 0 (Trip.mk 0 0) 0)) (by rw [← hl1]; exact drepn_Booking hg ht _ (Booking.mk 0 (Trip.mk 0 0) 0)) ?_
  cbv
  obtain ⟨o1, ho1, h⟩ := of_cl h
  try dsimp only at h
  try rw [hg] at ho1
  try rw [ht] at ho1
  refine ABL.mk { p : Nat × Int × List Booking // p.1 ≤ a0.length ∧ p.2.1 = ((p.1 : Nat) : Int) ∧ L_toBookingS_l1 G.real TE.real (List.drop p.1 a0) p.2.1 p.2.2 = some o1 } (fun ⟨⟨k1, v1, w1⟩, _⟩ => ({ sl := [(0, .c (.r (.s 4 (r_Booking a0)))), (3, .c (.f 0 4 0 (dlen (d_Booking w1)))), (4, .c (.r (.v (.int .i64 v1))))], tab := [(0, some (.arr 4 (d_Booking w1)))] } : St)) 1 (fun p => a0.length - p.1.1) ⟨(0, 0, l1), Nat.zero_le _, rfl, ho1⟩ (List Booking) (fun y1 => ({ sl := [(3, .c (.f 0 4 0 (dlen (d_Booking y1))))], tab := [(0, some (.arr 4 (d_Booking y1)))] } : St)) 1 (fun y => o1 = y) ?_ ?_ ?_
  · refine Wk.of [(0, some 48)] rfl rfl ?_ ?_
    · cbv
      all_goals exact ⟨⟨_, rfl, rfl⟩, ⟨_, rfl, rfl⟩, ⟨_, rfl, rfl⟩, trivial⟩
    · cbv
      all_goals exact ⟨⟨_, rfl, rfl⟩, trivial⟩
  · rintro ⟨⟨k1, v1, w1⟩, hk1, hi1, h_1⟩ hq1
    have hm1 := (hq1.1 0 _ _ rfl)
    try dsimp only at hk1 hi1 h_1
    clear hq1
    cbv
    by_cases hc1_ : k1 < a0.length
    · have hb1 : lt v1 (llen (r_Booking a0)) = true := ltL_true_Booking hg ht hi1 hc1_
      have hs1 := stepL_Booking hg ht hi1 hc1_ hm1
      obtain ⟨z1, hz1⟩ := some_of_lt hc1_
      rw [drop_of_some hz1] at h_1
      rw [L_toBookingS_l1] at h_1
      obtain ⟨z1_Thing, ⟨z1_Trip_Leg, z1_Trip_Day⟩, z1_Weight⟩ := z1
      try rw [← hg] at h_1
      try rw [← ht] at h_1
      try dsimp only at h_1
      rw [hb1]
      cbv
      refine AStep.mk (nn_L hi1) ?_
      cbv
      refine AGet.mk _ (r_getL_Booking hg ht hi1 hz1) ?_
      cbv
      obtain ⟨x1, hx1, h_1⟩ := of_lP h_1
      obtain ⟨x1_Thing, ⟨x1_Trip_Leg, x1_Trip_Day⟩, x1_Weight⟩ := x1
      try dsimp only at h_1
      refine ACall.mk _ _ rfl (hF _ _ _ (c_L_toBooking hg ht hx1)) (.inl rfl) (Nat.le_of_ble_eq_true rfl) ?_
      cbv
      obtain ⟨hc1, h_1⟩ := of_gd h_1
      refine AStep.mk hc1 ?_
      cbv
      obtain ⟨x2, hx2, h_1⟩ := of_gt h_1
      obtain ⟨x2_Thing, ⟨x2_Trip_Leg, x2_Trip_Day⟩, x2_Weight⟩ := x2
      try dsimp only at h_1
      refine AGet.mk _ (d_get_Booking hg ht hx2) ?_
      cbv
      obtain ⟨l2, hl2, h_1⟩ := of_lP h_1
      try dsimp only at h_1
      refine ANew.mk (d_Booking l2) _ (by rw [← hl2]; exact dset_Booking hg ht _ _ (Booking.mk x1_Thing (Trip.mk x1_Trip_Leg x1_Trip_Day) x1_Weight)) rfl ?_
      have hnl2 : (dlen (d_Booking w1)) = (d_Booking l2).length := (by rw [← hl2, dsetl_Booking ht]; exact (dlen_Booking hg ht _))
      cbv
      try rw [hg] at h_1
      try rw [ht] at h_1
      refine ⟨⟨(k1 + 1, (wrap .i64 (add v1 1)), l2), hc1_, hs1, h_1⟩, Wk.of [(0, some 0)] rfl rfl ?_ ?_, meas_L hc1_⟩
      · cbv
        all_goals try rw [show (dlen (d_Booking w1)) = (dlen (d_Booking l2)) from (hnl2).trans (dlen_Booking hg ht _).symm]
        all_goals exact ⟨⟨_, rfl, rfl⟩, ⟨_, rfl, rfl⟩, ⟨_, rfl, rfl⟩, trivial⟩
      · cbv
        all_goals try rw [show (dlen (d_Booking w1)) = (dlen (d_Booking l2)) from (hnl2).trans (dlen_Booking hg ht _).symm]
        all_goals exact ⟨⟨_, rfl, rfl⟩, trivial⟩
    · have hb1 : lt v1 (llen (r_Booking a0)) = false := ltL_false_Booking hg ht hi1 hc1_
      rw [List.drop_of_length_le (Nat.le_of_not_lt hc1_)] at h_1
      rw [L_toBookingS_l1] at h_1
      try rw [← hg] at h_1
      try rw [← ht] at h_1
      try dsimp only at h_1
      rw [hb1]
      cbv
      refine ⟨w1, Wk.of [(0, some 0)] rfl rfl ?_ ?_, (Option.some.inj h_1).symm⟩
      · cbv
        all_goals exact ⟨⟨_, rfl, rfl⟩, trivial⟩
      · cbv
        all_goals exact ⟨⟨_, rfl, rfl⟩, trivial⟩
  · rintro y1 hy1
    replace hy1 := hy1.symm
    subst hy1
    try dsimp only [lr, lrL, lrp, lrpL] at h
    cbv
    obtain rfl := Option.some.inj h
    exact ARet.mk ⟨rfl, (dlen_Booking hg ht _)⟩ hX.symm
end Go.Vs
namespace Go.Vs
set_option maxRecDepth 100000
def ir17 : J :=
  .seq (.reg none [⟨(some 2), none, .mv (.k (.c (.n 2)))⟩] [0])
  (.seq (.reg none [⟨(some 5), none, .mv (.t 0)⟩,
     ⟨(some 6), none, .len false (.t 5)⟩,
     ⟨(some 7), none, .mk 2 16 [.r (.v (.int .i64 0)), .r (.v (.int .i64 0))] (.t 6)⟩,
     ⟨(some 3), none, .mv (.t 7)⟩] [0, 3])
  (.seq (.seq (.reg none [⟨(some 4), none, .mv (.k (V.i 0))⟩] [0, 3, 4])
   (.bl 0 (.seq (.seq (.reg none [⟨(some 8), none, .mv (.t 4)⟩,
        ⟨(some 9), none, .mv (.t 0)⟩,
        ⟨(some 10), none, .len false (.t 9)⟩,
        ⟨(some 11), none, .bin .lss .i (.t 8) (.t 10)⟩] [0, 3, 4, 11])
     (.cond (.t 11)
      (.skip)
      (.exit 0)))
    (.seq (.block 1 (.reg none [⟨(some 14), none, .mv (.t 3)⟩,
        ⟨(some 15), none, .mv (.t 4)⟩,
        ⟨(some 16), none, .mv (.t 0)⟩,
        ⟨(some 17), none, .mv (.t 4)⟩,
        ⟨(some 18), none, .ia 2 (.t 16) (.t 17)⟩,
        ⟨(some 19), none, .ld true 2 (.t 18)⟩,
        ⟨(some 20), none, .call 39 true [(.t 19)]⟩,
        ⟨(some 21), none, .ia 2 (.t 14) (.t 15)⟩,
        ⟨none, none, .st 2 (.t 21) (.t 20)⟩] [0, 3, 4]))
    (.reg none [⟨(some 12), none, .mv (.t 4)⟩,
      ⟨(some 13), none, .bin .add .i (.t 12) (.k (V.i 1))⟩,
      ⟨(some 4), none, .mv (.t 13)⟩] [0, 3, 4])))))
  (.seq (.reg none [⟨(some 22), none, .mv (.t 3)⟩,
     ⟨(some 2), none, .mv (.t 22)⟩] [2])
  (.ret))))
def rv17 : List RV := [.t 2]
open Go.Proofs Go.IntWalk
set_option linter.unusedVariables false
set_option maxRecDepth 100000
set_option maxHeartbeats 4000000
def L_toTripS_l1 (g : G) (t : TE) : List Trip → Int → List Trip → Option (List Trip)
  | [], v1, w1 =>
    some w1
  | z1 :: ls1, v1, w1 =>
    lP (L_toTrip g t z1) fun x1 =>
    gd (((0 : Int) ≤ v1 ∧ v1 < (((g.dlen (t.d_Trip w1)) : Nat) : Int))) <|
    gt w1 (g.nat v1) fun x2 =>
    lP (List.set w1 (g.nat v1) (Trip.mk x1.Leg x1.Day)) fun (l2 : List Trip) =>
    L_toTripS_l1 g t ls1 (g.wrap .i64 (g.add v1 1)) l2
def L_toTripS (g : G) (t : TE) (a0 : List Trip) : Option (List Trip) :=
  gd (((0 : Int) ≤ (g.llen (t.r_Trip a0)) ∧ 16 * (g.llen (t.r_Trip a0)) ≤ 70368744177664 ∧ (g.llen (t.r_Trip a0)) ≤ 4611686018427387904)) <|
  lP (List.replicate (g.nat (g.llen (t.r_Trip a0))) (Trip.mk 0 0)) fun (l1 : List Trip) =>
  cl (L_toTripS_l1 g t a0 0 l1) fun y1 =>
  some y1
theorem fit17 : codeFit Try.prog Try.f17.ntmps (Try.f17.body.getD .skip) ir17 = true := by kernel_rfl
theorem c_L_toTripS {g : G} {t : TE} {a0 : List Trip} {r : List Trip} (hg : g = G.real) (ht : t = TE.real) (h : L_toTripS g t a0 = some r) : Fn Try.prog 17 [.c (.s 2 (t.r_Trip a0))] (.c (.o 2 (t.d_Trip r))) := by
  obtain ⟨X, hX⟩ := hide (.c (.o 2 (t.d_Trip r)) : X)
  rw [← hX]
  refine fn_of (rvs := rv17) (j := ir17) Try.func17 rfl fit17 (Nat.le_of_ble_eq_true rfl) (by kernel_rfl) prog_mixed ?_
  intro g2 F hg2 hF
  obtain rfl : g2 = g := hg2.unique.trans hg.symm
  clear hg2
  obtain ⟨wrap, lt, le, eq, quo, rem, band, bor, bxor, shl, shr, nat, int, add, sub, mul, cat, seq, slt, sub3, byte, llen, nadd, nsub, dlen, dapp, dset, drep, rd, rda, up, rsub, dsub, all, sle, slen, hasI, putI, hasS, putS, imin, imax, fzc, bstr⟩ := g2
  obtain ⟨r_Leg, d_Leg, r_I64, d_I64, r_Booking, d_Booking, r_Trip, d_Trip, r_S, d_S, r_LI64, d_LI64, r_U8, d_U8, r_Fd⟩ := t
  unfold L_toTripS at h
  try dsimp only at h
  cbv
  obtain ⟨hc2, h⟩ := of_gd h
  refine AStep.mk (mk_ok hc2) ?_
  cbv
  obtain ⟨l1, hl1, h⟩ := of_lP h
  try dsimp only at h
  refine ANew.mk (d_Trip l1) (dlen (d_Trip l1)) (by rw [← hl1]; exact drep_Trip hg ht _ (Trip.mk 0 0)) (by rw [← hl1]; exact drepn_Trip hg ht _ (Trip.mk 0 0)) ?_
  cbv
  obtain ⟨o1, ho1, h⟩ := of_cl h
  try dsimp only at h
  try rw [hg] at ho1
  try rw [ht] at ho1
  refine ABL.mk { p : Nat × Int × List Trip // p.1 ≤ a0.length ∧ p.2.1 = ((p.1 : Nat) : Int) ∧ L_toTripS_l1 G.real TE.real (List.drop p.1 a0) p.2.1 p.2.2 = some o1 } (fun ⟨⟨k1, v1, w1⟩, _⟩ => ({ sl := [(0, .c (.r (.s 2 (r_Trip a0)))), (3, .c (.f 0 2 0 (dlen (d_Trip w1)))), (4, .c (.r (.v (.int .i64 v1))))], tab := [(0, some (.arr 2 (d_Trip w1)))] } : St)) 1 (fun p => a0.length - p.1.1) ⟨(0, 0, l1), Nat.zero_le _, rfl, ho1⟩ (List Trip) (fun y1 => ({ sl := [(3, .c (.f 0 2 0 (dlen (d_Trip y1))))], tab := [(0, some (.arr 2 (d_Trip y1)))] } : St)) 1 (fun y => o1 = y) ?_ ?_ ?_
  · refine Wk.of [(0, some 48)] rfl rfl ?_ ?_
    · cbv
      all_goals exact ⟨⟨_, rfl, rfl⟩, ⟨_, rfl, rfl⟩, ⟨_, rfl, rfl⟩, trivial⟩
    · cbv
      all_goals exact ⟨⟨_, rfl, rfl⟩, trivial⟩
  · rintro ⟨⟨k1, v1, w1⟩, hk1, hi1, h_1⟩ hq1
    have hm1 := (hq1.1 0 _ _ rfl)
    try dsimp only at hk1 hi1 h_1
    clear hq1
    cbv
    by_cases hc1_ : k1 < a0.length
    · have hb1 : lt v1 (llen (r_Trip a0)) = true := ltL_true_Trip hg ht hi1 hc1_
      have hs1 := stepL_Trip hg ht hi1 hc1_ hm1
      obtain ⟨z1, hz1⟩ := some_of_lt hc1_
      rw [drop_of_some hz1] at h_1
      rw [L_toTripS_l1] at h_1
      obtain ⟨z1_Leg, z1_Day⟩ := z1
      try rw [← hg] at h_1
      try rw [← ht] at h_1
      try dsimp only at h_1
      rw [hb1]
      cbv
      refine AStep.mk (nn_L hi1) ?_
      cbv
      refine AGet.mk _ (r_getL_Trip hg ht hi1 hz1) ?_
      cbv
      obtain ⟨x1, hx1, h_1⟩ := of_lP h_1
      obtain ⟨x1_Leg, x1_Day⟩ := x1
      try dsimp only at h_1
      refine ACall.mk _ _ rfl (hF _ _ _ (c_L_toTrip hg ht hx1)) (.inl rfl) (Nat.le_of_ble_eq_true rfl) ?_
      cbv
      obtain ⟨hc1, h_1⟩ := of_gd h_1
      refine AStep.mk hc1 ?_
      cbv
      obtain ⟨x2, hx2, h_1⟩ := of_gt h_1
      obtain ⟨x2_Leg, x2_Day⟩ := x2
      try dsimp only at h_1
      refine AGet.mk _ (d_get_Trip hg ht hx2) ?_
      cbv
      obtain ⟨l2, hl2, h_1⟩ := of_lP h_1
      try dsimp only at h_1
      refine ANew.mk (d_Trip l2) _ (by rw [← hl2]; exact dset_Trip hg ht _ _ (Trip.mk x1_Leg x1_Day)) rfl ?_
      have hnl2 : (dlen (d_Trip w1)) = (d_Trip l2).length := (by rw [← hl2, dsetl_Trip ht]; exact (dlen_Trip hg ht _))
      cbv
      try rw [hg] at h_1
      try rw [ht] at h_1
      refine ⟨⟨(k1 + 1, (wrap .i64 (add v1 1)), l2), hc1_, hs1, h_1⟩, Wk.of [(0, some 0)] rfl rfl ?_ ?_, meas_L hc1_⟩
      · cbv
        all_goals try rw [show (dlen (d_Trip w1)) = (dlen (d_Trip l2)) from (hnl2).trans (dlen_Trip hg ht _).symm]
        all_goals exact ⟨⟨_, rfl, rfl⟩, ⟨_, rfl, rfl⟩, ⟨_, rfl, rfl⟩, trivial⟩
      · cbv
        all_goals try rw [show (dlen (d_Trip w1)) = (dlen (d_Trip l2)) from (hnl2).trans (dlen_Trip hg ht _).symm]
        all_goals exact ⟨⟨_, rfl, rfl⟩, trivial⟩
    · have hb1 : lt v1 (llen (r_Trip a0)) = false := ltL_false_Trip hg ht hi1 hc1_
      rw [List.drop_of_length_le (Nat.le_of_not_lt hc1_)] at h_1
      rw [L_toTripS_l1] at h_1
      try rw [← hg] at h_1
      try rw [← ht] at h_1
      try dsimp only at h_1
      rw [hb1]
      cbv
      refine ⟨w1, Wk.of [(0, some 0)] rfl rfl ?_ ?_, (Option.some.inj h_1).symm⟩
      · cbv
        all_goals exact ⟨⟨_, rfl, rfl⟩, trivial⟩
      · cbv
        all_goals exact ⟨⟨_, rfl, rfl⟩, trivial⟩
  · rintro y1 hy1
    replace hy1 := hy1.symm
    subst hy1
    try dsimp only [lr, lrL, lrp, lrpL] at h
    cbv
    obtain rfl := Option.some.inj h
    exact ARet.mk ⟨rfl, (dlen_Trip hg ht _)⟩ hX.symm
end Go.Vs
namespace Go.Vs
set_option maxRecDepth 100000
def ir56 : J :=
  .seq (.reg none [⟨(some 2), none, .box (.t 0)⟩,
     ⟨(some 3), none, .box (.t 1)⟩,
     ⟨(some 4), none, .mv (.k (V.b false))⟩] [2, 3])
  (.seq (.seq (.reg none [⟨(some 5), none, .fa 0 (.t 2)⟩,
      ⟨(some 6), none, .ld false 1 (.t 5)⟩,
      ⟨(some 7), none, .fa 0 (.t 3)⟩,
      ⟨(some 8), none, .ld false 1 (.t 7)⟩,
      ⟨(some 9), none, .bin .neq .i (.t 6) (.t 8)⟩] [2, 3, 9])
   (.cond (.t 9)
    (.seq (.reg none [⟨(some 4), none, .mv (.k (V.b false))⟩] [4])
     (.ret))
    (.skip)))
  (.seq (.seq (.reg none [⟨(some 10), none, .fa 1 (.t 2)⟩,
      ⟨(some 11), none, .ld false 1 (.t 10)⟩,
      ⟨(some 12), none, .fa 1 (.t 3)⟩,
      ⟨(some 13), none, .ld false 1 (.t 12)⟩,
      ⟨(some 14), none, .bin .neq .i (.t 11) (.t 13)⟩] [14])
   (.cond (.t 14)
    (.seq (.reg none [⟨(some 4), none, .mv (.k (V.b false))⟩] [4])
     (.ret))
    (.skip)))
  (.seq (.reg none [⟨(some 4), none, .mv (.k (V.b true))⟩] [4])
  (.ret))))
def rv56 : List RV := [.t 4]
open Go.Proofs Go.IntWalk
set_option linter.unusedVariables false
set_option maxRecDepth 100000
set_option maxHeartbeats 4000000
def L_eqTrip (g : G) (t : TE) (a0 : Trip) (a1 : Trip) : Bool :=
  br (g.eq a0.Leg a1.Leg)
  (
   br (g.eq a0.Day a1.Day)
   (
    true)
   (
    false))
  (
   false)
theorem fit56 : codeFit Try.prog Try.f56.ntmps (Try.f56.body.getD .skip) ir56 = true := by kernel_rfl
theorem c_L_eqTrip {g : G} {t : TE} {a0 : Trip} {a1 : Trip} {r : Bool} (hg : g = G.real) (ht : t = TE.real) (h : L_eqTrip g t a0 a1 = r) : Fn Try.prog 56 [.g (Trip.rs t a0), .g (Trip.rs t a1)] (.c (.r (.v (.bool r)))) := by
  obtain ⟨X, hX⟩ := hide (.c (.r (.v (.bool r))) : X)
  rw [← hX]
  refine fn_of (rvs := rv56) (j := ir56) Try.func56 rfl fit56 (Nat.le_of_ble_eq_true rfl) (by kernel_rfl) prog_mixed ?_
  intro g2 F hg2 hF
  obtain rfl : g2 = g := hg2.unique.trans hg.symm
  clear hg2
  obtain ⟨wrap, lt, le, eq, quo, rem, band, bor, bxor, shl, shr, nat, int, add, sub, mul, cat, seq, slt, sub3, byte, llen, nadd, nsub, dlen, dapp, dset, drep, rd, rda, up, rsub, dsub, all, sle, slen, hasI, putI, hasS, putS, imin, imax, fzc, bstr⟩ := g2
  obtain ⟨r_Leg, d_Leg, r_I64, d_I64, r_Booking, d_Booking, r_Trip, d_Trip, r_S, d_S, r_LI64, d_LI64, r_U8, d_U8, r_Fd⟩ := t
  obtain ⟨a0_Leg, a0_Day⟩ := a0
  obtain ⟨a1_Leg, a1_Day⟩ := a1
  unfold L_eqTrip at h
  try dsimp only at h
  cbv
  cases hb1 : (eq a0_Leg a1_Leg) with
  | true =>
    rw [br_true hb1] at h
    cbv
    cases hb2 : (eq a0_Day a1_Day) with
    | true =>
      rw [br_true hb2] at h
      cbv
      subst h
      exact ARet.mk trivial hX.symm
    | false =>
      rw [br_false hb2] at h
      cbv
      subst h
      exact ARet.mk trivial hX.symm
  | false =>
    rw [br_false hb1] at h
    cbv
    subst h
    exact ARet.mk trivial hX.symm
end Go.Vs
namespace Go.Vs
set_option maxRecDepth 100000
def ir55 : J :=
  .seq (.reg none [⟨(some 2), none, .box (.t 0)⟩,
     ⟨(some 3), none, .box (.t 1)⟩,
     ⟨(some 4), none, .mv (.k (V.b false))⟩] [2, 3])
  (.seq (.seq (.reg none [⟨(some 5), none, .fa 0 (.t 2)⟩,
      ⟨(some 6), none, .ld false 1 (.t 5)⟩,
      ⟨(some 7), none, .fa 0 (.t 3)⟩,
      ⟨(some 8), none, .ld false 1 (.t 7)⟩,
      ⟨(some 9), none, .bin .neq .i (.t 6) (.t 8)⟩] [2, 3, 9])
   (.cond (.t 9)
    (.seq (.reg none [⟨(some 4), none, .mv (.k (V.b false))⟩] [4])
     (.ret))
    (.skip)))
  (.seq (.seq (.reg none [⟨(some 10), none, .fa 1 (.t 2)⟩,
      ⟨(some 11), none, .ld true 2 (.t 10)⟩,
      ⟨(some 12), none, .fa 1 (.t 3)⟩,
      ⟨(some 13), none, .ld true 2 (.t 12)⟩,
      ⟨(some 14), none, .call 56 true [(.t 11), (.t 13)]⟩,
      ⟨(some 15), none, .not (.t 14)⟩] [2, 3, 15])
   (.cond (.t 15)
    (.seq (.reg none [⟨(some 4), none, .mv (.k (V.b false))⟩] [4])
     (.ret))
    (.skip)))
  (.seq (.seq (.reg none [⟨(some 16), none, .fa 3 (.t 2)⟩,
      ⟨(some 17), none, .ld false 1 (.t 16)⟩,
      ⟨(some 18), none, .fa 3 (.t 3)⟩,
      ⟨(some 19), none, .ld false 1 (.t 18)⟩,
      ⟨(some 20), none, .bin .neq .i (.t 17) (.t 19)⟩] [20])
   (.cond (.t 20)
    (.seq (.reg none [⟨(some 4), none, .mv (.k (V.b false))⟩] [4])
     (.ret))
    (.skip)))
  (.seq (.reg none [⟨(some 4), none, .mv (.k (V.b true))⟩] [4])
  (.ret)))))
def rv55 : List RV := [.t 4]
open Go.Proofs Go.IntWalk
set_option linter.unusedVariables false
set_option maxRecDepth 100000
set_option maxHeartbeats 4000000
def L_eqBooking (g : G) (t : TE) (a0 : Booking) (a1 : Booking) : Bool :=
  br (g.eq a0.Thing a1.Thing)
  (
   lP (L_eqTrip g t (Trip.mk a0.Trip.Leg a0.Trip.Day) (Trip.mk a1.Trip.Leg a1.Trip.Day)) fun x1 =>
   br x1
   (
    br (g.eq a0.Weight a1.Weight)
    (
     true)
    (
     false))
   (
    false))
  (
   false)
theorem fit55 : codeFit Try.prog Try.f55.ntmps (Try.f55.body.getD .skip) ir55 = true := by kernel_rfl
theorem c_L_eqBooking {g : G} {t : TE} {a0 : Booking} {a1 : Booking} {r : Bool} (hg : g = G.real) (ht : t = TE.real) (h : L_eqBooking g t a0 a1 = r) : Fn Try.prog 55 [.g (Booking.rs t a0), .g (Booking.rs t a1)] (.c (.r (.v (.bool r)))) := by
  obtain ⟨X, hX⟩ := hide (.c (.r (.v (.bool r))) : X)
  rw [← hX]
  refine fn_of (rvs := rv55) (j := ir55) Try.func55 rfl fit55 (Nat.le_of_ble_eq_true rfl) (by kernel_rfl) prog_mixed ?_
  intro g2 F hg2 hF
  obtain rfl : g2 = g := hg2.unique.trans hg.symm
  clear hg2
  obtain ⟨wrap, lt, le, eq, quo, rem, band, bor, bxor, shl, shr, nat, int, add, sub, mul, cat, seq, slt, sub3, byte, llen, nadd, nsub, dlen, dapp, dset, drep, rd, rda, up, rsub, dsub, all, sle, slen, hasI, putI, hasS, putS, imin, imax, fzc, bstr⟩ := g2
  obtain ⟨r_Leg, d_Leg, r_I64, d_I64, r_Booking, d_Booking, r_Trip, d_Trip, r_S, d_S, r_LI64, d_LI64, r_U8, d_U8, r_Fd⟩ := t
  obtain ⟨a0_Thing, ⟨a0_Trip_Leg, a0_Trip_Day⟩, a0_Weight⟩ := a0
  obtain ⟨a1_Thing, ⟨a1_Trip_Leg, a1_Trip_Day⟩, a1_Weight⟩ := a1
  unfold L_eqBooking at h
  try dsimp only at h
  cbv
  cases hb1 : (eq a0_Thing a1_Thing) with
  | true =>
    rw [br_true hb1] at h
    cbv
    obtain ⟨x1, hx1, h⟩ := of_lP h
    try dsimp only at h
    refine ACall.mk _ _ rfl (hF _ _ _ (c_L_eqTrip hg ht hx1)) (.inl rfl) (Nat.le_of_ble_eq_true rfl) ?_
    cbv
    cases hb2 : x1 with
    | true =>
      rw [br_true hb2] at h
      cbv
      cases hb3 : (eq a0_Weight a1_Weight) with
      | true =>
        rw [br_true hb3] at h
        cbv
        subst h
        exact ARet.mk trivial hX.symm
      | false =>
        rw [br_false hb3] at h
        cbv
        subst h
        exact ARet.mk trivial hX.symm
    | false =>
      rw [br_false hb2] at h
      cbv
      subst h
      exact ARet.mk trivial hX.symm
  | false =>
    rw [br_false hb1] at h
    cbv
    subst h
    exact ARet.mk trivial hX.symm
end Go.Vs
namespace Go.Vs
set_option maxRecDepth 100000
def ir20 : J :=
  .seq (.reg none [⟨(some 4), none, .mv (.k (V.b false))⟩] [0, 1])
  (.seq (.seq (.reg none [⟨(some 6), none, .mv (.t 0)⟩,
      ⟨(some 7), none, .len false (.t 6)⟩,
      ⟨(some 8), none, .mv (.t 1)⟩,
      ⟨(some 9), none, .len false (.t 8)⟩,
      ⟨(some 10), none, .bin .neq .i (.t 7) (.t 9)⟩] [0, 1, 10])
   (.cond (.t 10)
    (.seq (.reg none [⟨(some 4), none, .mv (.k (V.b false))⟩] [4])
     (.ret))
    (.skip)))
  (.seq (.seq (.reg none [⟨(some 5), none, .mv (.k (V.i 0))⟩] [0, 1, 5])
   (.bl 0 (.seq (.seq (.reg none [⟨(some 11), none, .mv (.t 5)⟩,
        ⟨(some 12), none, .mv (.t 0)⟩,
        ⟨(some 13), none, .len false (.t 12)⟩,
        ⟨(some 14), none, .bin .lss .i (.t 11) (.t 13)⟩] [0, 1, 5, 14])
     (.cond (.t 14)
      (.skip)
      (.exit 0)))
    (.seq (.block 1 (.seq (.reg (some [[], [], [0, 1], [0, 1, 2], [], [], [4, 5], [4, 5, 6], [0, 1, 2, 3, 4, 5, 6, 7], [0, 1, 2, 3, 4, 5, 6, 7, 8]]) [⟨(some 17), none, .mv (.t 0)⟩,
         ⟨(some 18), none, .mv (.t 5)⟩,
         ⟨(some 19), none, .ia 4 (.t 17) (.t 18)⟩,
         ⟨(some 20), none, .ld true 4 (.t 19)⟩,
         ⟨(some 21), none, .mv (.t 1)⟩,
         ⟨(some 22), none, .mv (.t 5)⟩,
         ⟨(some 23), none, .ia 4 (.t 21) (.t 22)⟩,
         ⟨(some 24), none, .ld true 4 (.t 23)⟩,
         ⟨(some 25), none, .call 55 true [(.t 20), (.t 24)]⟩,
         ⟨(some 26), none, .not (.t 25)⟩] [0, 1, 5, 26])
      (.cond (.t 26)
       (.seq (.reg none [⟨(some 4), none, .mv (.k (V.b false))⟩] [4])
        (.ret))
       (.skip))))
    (.reg none [⟨(some 15), none, .mv (.t 5)⟩,
      ⟨(some 16), none, .bin .add .i (.t 15) (.k (V.i 1))⟩,
      ⟨(some 5), none, .mv (.t 16)⟩] [0, 1, 5])))))
  (.seq (.reg none [⟨(some 4), none, .mv (.k (V.b true))⟩] [4])
  (.ret))))
def rv20 : List RV := [.t 4]
open Go.Proofs Go.IntWalk
set_option linter.unusedVariables false
set_option maxRecDepth 100000
set_option maxHeartbeats 4000000
def L_eqBookingS_l1 (g : G) (t : TE) (a1 : List Booking) : List Booking → Int → Option (LR Bool Unit)
  | [], v1 =>
    some (LR.out ())
  | z1 :: ls1, v1 =>
    gt a1 (g.nat v1) fun x1 =>
    lP (L_eqBooking g t (Booking.mk z1.Thing (Trip.mk z1.Trip.Leg z1.Trip.Day) z1.Weight) (Booking.mk x1.Thing (Trip.mk x1.Trip.Leg x1.Trip.Day) x1.Weight)) fun x2 =>
    br x2
    (
     L_eqBookingS_l1 g t a1 ls1 (g.wrap .i64 (g.add v1 1)))
    (
     some (LR.ret false))
def L_eqBookingS (g : G) (t : TE) (a0 : List Booking) (a1 : List Booking) : Option Bool :=
  br (g.eq (g.llen (t.r_Booking a0)) (g.llen (t.r_Booking a1)))
  (
   cl (L_eqBookingS_l1 g t a1 a0 0) fun o1 => lr o1 fun y1 =>
   some true)
  (
   some false)
theorem fit20 : codeFit Try.prog Try.f20.ntmps (Try.f20.body.getD .skip) ir20 = true := by kernel_rfl
theorem c_L_eqBookingS {g : G} {t : TE} {a0 : List Booking} {a1 : List Booking} {r : Bool} (hg : g = G.real) (ht : t = TE.real) (h : L_eqBookingS g t a0 a1 = some r) : Fn Try.prog 20 [.c (.s 4 (t.r_Booking a0)), .c (.s 4 (t.r_Booking a1))] (.c (.r (.v (.bool r)))) := by
  obtain ⟨X, hX⟩ := hide (.c (.r (.v (.bool r))) : X)
  rw [← hX]
  refine fn_of (rvs := rv20) (j := ir20) Try.func20 rfl fit20 (Nat.le_of_ble_eq_true rfl) (by kernel_rfl) prog_mixed ?_
  intro g2 F hg2 hF
  obtain rfl : g2 = g := hg2.unique.trans hg.symm
  clear hg2
  obtain ⟨wrap, lt, le, eq, quo, rem, band, bor, bxor, shl, shr, nat, int, add, sub, mul, cat, seq, slt, sub3, byte, llen, nadd, nsub, dlen, dapp, dset, drep, rd, rda, up, rsub, dsub, all, sle, slen, hasI, putI, hasS, putS, imin, imax, fzc, bstr⟩ := g2
  obtain ⟨r_Leg, d_Leg, r_I64, d_I64, r_Booking, d_Booking, r_Trip, d_Trip, r_S, d_S, r_LI64, d_LI64, r_U8, d_U8, r_Fd⟩ := t
  unfold L_eqBookingS at h
  try dsimp only at h
  cbv
  cases hb1 : (eq (llen (r_Booking a0)) (llen (r_Booking a1))) with
  | true =>
    rw [br_true hb1] at h
    cbv
    obtain ⟨o1, ho1, h⟩ := of_cl h
    try dsimp only at h
    try rw [hg] at ho1
    try rw [ht] at ho1
    refine ABL.mk { p : Nat × Int // p.1 ≤ a0.length ∧ p.2 = ((p.1 : Nat) : Int) ∧ L_eqBookingS_l1 G.real TE.real a1 (List.drop p.1 a0) p.2 = some o1 } (fun ⟨⟨k1, v1⟩, _⟩ => ({ sl := [(0, .c (.r (.s 4 (r_Booking a0)))), (1, .c (.r (.s 4 (r_Booking a1)))), (5, .c (.r (.v (.int .i64 v1))))], tab := [] } : St)) 0 (fun p => a0.length - p.1.1) ⟨(0, 0), Nat.zero_le _, rfl, ho1⟩ (Unit) (fun _ => ({ sl := [], tab := [] } : St)) 0 (fun y => o1 = LR.out y) ?_ ?_ ?_
    · refine Wk.of [] rfl rfl ?_ ?_
      · cbv
        all_goals exact ⟨⟨_, rfl, rfl⟩, ⟨_, rfl, rfl⟩, ⟨_, rfl, rfl⟩, trivial⟩
      · cbv
        all_goals exact trivial
    · rintro ⟨⟨k1, v1⟩, hk1, hi1, h_1⟩ hq1
      have hm1 := (hq1.1 0 _ _ rfl)
      try dsimp only at hk1 hi1 h_1
      clear hq1
      cbv
      by_cases hc1_ : k1 < a0.length
      · have hb2 : lt v1 (llen (r_Booking a0)) = true := ltL_true_Booking hg ht hi1 hc1_
        have hs1 := stepL_Booking hg ht hi1 hc1_ hm1
        obtain ⟨z1, hz1⟩ := some_of_lt hc1_
        rw [drop_of_some hz1] at h_1
        rw [L_eqBookingS_l1] at h_1
        obtain ⟨z1_Thing, ⟨z1_Trip_Leg, z1_Trip_Day⟩, z1_Weight⟩ := z1
        try rw [← hg] at h_1
        try rw [← ht] at h_1
        try dsimp only at h_1
        rw [hb2]
        cbv
        refine AStep.mk (nn_L hi1) ?_
        cbv
        refine AGet.mk _ (r_getL_Booking hg ht hi1 hz1) ?_
        cbv
        refine AStep.mk (nn_L hi1) ?_
        cbv
        obtain ⟨x1, hx1, h_1⟩ := of_gt h_1
        obtain ⟨x1_Thing, ⟨x1_Trip_Leg, x1_Trip_Day⟩, x1_Weight⟩ := x1
        try dsimp only at h_1
        refine AGet.mk _ (r_get_Booking hg ht hx1) ?_
        cbv
        obtain ⟨x2, hx2, h_1⟩ := of_lP h_1
        try dsimp only at h_1
        refine ACall.mk _ _ rfl (hF _ _ _ (c_L_eqBooking hg ht hx2)) (.inl rfl) (Nat.le_of_ble_eq_true rfl) ?_
        cbv
        cases hb3 : x2 with
        | true =>
          rw [br_true hb3] at h_1
          cbv
          try rw [hg] at h_1
          try rw [ht] at h_1
          refine ⟨⟨(k1 + 1, (wrap .i64 (add v1 1))), hc1_, hs1, h_1⟩, Wk.of [] rfl rfl ?_ ?_, meas_L hc1_⟩
          · cbv
            all_goals exact ⟨⟨_, rfl, rfl⟩, ⟨_, rfl, rfl⟩, ⟨_, rfl, rfl⟩, trivial⟩
          · cbv
            all_goals exact trivial
        | false =>
          rw [br_false hb3] at h_1
          cbv
          obtain rfl := Option.some.inj h_1
          try dsimp only [lr, lrL, lrp, lrpL] at h
          obtain rfl := Option.some.inj h
          exact ARet.mk trivial hX.symm
      · have hb2 : lt v1 (llen (r_Booking a0)) = false := ltL_false_Booking hg ht hi1 hc1_
        rw [List.drop_of_length_le (Nat.le_of_not_lt hc1_)] at h_1
        rw [L_eqBookingS_l1] at h_1
        try rw [← hg] at h_1
        try rw [← ht] at h_1
        try dsimp only at h_1
        rw [hb2]
        cbv
        refine ⟨(), Wk.of [] rfl rfl ?_ ?_, (Option.some.inj h_1).symm⟩
        · cbv
          all_goals exact trivial
        · cbv
          all_goals exact trivial
    · rintro _ hy1
      replace hy1 := hy1.symm
      subst hy1
      try dsimp only [lr, lrL, lrp, lrpL] at h
      cbv
      obtain rfl := Option.some.inj h
      exact ARet.mk trivial hX.symm
  | false =>
    rw [br_false hb1] at h
    cbv
    obtain rfl := Option.some.inj h
    exact ARet.mk trivial hX.symm
end Go.Vs
namespace Go.Vs
set_option maxRecDepth 100000
def ir21 : J :=
  .seq (.reg none [⟨(some 4), none, .mv (.k (V.b false))⟩] [0, 1])
  (.seq (.seq (.reg none [⟨(some 6), none, .mv (.t 0)⟩,
      ⟨(some 7), none, .len false (.t 6)⟩,
      ⟨(some 8), none, .mv (.t 1)⟩,
      ⟨(some 9), none, .len false (.t 8)⟩,
      ⟨(some 10), none, .bin .neq .i (.t 7) (.t 9)⟩] [0, 1, 10])
   (.cond (.t 10)
    (.seq (.reg none [⟨(some 4), none, .mv (.k (V.b false))⟩] [4])
     (.ret))
    (.skip)))
  (.seq (.seq (.reg none [⟨(some 5), none, .mv (.k (V.i 0))⟩] [0, 1, 5])
   (.bl 0 (.seq (.seq (.reg none [⟨(some 11), none, .mv (.t 5)⟩,
        ⟨(some 12), none, .mv (.t 0)⟩,
        ⟨(some 13), none, .len false (.t 12)⟩,
        ⟨(some 14), none, .bin .lss .i (.t 11) (.t 13)⟩] [0, 1, 5, 14])
     (.cond (.t 14)
      (.skip)
      (.exit 0)))
    (.seq (.block 1 (.seq (.reg (some [[], [], [0, 1], [0, 1, 2], [], [], [4, 5], [4, 5, 6], [0, 1, 2, 3, 4, 5, 6, 7], [0, 1, 2, 3, 4, 5, 6, 7, 8]]) [⟨(some 17), none, .mv (.t 0)⟩,
         ⟨(some 18), none, .mv (.t 5)⟩,
         ⟨(some 19), none, .ia 2 (.t 17) (.t 18)⟩,
         ⟨(some 20), none, .ld true 2 (.t 19)⟩,
         ⟨(some 21), none, .mv (.t 1)⟩,
         ⟨(some 22), none, .mv (.t 5)⟩,
         ⟨(some 23), none, .ia 2 (.t 21) (.t 22)⟩,
         ⟨(some 24), none, .ld true 2 (.t 23)⟩,
         ⟨(some 25), none, .call 56 true [(.t 20), (.t 24)]⟩,
         ⟨(some 26), none, .not (.t 25)⟩] [0, 1, 5, 26])
      (.cond (.t 26)
       (.seq (.reg none [⟨(some 4), none, .mv (.k (V.b false))⟩] [4])
        (.ret))
       (.skip))))
    (.reg none [⟨(some 15), none, .mv (.t 5)⟩,
      ⟨(some 16), none, .bin .add .i (.t 15) (.k (V.i 1))⟩,
      ⟨(some 5), none, .mv (.t 16)⟩] [0, 1, 5])))))
  (.seq (.reg none [⟨(some 4), none, .mv (.k (V.b true))⟩] [4])
  (.ret))))
def rv21 : List RV := [.t 4]
open Go.Proofs Go.IntWalk
set_option linter.unusedVariables false
set_option maxRecDepth 100000
set_option maxHeartbeats 4000000
def L_eqTripS_l1 (g : G) (t : TE) (a1 : List Trip) : List Trip → Int → Option (LR Bool Unit)
  | [], v1 =>
    some (LR.out ())
  | z1 :: ls1, v1 =>
    gt a1 (g.nat v1) fun x1 =>
    lP (L_eqTrip g t z1 x1) fun x2 =>
    br x2
    (
     L_eqTripS_l1 g t a1 ls1 (g.wrap .i64 (g.add v1 1)))
    (
     some (LR.ret false))
def L_eqTripS (g : G) (t : TE) (a0 : List Trip) (a1 : List Trip) : Option Bool :=
  br (g.eq (g.llen (t.r_Trip a0)) (g.llen (t.r_Trip a1)))
  (
   cl (L_eqTripS_l1 g t a1 a0 0) fun o1 => lr o1 fun y1 =>
   some true)
  (
   some false)
theorem fit21 : codeFit Try.prog Try.f21.ntmps (Try.f21.body.getD .skip) ir21 = true := by kernel_rfl
theorem c_L_eqTripS {g : G} {t : TE} {a0 : List Trip} {a1 : List Trip} {r : Bool} (hg : g = G.real) (ht : t = TE.real) (h : L_eqTripS g t a0 a1 = some r) : Fn Try.prog 21 [.c (.s 2 (t.r_Trip a0)), .c (.s 2 (t.r_Trip a1))] (.c (.r (.v (.bool r)))) := by
  obtain ⟨X, hX⟩ := hide (.c (.r (.v (.bool r))) : X)
  rw [← hX]
  refine fn_of (rvs := rv21) (j := ir21) Try.func21 rfl fit21 (Nat.le_of_ble_eq_true rfl) (by kernel_rfl) prog_mixed ?_
  intro g2 F hg2 hF
  obtain rfl : g2 = g := hg2.unique.trans hg.symm
  clear hg2
  obtain ⟨wrap, lt, le, eq, quo, rem, band, bor, bxor, shl, shr, nat, int, add, sub, mul, cat, seq, slt, sub3, byte, llen, nadd, nsub, dlen, dapp, dset, drep, rd, rda, up, rsub, dsub, all, sle, slen, hasI, putI, hasS, putS, imin, imax, fzc, bstr⟩ := g2
  obtain ⟨r_Leg, d_Leg, r_I64, d_I64, r_Booking, d_Booking, r_Trip, d_Trip, r_S, d_S, r_LI64, d_LI64, r_U8, d_U8, r_Fd⟩ := t
  unfold L_eqTripS at h
  try dsimp only at h
  cbv
  cases hb1 : (eq (llen (r_Trip a0)) (llen (r_Trip a1))) with
  | true =>
    rw [br_true hb1] at h
    cbv
    obtain ⟨o1, ho1, h⟩ := of_cl h
    try dsimp only at h
    try rw [hg] at ho1
    try rw [ht] at ho1
    refine ABL.mk { p : Nat × Int // p.1 ≤ a0.length ∧ p.2 = ((p.1 : Nat) : Int) ∧ L_eqTripS_l1 G.real TE.real a1 (List.drop p.1 a0) p.2 = some o1 } (fun ⟨⟨k1, v1⟩, _⟩ => ({ sl := [(0, .c (.r (.s 2 (r_Trip a0)))), (1, .c (.r (.s 2 (r_Trip a1)))), (5, .c (.r (.v (.int .i64 v1))))], tab := [] } : St)) 0 (fun p => a0.length - p.1.1) ⟨(0, 0), Nat.zero_le _, rfl, ho1⟩ (Unit) (fun _ => ({ sl := [], tab := [] } : St)) 0 (fun y => o1 = LR.out y) ?_ ?_ ?_
    · refine Wk.of [] rfl rfl ?_ ?_
      · cbv
        all_goals exact ⟨⟨_, rfl, rfl⟩, ⟨_, rfl, rfl⟩, ⟨_, rfl, rfl⟩, trivial⟩
      · cbv
        all_goals exact trivial
    · rintro ⟨⟨k1, v1⟩, hk1, hi1, h_1⟩ hq1
      have hm1 := (hq1.1 0 _ _ rfl)
      try dsimp only at hk1 hi1 h_1
      clear hq1
      cbv
      by_cases hc1_ : k1 < a0.length
      · have hb2 : lt v1 (llen (r_Trip a0)) = true := ltL_true_Trip hg ht hi1 hc1_
        have hs1 := stepL_Trip hg ht hi1 hc1_ hm1
        obtain ⟨z1, hz1⟩ := some_of_lt hc1_
        rw [drop_of_some hz1] at h_1
        rw [L_eqTripS_l1] at h_1
        obtain ⟨z1_Leg, z1_Day⟩ := z1
        try rw [← hg] at h_1
        try rw [← ht] at h_1
        try dsimp only at h_1
        rw [hb2]
        cbv
        refine AStep.mk (nn_L hi1) ?_
        cbv
        refine AGet.mk _ (r_getL_Trip hg ht hi1 hz1) ?_
        cbv
        refine AStep.mk (nn_L hi1) ?_
        cbv
        obtain ⟨x1, hx1, h_1⟩ := of_gt h_1
        obtain ⟨x1_Leg, x1_Day⟩ := x1
        try dsimp only at h_1
        refine AGet.mk _ (r_get_Trip hg ht hx1) ?_
        cbv
        obtain ⟨x2, hx2, h_1⟩ := of_lP h_1
        try dsimp only at h_1
        refine ACall.mk _ _ rfl (hF _ _ _ (c_L_eqTrip hg ht hx2)) (.inl rfl) (Nat.le_of_ble_eq_true rfl) ?_
        cbv
        cases hb3 : x2 with
        | true =>
          rw [br_true hb3] at h_1
          cbv
          try rw [hg] at h_1
          try rw [ht] at h_1
          refine ⟨⟨(k1 + 1, (wrap .i64 (add v1 1))), hc1_, hs1, h_1⟩, Wk.of [] rfl rfl ?_ ?_, meas_L hc1_⟩
          · cbv
            all_goals exact ⟨⟨_, rfl, rfl⟩, ⟨_, rfl, rfl⟩, ⟨_, rfl, rfl⟩, trivial⟩
          · cbv
            all_goals exact trivial
        | false =>
          rw [br_false hb3] at h_1
          cbv
          obtain rfl := Option.some.inj h_1
          try dsimp only [lr, lrL, lrp, lrpL] at h
          obtain rfl := Option.some.inj h
          exact ARet.mk trivial hX.symm
      · have hb2 : lt v1 (llen (r_Trip a0)) = false := ltL_false_Trip hg ht hi1 hc1_
        rw [List.drop_of_length_le (Nat.le_of_not_lt hc1_)] at h_1
        rw [L_eqTripS_l1] at h_1
        try rw [← hg] at h_1
        try rw [← ht] at h_1
        try dsimp only at h_1
        rw [hb2]
        cbv
        refine ⟨(), Wk.of [] rfl rfl ?_ ?_, (Option.some.inj h_1).symm⟩
        · cbv
          all_goals exact trivial
        · cbv
          all_goals exact trivial
    · rintro _ hy1
      replace hy1 := hy1.symm
      subst hy1
      try dsimp only [lr, lrL, lrp, lrpL] at h
      cbv
      obtain rfl := Option.some.inj h
      exact ARet.mk trivial hX.symm
  | false =>
    rw [br_false hb1] at h
    cbv
    obtain rfl := Option.some.inj h
    exact ARet.mk trivial hX.symm
end Go.Vs
