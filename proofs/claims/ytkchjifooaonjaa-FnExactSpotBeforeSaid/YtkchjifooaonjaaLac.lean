/- Part of the proofs of this seat's laws: Lac. No condition. -/
import Derived.Test.YtkchjifooaonjaaTy
import Derived.Test.YtkchjifooaonjaaTIRall
import Derived.Test.YtkchjifooaonjaaLaa
set_option linter.unusedVariables false
set_option linter.unusedSimpArgs false
set_option linter.unusedSectionVars false
namespace Go.Vs
set_option maxRecDepth 100000
def ir16 : J :=
  .seq (.reg none [⟨(some 2), none, .box (.t 0)⟩,
     ⟨(some 3), none, .box (.t 1)⟩,
     ⟨(some 4), none, .alloc [.r (.v (.string .empty)), .r (.v (.int .i64 0))]⟩] [2, 3, 4])
  (.seq (.block 0 (.seq (.reg none [⟨(some 6), none, .ld true 3 (.t 2)⟩,
       ⟨(some 7), none, .ld true 6 (.t 3)⟩,
       ⟨(some 8), none, .call 9 true [(.t 6), (.t 7)]⟩,
       ⟨(some 9), none, .not (.t 8)⟩,
       ⟨(some 5), none, .mv (.t 9)⟩] [2, 3, 4, 5])
    (.cond (.t 5)
     (.seq (.reg none [⟨(some 10), none, .bld [.r (.v (.string .empty)), .r (.v (.int .i64 0))] []⟩,
         ⟨none, none, .st 2 (.t 4) (.t 10)⟩] [4])
      (.ret))
     (.seq (.reg none [⟨(some 12), none, .fa 2 (.t 3)⟩,
         ⟨(some 13), none, .ld false 1 (.t 12)⟩,
         ⟨(some 14), none, .bin .eql .i (.t 13) (.k (V.i 3))⟩,
         ⟨(some 15), none, .mv (.t 14)⟩,
         ⟨(some 16), (some (15, false)), .fa 2 (.t 3)⟩,
         ⟨(some 17), (some (15, false)), .ld false 1 (.t 16)⟩,
         ⟨(some 18), (some (15, false)), .bin .eql .i (.t 17) (.k (V.i 2))⟩,
         ⟨(some 19), none, .pick (.t 15) (.k (V.b true)) (.t 18)⟩,
         ⟨(some 11), none, .mv (.t 19)⟩] [2, 3, 4, 11])
      (.cond (.t 11)
       (.seq (.reg (some [[], [0], [], [2], [2, 3], [0, 1, 2, 3, 4], [0, 1, 2, 3, 4, 5], [0, 1, 2, 3, 4, 5, 6], [], [], [9], [8, 9, 10], [0, 1, 2, 3, 4, 5, 6, 7, 8, 9, 10, 11], [0, 1, 2, 3, 4, 5, 6, 7, 8, 9, 10, 11, 12]]) [⟨(some 20), none, .fa 0 (.t 2)⟩,
           ⟨(some 21), none, .ld false 1 (.t 20)⟩,
           ⟨(some 22), none, .fa 4 (.t 3)⟩,
           ⟨(some 23), none, .fa 0 (.t 22)⟩,
           ⟨(some 24), none, .ld false 1 (.t 23)⟩,
           ⟨(some 25), none, .ia 6 (.t 21) (.t 24)⟩,
           ⟨(some 26), none, .fa 0 (.t 25)⟩,
           ⟨(some 27), none, .ld false 1 (.t 26)⟩,
           ⟨(some 28), none, .ld true 3 (.t 2)⟩,
           ⟨(some 29), none, .fa 4 (.t 3)⟩,
           ⟨(some 30), none, .ld true 2 (.t 29)⟩,
           ⟨(some 31), none, .call 28 true [(.t 28), (.t 30)]⟩,
           ⟨(some 32), none, .bld [.r (.v (.string .empty)), .r (.v (.int .i64 0))] [(0, 1, (.t 27)), (1, 1, (.t 31))]⟩,
           ⟨none, none, .st 2 (.t 4) (.t 32)⟩] [4])
        (.ret))
       (.skip))))))
  (.seq (.reg none [⟨(some 33), none, .fa 3 (.t 3)⟩,
     ⟨(some 34), none, .ld false 1 (.t 33)⟩,
     ⟨(some 35), none, .fa 1 (.t 3)⟩,
     ⟨(some 36), none, .ld false 1 (.t 35)⟩,
     ⟨(some 37), none, .bld [.r (.v (.string .empty)), .r (.v (.int .i64 0))] [(0, 1, (.t 34)), (1, 1, (.t 36))]⟩,
     ⟨none, none, .st 2 (.t 4) (.t 37)⟩] [4])
  (.ret)))
def rv16 : List RV := [.c 4 true 2]
open Go.Proofs Go.IntWalk
set_option linter.unusedVariables false
set_option maxRecDepth 100000
set_option maxHeartbeats 4000000
def S_SpotBefore (g : G) (t : TE) (a0 : Network) (a1 : Scan) : Option Spot :=
  cl (S_IsScan g t a0 (Scan.mk a1.Thing a1.At a1.Kind a1.Place (Trip.mk a1.Trip.Leg a1.Trip.Day))) fun x1 =>
  br x1
  (
   br (g.eq a1.Kind 3)
   (
    gd (((0 : Int) ≤ a1.Trip.Leg)) <|
    gt a0.Legs (g.nat a1.Trip.Leg) fun x2 =>
    cl (S_l3Starts g t a0 (Trip.mk a1.Trip.Leg a1.Trip.Day)) fun x3 =>
    some (Spot.mk x2.From x3))
   (
    br (g.eq a1.Kind 2)
    (
     gd (((0 : Int) ≤ a1.Trip.Leg)) <|
     gt a0.Legs (g.nat a1.Trip.Leg) fun x4 =>
     cl (S_l3Starts g t a0 (Trip.mk a1.Trip.Leg a1.Trip.Day)) fun x5 =>
     some (Spot.mk x4.From x5))
    (
     some (Spot.mk a1.Place a1.At))))
  (
   some (Spot.mk ByteArray.empty 0))
theorem fit16 : codeFit Try.prog Try.f16.ntmps (Try.f16.body.getD .skip) ir16 = true := by kernel_rfl
theorem c_S_SpotBefore {g : G} {t : TE} {a0 : Network} {a1 : Scan} {r : Spot} (hg : g = G.real) (ht : t = TE.real) (h : S_SpotBefore g t a0 a1 = some r) : Fn Try.prog 16 [.g (Network.rs t a0), .g (Scan.rs t a1)] (.g (Spot.ds t r)) := by
  obtain ⟨X, hX⟩ := hide (.g (Spot.ds t r) : X)
  rw [← hX]
  refine fn_of (rvs := rv16) (j := ir16) Try.func16 rfl fit16 (Nat.le_of_ble_eq_true rfl) (by kernel_rfl) prog_mixed ?_
  intro g2 F hg2 hF
  obtain rfl : g2 = g := hg2.unique.trans hg.symm
  clear hg2
  obtain ⟨wrap, lt, le, eq, quo, rem, band, bor, bxor, shl, shr, nat, int, add, sub, mul, cat, seq, slt, sub3, byte, llen, nadd, nsub, dlen, dapp, dset, drep, rd, rda, up, rsub, dsub, all, sle, slen, hasI, putI, hasS, putS, imin, imax, fzc, bstr⟩ := g2
  obtain ⟨r_Leg, d_Leg, r_I64, d_I64, r_S, d_S⟩ := t
  obtain ⟨a0_Legs, a0_Off, a0_Change⟩ := a0
  obtain ⟨a1_Thing, a1_At, a1_Kind, a1_Place, ⟨a1_Trip_Leg, a1_Trip_Day⟩⟩ := a1
  unfold S_SpotBefore at h
  try dsimp only at h
  cbv
  obtain ⟨x1, hx1, h⟩ := of_cl h
  try dsimp only at h
  refine ACall.mk _ _ rfl (hF _ _ _ (c_S_IsScan hg ht hx1)) (.inl rfl) (Nat.le_of_ble_eq_true rfl) ?_
  cbv
  cases hb1 : x1 with
  | true =>
    rw [br_true hb1] at h
    cbv
    cases hb2 : (eq a1_Kind 3) with
    | true =>
      rw [br_true hb2] at h
      cbv
      try (rw [hb2]; cbv)
      try (rw [hb2]; cbv)
      try (rw [hb2]; cbv)
      obtain ⟨hc1, h⟩ := of_gd h
      refine AStep.mk hc1 ?_
      cbv
      obtain ⟨x2, hx2, h⟩ := of_gt h
      obtain ⟨x2_From, x2_To, x2_Start, x2_Takes, x2_Days, x2_Room⟩ := x2
      try dsimp only at h
      refine AGet.mk _ (r_get_Leg hg ht hx2) ?_
      cbv
      obtain ⟨x3, hx3, h⟩ := of_cl h
      try dsimp only at h
      refine ACall.mk _ _ rfl (hF _ _ _ (c_S_l3Starts hg ht hx3)) (.inl rfl) (Nat.le_of_ble_eq_true rfl) ?_
      cbv
      obtain rfl := Option.some.inj h
      exact ARet.mk trivial hX.symm
    | false =>
      rw [br_false hb2] at h
      cbv
      try (rw [hb2]; cbv)
      try (rw [hb2]; cbv)
      try (rw [hb2]; cbv)
      cases hb3 : (eq a1_Kind 2) with
      | true =>
        rw [br_true hb3] at h
        cbv
        obtain ⟨hc2, h⟩ := of_gd h
        refine AStep.mk hc2 ?_
        cbv
        obtain ⟨x4, hx4, h⟩ := of_gt h
        obtain ⟨x4_From, x4_To, x4_Start, x4_Takes, x4_Days, x4_Room⟩ := x4
        try dsimp only at h
        refine AGet.mk _ (r_get_Leg hg ht hx4) ?_
        cbv
        obtain ⟨x5, hx5, h⟩ := of_cl h
        try dsimp only at h
        refine ACall.mk _ _ rfl (hF _ _ _ (c_S_l3Starts hg ht hx5)) (.inl rfl) (Nat.le_of_ble_eq_true rfl) ?_
        cbv
        obtain rfl := Option.some.inj h
        exact ARet.mk trivial hX.symm
      | false =>
        rw [br_false hb3] at h
        cbv
        obtain rfl := Option.some.inj h
        exact ARet.mk trivial hX.symm
  | false =>
    rw [br_false hb1] at h
    cbv
    obtain rfl := Option.some.inj h
    exact ARet.mk trivial hX.symm
end Go.Vs
