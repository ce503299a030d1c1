/- Part of the proofs of this seat's laws: Laf. No condition. -/
import Derived.Test.YtkchjifooaonjaaTy
import Derived.Test.YtkchjifooaonjaaTIRall
import Derived.Test.YtkchjifooaonjaaLaa
import Derived.Test.YtkchjifooaonjaaLab
set_option linter.unusedVariables false
set_option linter.unusedSimpArgs false
set_option linter.unusedSectionVars false
namespace Go.Vs
set_option maxRecDepth 100000
def ir4 : J :=
  .seq (.reg none [⟨(some 2), none, .box (.t 0)⟩,
     ⟨(some 3), none, .box (.t 1)⟩,
     ⟨(some 4), none, .mv (.k (V.b false))⟩] [2, 3])
  (.seq (.reg none [⟨(some 5), none, .mv (.k (V.i 1048576))⟩] [2, 3, 5])
  (.seq (.reg none [⟨(some 9), none, .ld true 3 (.t 2)⟩,
     ⟨(some 10), none, .mv (.t 5)⟩,
     ⟨(some 11), none, .call 7 true [(.t 9), (.t 10)]⟩,
     ⟨(some 5), none, .mv (.t 11)⟩] [2, 3, 5])
  (.seq (.seq (.reg none [⟨(some 12), none, .mv (.t 5)⟩,
      ⟨(some 13), none, .bin .lss .i (.t 12) (.k (V.i 0))⟩] [2, 3, 5, 13])
   (.cond (.t 13)
    (.seq (.reg none [⟨(some 4), none, .mv (.k (V.b true))⟩] [4])
     (.ret))
    (.skip)))
  (.seq (.reg none [⟨(some 14), none, .ld true 6 (.t 3)⟩,
     ⟨(some 15), none, .mv (.t 5)⟩,
     ⟨(some 16), none, .call 8 true [(.t 14), (.t 15)]⟩,
     ⟨(some 5), none, .mv (.t 16)⟩] [2, 3, 5])
  (.seq (.seq (.reg none [⟨(some 17), none, .mv (.t 5)⟩,
      ⟨(some 18), none, .bin .lss .i (.t 17) (.k (V.i 0))⟩] [2, 3, 18])
   (.cond (.t 18)
    (.seq (.reg none [⟨(some 4), none, .mv (.k (V.b true))⟩] [4])
     (.ret))
    (.skip)))
  (.seq (.reg (some [[], [0], [], [0, 1, 2], [0, 1, 2, 3], [0, 1, 2, 3, 4]]) [⟨(some 19), none, .ld true 3 (.t 2)⟩,
     ⟨(some 20), none, .call 10 false [(.t 19)]⟩,
     ⟨(some 21), none, .ld true 6 (.t 3)⟩,
     ⟨(some 22), none, .call 11 true [(.t 21)]⟩,
     ⟨(some 23), none, .call 14 true [(.t 20), (.t 22)]⟩,
     ⟨(some 6), none, .mv (.t 23)⟩] [2, 3, 6])
  (.seq (.reg none [⟨(some 24), none, .ld true 3 (.t 2)⟩,
     ⟨(some 25), none, .call 10 false [(.t 24)]⟩,
     ⟨(some 7), none, .alloc [.n 6, .n 1, .r (.v (.int .i64 0))]⟩,
     ⟨none, none, .st 3 (.t 7) (.t 25)⟩] [2, 3, 6, 7])
  (.seq (.reg (some [[], [], [1], [0, 1, 2], [0, 1, 2, 3]]) [⟨(some 26), none, .ld true 3 (.t 7)⟩,
     ⟨(some 27), none, .ld true 6 (.t 3)⟩,
     ⟨(some 28), none, .call 11 true [(.t 27)]⟩,
     ⟨(some 29), none, .call 15 true [(.t 26), (.t 28)]⟩,
     ⟨(some 8), none, .mv (.t 29)⟩] [2, 6, 7, 8])
  (.seq (.seq (.reg none [⟨(some 30), none, .mv (.t 8)⟩,
      ⟨(some 31), none, .mv (.t 6)⟩,
      ⟨(some 32), none, .bin .neq .s (.t 30) (.t 31)⟩] [2, 7, 32])
   (.cond (.t 32)
    (.seq (.reg none [⟨(some 4), none, .mv (.k (V.b false))⟩] [4])
     (.ret))
    (.skip)))
  (.seq (.seq (.reg (some [[], [], [1], [0, 1, 2], [0, 1, 2, 3]]) [⟨(some 33), none, .ld true 3 (.t 7)⟩,
      ⟨(some 34), none, .ld true 3 (.t 2)⟩,
      ⟨(some 35), none, .call 10 false [(.t 34)]⟩,
      ⟨(some 36), none, .call 13 true [(.t 33), (.t 35)]⟩,
      ⟨(some 37), none, .not (.t 36)⟩] [37])
   (.cond (.t 37)
    (.seq (.reg none [⟨(some 4), none, .mv (.k (V.b false))⟩] [4])
     (.ret))
    (.skip)))
  (.seq (.reg none [⟨(some 4), none, .mv (.k (V.b true))⟩] [4])
  (.ret))))))))))))
def rv4 : List RV := [.t 4]
open Go.Proofs Go.IntWalk
set_option linter.unusedVariables false
set_option maxRecDepth 100000
set_option maxHeartbeats 4000000
def L_FnExactPlaceOf (g : G) (t : TE) (a0 : Network) (a1 : Scan) : Option Bool :=
  lP (L_szNetwork g t a0 1048576) fun x1 =>
  br (g.lt x1 0)
  (
   some true)
  (
   lP (L_szScan g t (Scan.mk a1.Thing a1.At a1.Kind a1.Place (Trip.mk a1.Trip.Leg a1.Trip.Day)) x1) fun x2 =>
   br (g.lt x2 0)
   (
    some true)
   (
    cl (L_toNetwork g t a0) fun x3 =>
    lP (L_toScan g t (Scan.mk a1.Thing a1.At a1.Kind a1.Place (Trip.mk a1.Trip.Leg a1.Trip.Day))) fun x4 =>
    cl (S_PlaceOf g t x3 (Scan.mk x4.Thing x4.At x4.Kind x4.Place (Trip.mk x4.Trip.Leg x4.Trip.Day))) fun x5 =>
    cl (L_toNetwork g t a0) fun x6 =>
    lP (L_toScan g t (Scan.mk a1.Thing a1.At a1.Kind a1.Place (Trip.mk a1.Trip.Leg a1.Trip.Day))) fun x7 =>
    cl (I_PlaceOf g t x6 (Scan.mk x7.Thing x7.At x7.Kind x7.Place (Trip.mk x7.Trip.Leg x7.Trip.Day))) fun x8 =>
    br (g.seq x8 x5)
    (
     cl (L_toNetwork g t a0) fun x9 =>
     cl (L_eqNetwork g t x6 x9) fun x10 =>
     br x10
     (
      some true)
     (
      some false))
    (
     some false)))
theorem fit4 : codeFit Try.prog Try.f4.ntmps (Try.f4.body.getD .skip) ir4 = true := by kernel_rfl
theorem c_L_FnExactPlaceOf {g : G} {t : TE} {a0 : Network} {a1 : Scan} {r : Bool} (hg : g = G.real) (ht : t = TE.real) (h : L_FnExactPlaceOf g t a0 a1 = some r) : Fn Try.prog 4 [.g (Network.rs t a0), .g (Scan.rs t a1)] (.c (.r (.v (.bool r)))) := by
  obtain ⟨X, hX⟩ := hide (.c (.r (.v (.bool r))) : X)
  rw [← hX]
  refine fn_of (rvs := rv4) (j := ir4) Try.func4 rfl fit4 (Nat.le_of_ble_eq_true rfl) (by kernel_rfl) prog_mixed ?_
  intro g2 F hg2 hF
  obtain rfl : g2 = g := hg2.unique.trans hg.symm
  clear hg2
  obtain ⟨wrap, lt, le, eq, quo, rem, band, bor, bxor, shl, shr, nat, int, add, sub, mul, cat, seq, slt, sub3, byte, llen, nadd, nsub, dlen, dapp, dset, drep, rd, rda, up, rsub, dsub, all, sle, slen, hasI, putI, hasS, putS, imin, imax, fzc, bstr⟩ := g2
  obtain ⟨r_Leg, d_Leg, r_I64, d_I64, r_S, d_S⟩ := t
  obtain ⟨a0_Legs, a0_Off, a0_Change⟩ := a0
  obtain ⟨a1_Thing, a1_At, a1_Kind, a1_Place, ⟨a1_Trip_Leg, a1_Trip_Day⟩⟩ := a1
  have hrda_Leg : ∀ l, rda (d_Leg l) = r_Leg l := rda_Leg hg ht
  have hrda_I64 : ∀ l, rda (d_I64 l) = r_I64 l := rda_I64 hg ht
  unfold L_FnExactPlaceOf at h
  try dsimp only at h
  cbv
  obtain ⟨x1, hx1, h⟩ := of_lP h
  try dsimp only at h
  refine ACall.mk _ _ rfl (hF _ _ _ (c_L_szNetwork hg ht hx1)) (.inl rfl) (Nat.le_of_ble_eq_true rfl) ?_
  cbv
  cases hb1 : (lt x1 0) with
  | true =>
    rw [br_true hb1] at h
    cbv
    obtain rfl := Option.some.inj h
    exact ARet.mk trivial hX.symm
  | false =>
    rw [br_false hb1] at h
    cbv
    obtain ⟨x2, hx2, h⟩ := of_lP h
    try dsimp only at h
    refine ACall.mk _ _ rfl (hF _ _ _ (c_L_szScan hg ht hx2)) (.inl rfl) (Nat.le_of_ble_eq_true rfl) ?_
    cbv
    cases hb2 : (lt x2 0) with
    | true =>
      rw [br_true hb2] at h
      cbv
      obtain rfl := Option.some.inj h
      exact ARet.mk trivial hX.symm
    | false =>
      rw [br_false hb2] at h
      cbv
      obtain ⟨x3, hx3, h⟩ := of_cl h
      obtain ⟨x3_Legs, x3_Off, x3_Change⟩ := x3
      try dsimp only at h
      refine ACallR.mk _ _ (.g [.r (.s 6 (r_Leg x3_Legs)), .r (.s 1 (r_I64 x3_Off)), .r (.v (.int .i64 x3_Change))]) rfl (hF _ _ _ (c_L_toNetwork hg ht hx3)) (.inl rfl) (Nat.le_of_ble_eq_true rfl) (by cbv; (try simp only [hrda_I64, hrda_Leg])) ?_
      cbv
      obtain ⟨x4, hx4, h⟩ := of_lP h
      obtain ⟨x4_Thing, x4_At, x4_Kind, x4_Place, ⟨x4_Trip_Leg, x4_Trip_Day⟩⟩ := x4
      try dsimp only at h
      refine ACall.mk _ _ rfl (hF _ _ _ (c_L_toScan hg ht hx4)) (.inl rfl) (Nat.le_of_ble_eq_true rfl) ?_
      cbv
      obtain ⟨x5, hx5, h⟩ := of_cl h
      try dsimp only at h
      refine ACall.mk _ _ rfl (hF _ _ _ (c_S_PlaceOf hg ht hx5)) (.inl rfl) (Nat.le_of_ble_eq_true rfl) ?_
      cbv
      obtain ⟨x6, hx6, h⟩ := of_cl h
      obtain ⟨x6_Legs, x6_Off, x6_Change⟩ := x6
      try dsimp only at h
      refine ACallR.mk _ _ (.g [.r (.s 6 (r_Leg x6_Legs)), .r (.s 1 (r_I64 x6_Off)), .r (.v (.int .i64 x6_Change))]) rfl (hF _ _ _ (c_L_toNetwork hg ht hx6)) (.inl rfl) (Nat.le_of_ble_eq_true rfl) (by cbv; (try simp only [hrda_I64, hrda_Leg])) ?_
      cbv
      obtain ⟨x7, hx7, h⟩ := of_lP h
      obtain ⟨x7_Thing, x7_At, x7_Kind, x7_Place, ⟨x7_Trip_Leg, x7_Trip_Day⟩⟩ := x7
      try dsimp only at h
      refine ACall.mk _ _ rfl (hF _ _ _ (c_L_toScan hg ht hx7)) (.inl rfl) (Nat.le_of_ble_eq_true rfl) ?_
      cbv
      obtain ⟨x8, hx8, h⟩ := of_cl h
      try dsimp only at h
      refine ACall.mk _ _ rfl (hF _ _ _ (c_I_PlaceOf hg ht hx8)) (.inl rfl) (Nat.le_of_ble_eq_true rfl) ?_
      cbv
      cases hb3 : (seq x8 x5) with
      | true =>
        rw [br_true hb3] at h
        cbv
        obtain ⟨x9, hx9, h⟩ := of_cl h
        obtain ⟨x9_Legs, x9_Off, x9_Change⟩ := x9
        try dsimp only at h
        refine ACallR.mk _ _ (.g [.r (.s 6 (r_Leg x9_Legs)), .r (.s 1 (r_I64 x9_Off)), .r (.v (.int .i64 x9_Change))]) rfl (hF _ _ _ (c_L_toNetwork hg ht hx9)) (.inl rfl) (Nat.le_of_ble_eq_true rfl) (by cbv; (try simp only [hrda_I64, hrda_Leg])) ?_
        cbv
        obtain ⟨x10, hx10, h⟩ := of_cl h
        try dsimp only at h
        refine ACall.mk _ _ rfl (hF _ _ _ (c_L_eqNetwork hg ht hx10)) (.inl rfl) (Nat.le_of_ble_eq_true rfl) ?_
        cbv
        cases hb4 : x10 with
        | true =>
          rw [br_true hb4] at h
          cbv
          obtain rfl := Option.some.inj h
          exact ARet.mk trivial hX.symm
        | false =>
          rw [br_false hb4] at h
          cbv
          obtain rfl := Option.some.inj h
          exact ARet.mk trivial hX.symm
      | false =>
        rw [br_false hb3] at h
        cbv
        obtain rfl := Option.some.inj h
        exact ARet.mk trivial hX.symm
end Go.Vs
