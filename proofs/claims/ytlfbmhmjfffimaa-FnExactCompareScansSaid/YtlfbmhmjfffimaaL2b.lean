/- Part of the proofs of this seat's laws: L2b. No condition. -/
import Derived.Test.YtlfbmhmjfffimaaTy
import Derived.Test.YtlfbmhmjfffimaaTIRall
import Derived.Test.YtlfbmhmjfffimaaL1a
import Derived.Test.YtlfbmhmjfffimaaL1c
set_option linter.unusedVariables false
set_option linter.unusedSimpArgs false
set_option linter.unusedSectionVars false
namespace Go.Vs
set_option maxRecDepth 100000
def ir104 : J :=
  .seq (.reg none [⟨(some 2), none, .box (.t 0)⟩,
     ⟨(some 3), none, .box (.t 1)⟩,
     ⟨(some 4), none, .mv (.k (V.b false))⟩] [2, 3])
  (.seq (.seq (.reg none [⟨(some 5), none, .fa 0 (.t 2)⟩,
      ⟨(some 6), none, .ld false 1 (.t 5)⟩,
      ⟨(some 7), none, .fa 0 (.t 3)⟩,
      ⟨(some 8), none, .ld false 1 (.t 7)⟩,
      ⟨(some 9), none, .bin .neq .i (.t 6) (.t 8)⟩] [2, 3, 9])
   (.cond (.t 9)
    (.seq (.reg none [⟨(some 4), none, .mv (.k (V.b false))⟩] [4])
     (.ret))
    (.skip)))
  (.seq (.seq (.reg none [⟨(some 10), none, .fa 1 (.t 2)⟩,
      ⟨(some 11), none, .ld true 2 (.t 10)⟩,
      ⟨(some 12), none, .fa 1 (.t 3)⟩,
      ⟨(some 13), none, .ld true 2 (.t 12)⟩,
      ⟨(some 14), none, .call 105 true [(.t 11), (.t 13)]⟩,
      ⟨(some 15), none, .not (.t 14)⟩] [2, 3, 15])
   (.cond (.t 15)
    (.seq (.reg none [⟨(some 4), none, .mv (.k (V.b false))⟩] [4])
     (.ret))
    (.skip)))
  (.seq (.seq (.reg none [⟨(some 16), none, .fa 3 (.t 2)⟩,
      ⟨(some 17), none, .ld false 1 (.t 16)⟩,
      ⟨(some 18), none, .fa 3 (.t 3)⟩,
      ⟨(some 19), none, .ld false 1 (.t 18)⟩,
      ⟨(some 20), none, .bin .neq .i (.t 17) (.t 19)⟩] [20])
   (.cond (.t 20)
    (.seq (.reg none [⟨(some 4), none, .mv (.k (V.b false))⟩] [4])
     (.ret))
    (.skip)))
  (.seq (.reg none [⟨(some 4), none, .mv (.k (V.b true))⟩] [4])
  (.ret)))))
def rv104 : List RV := [.t 4]
open Go.Proofs Go.IntWalk
set_option linter.unusedVariables false
set_option maxRecDepth 100000
set_option maxHeartbeats 4000000
def L_eqBooking (g : G) (t : TE) (a0 : Booking) (a1 : Booking) : Bool :=
  br (g.eq a0.Thing a1.Thing)
  (
   lP (L_eqTrip g t (Trip.mk a0.Trip.Leg a0.Trip.Day) (Trip.mk a1.Trip.Leg a1.Trip.Day)) fun x1 =>
   br x1
   (
    br (g.eq a0.Weight a1.Weight)
    (
     true)
    (
     false))
   (
    false))
  (
   false)
theorem fit104 : codeFit Try.prog Try.f104.ntmps (Try.f104.body.getD .skip) ir104 = true := by kernel_rfl
theorem c_L_eqBooking {g : G} {t : TE} {a0 : Booking} {a1 : Booking} {r : Bool} (hg : g = G.real) (ht : t = TE.real) (h : L_eqBooking g t a0 a1 = r) : Fn Try.prog 104 [.g (Booking.rs t a0), .g (Booking.rs t a1)] (.c (.r (.v (.bool r)))) := by
  obtain ⟨X, hX⟩ := hide (.c (.r (.v (.bool r))) : X)
  rw [← hX]
  refine fn_of (rvs := rv104) (j := ir104) Try.func104 rfl fit104 (Nat.le_of_ble_eq_true rfl) (by kernel_rfl) prog_mixed ?_
  intro g2 F hg2 hF
  obtain rfl : g2 = g := hg2.unique.trans hg.symm
  clear hg2
  obtain ⟨wrap, lt, le, eq, quo, rem, band, bor, bxor, shl, shr, nat, int, add, sub, mul, cat, seq, slt, sub3, byte, llen, nadd, nsub, dlen, dapp, dset, drep, rd, rda, up, rsub, dsub, all, sle, slen⟩ := g2
  obtain ⟨r_S, d_S, r_Trip, d_Trip, r_Leg, d_Leg, r_I64, d_I64, r_Order, d_Order, r_Booking, d_Booking, r_Scan, d_Scan, r_U8, d_U8, r_LI64, d_LI64⟩ := t
  obtain ⟨a0_Thing, ⟨a0_Trip_Leg, a0_Trip_Day⟩, a0_Weight⟩ := a0
  obtain ⟨a1_Thing, ⟨a1_Trip_Leg, a1_Trip_Day⟩, a1_Weight⟩ := a1
  unfold L_eqBooking at h
  try dsimp only at h
  cbv
  cases hb1 : (eq a0_Thing a1_Thing) with
  | true =>
    rw [br_true hb1] at h
    cbv
    obtain ⟨x1, hx1, h⟩ := of_lP h
    try dsimp only at h
    refine ACall.mk _ _ rfl (hF _ _ _ (c_L_eqTrip hg ht hx1)) (.inl rfl) (Nat.le_of_ble_eq_true rfl) ?_
    cbv
    cases hb2 : x1 with
    | true =>
      rw [br_true hb2] at h
      cbv
      cases hb3 : (eq a0_Weight a1_Weight) with
      | true =>
        rw [br_true hb3] at h
        cbv
        subst h
        exact ARet.mk trivial hX.symm
      | false =>
        rw [br_false hb3] at h
        cbv
        subst h
        exact ARet.mk trivial hX.symm
    | false =>
      rw [br_false hb2] at h
      cbv
      subst h
      exact ARet.mk trivial hX.symm
  | false =>
    rw [br_false hb1] at h
    cbv
    subst h
    exact ARet.mk trivial hX.symm
end Go.Vs
namespace Go.Vs
set_option maxRecDepth 100000
def ir123 : J :=
  .seq (.reg none [⟨(some 2), none, .box (.t 0)⟩,
     ⟨(some 3), none, .box (.t 1)⟩,
     ⟨(some 4), none, .mv (.k (V.b false))⟩] [2, 3])
  (.seq (.seq (.reg none [⟨(some 5), none, .fa 0 (.t 2)⟩,
      ⟨(some 6), none, .ld false 1 (.t 5)⟩,
      ⟨(some 7), none, .fa 0 (.t 3)⟩,
      ⟨(some 8), none, .ld false 1 (.t 7)⟩,
      ⟨(some 9), none, .bin .neq .i (.t 6) (.t 8)⟩] [2, 3, 9])
   (.cond (.t 9)
    (.seq (.reg none [⟨(some 4), none, .mv (.k (V.b false))⟩] [4])
     (.ret))
    (.skip)))
  (.seq (.seq (.reg none [⟨(some 10), none, .fa 1 (.t 2)⟩,
      ⟨(some 11), none, .ld false 1 (.t 10)⟩,
      ⟨(some 12), none, .fa 1 (.t 3)⟩,
      ⟨(some 13), none, .ld false 1 (.t 12)⟩,
      ⟨(some 14), none, .bin .neq .i (.t 11) (.t 13)⟩] [2, 3, 14])
   (.cond (.t 14)
    (.seq (.reg none [⟨(some 4), none, .mv (.k (V.b false))⟩] [4])
     (.ret))
    (.skip)))
  (.seq (.seq (.reg none [⟨(some 15), none, .fa 2 (.t 2)⟩,
      ⟨(some 16), none, .ld false 1 (.t 15)⟩,
      ⟨(some 17), none, .fa 2 (.t 3)⟩,
      ⟨(some 18), none, .ld false 1 (.t 17)⟩,
      ⟨(some 19), none, .bin .neq .i (.t 16) (.t 18)⟩] [2, 3, 19])
   (.cond (.t 19)
    (.seq (.reg none [⟨(some 4), none, .mv (.k (V.b false))⟩] [4])
     (.ret))
    (.skip)))
  (.seq (.seq (.reg none [⟨(some 20), none, .fa 3 (.t 2)⟩,
      ⟨(some 21), none, .ld false 1 (.t 20)⟩,
      ⟨(some 22), none, .fa 3 (.t 3)⟩,
      ⟨(some 23), none, .ld false 1 (.t 22)⟩,
      ⟨(some 24), none, .bin .neq .s (.t 21) (.t 23)⟩] [2, 3, 24])
   (.cond (.t 24)
    (.seq (.reg none [⟨(some 4), none, .mv (.k (V.b false))⟩] [4])
     (.ret))
    (.skip)))
  (.seq (.seq (.reg none [⟨(some 25), none, .fa 4 (.t 2)⟩,
      ⟨(some 26), none, .ld true 2 (.t 25)⟩,
      ⟨(some 27), none, .fa 4 (.t 3)⟩,
      ⟨(some 28), none, .ld true 2 (.t 27)⟩,
      ⟨(some 29), none, .call 105 true [(.t 26), (.t 28)]⟩,
      ⟨(some 30), none, .not (.t 29)⟩] [30])
   (.cond (.t 30)
    (.seq (.reg none [⟨(some 4), none, .mv (.k (V.b false))⟩] [4])
     (.ret))
    (.skip)))
  (.seq (.reg none [⟨(some 4), none, .mv (.k (V.b true))⟩] [4])
  (.ret)))))))
def rv123 : List RV := [.t 4]
open Go.Proofs Go.IntWalk
set_option linter.unusedVariables false
set_option maxRecDepth 100000
set_option maxHeartbeats 4000000
def L_eqScan (g : G) (t : TE) (a0 : Scan) (a1 : Scan) : Bool :=
  br (g.eq a0.Thing a1.Thing)
  (
   br (g.eq a0.At a1.At)
   (
    br (g.eq a0.Kind a1.Kind)
    (
     br (g.seq a0.Place a1.Place)
     (
      lP (L_eqTrip g t (Trip.mk a0.Trip.Leg a0.Trip.Day) (Trip.mk a1.Trip.Leg a1.Trip.Day)) fun x1 =>
      br x1
      (
       true)
      (
       false))
     (
      false))
    (
     false))
   (
    false))
  (
   false)
theorem fit123 : codeFit Try.prog Try.f123.ntmps (Try.f123.body.getD .skip) ir123 = true := by kernel_rfl
theorem c_L_eqScan {g : G} {t : TE} {a0 : Scan} {a1 : Scan} {r : Bool} (hg : g = G.real) (ht : t = TE.real) (h : L_eqScan g t a0 a1 = r) : Fn Try.prog 123 [.g (Scan.rs t a0), .g (Scan.rs t a1)] (.c (.r (.v (.bool r)))) := by
  obtain ⟨X, hX⟩ := hide (.c (.r (.v (.bool r))) : X)
  rw [← hX]
  refine fn_of (rvs := rv123) (j := ir123) Try.func123 rfl fit123 (Nat.le_of_ble_eq_true rfl) (by kernel_rfl) prog_mixed ?_
  intro g2 F hg2 hF
  obtain rfl : g2 = g := hg2.unique.trans hg.symm
  clear hg2
  obtain ⟨wrap, lt, le, eq, quo, rem, band, bor, bxor, shl, shr, nat, int, add, sub, mul, cat, seq, slt, sub3, byte, llen, nadd, nsub, dlen, dapp, dset, drep, rd, rda, up, rsub, dsub, all, sle, slen⟩ := g2
  obtain ⟨r_S, d_S, r_Trip, d_Trip, r_Leg, d_Leg, r_I64, d_I64, r_Order, d_Order, r_Booking, d_Booking, r_Scan, d_Scan, r_U8, d_U8, r_LI64, d_LI64⟩ := t
  obtain ⟨a0_Thing, a0_At, a0_Kind, a0_Place, ⟨a0_Trip_Leg, a0_Trip_Day⟩⟩ := a0
  obtain ⟨a1_Thing, a1_At, a1_Kind, a1_Place, ⟨a1_Trip_Leg, a1_Trip_Day⟩⟩ := a1
  unfold L_eqScan at h
  try dsimp only at h
  cbv
  cases hb1 : (eq a0_Thing a1_Thing) with
  | true =>
    rw [br_true hb1] at h
    cbv
    cases hb2 : (eq a0_At a1_At) with
    | true =>
      rw [br_true hb2] at h
      cbv
      cases hb3 : (eq a0_Kind a1_Kind) with
      | true =>
        rw [br_true hb3] at h
        cbv
        cases hb4 : (seq a0_Place a1_Place) with
        | true =>
          rw [br_true hb4] at h
          cbv
          obtain ⟨x1, hx1, h⟩ := of_lP h
          try dsimp only at h
          refine ACall.mk _ _ rfl (hF _ _ _ (c_L_eqTrip hg ht hx1)) (.inl rfl) (Nat.le_of_ble_eq_true rfl) ?_
          cbv
          cases hb5 : x1 with
          | true =>
            rw [br_true hb5] at h
            cbv
            subst h
            exact ARet.mk trivial hX.symm
          | false =>
            rw [br_false hb5] at h
            cbv
            subst h
            exact ARet.mk trivial hX.symm
        | false =>
          rw [br_false hb4] at h
          cbv
          subst h
          exact ARet.mk trivial hX.symm
      | false =>
        rw [br_false hb3] at h
        cbv
        subst h
        exact ARet.mk trivial hX.symm
    | false =>
      rw [br_false hb2] at h
      cbv
      subst h
      exact ARet.mk trivial hX.symm
  | false =>
    rw [br_false hb1] at h
    cbv
    subst h
    exact ARet.mk trivial hX.symm
end Go.Vs
namespace Go.Vs
set_option maxRecDepth 100000
def ir158 : J :=
  .seq (.reg none [⟨(some 2), none, .mv (.k (V.b false))⟩] [0])
  (.seq (.seq (.reg none [⟨(some 4), none, .mv (.t 0)⟩,
      ⟨(some 5), none, .len true (.t 4)⟩,
      ⟨(some 6), none, .bin .neq .i (.t 5) (.k (V.i 3))⟩] [0, 6])
   (.cond (.t 6)
    (.seq (.reg none [⟨(some 2), none, .mv (.k (V.b false))⟩] [2])
     (.ret))
    (.skip)))
  (.seq (.seq (.reg none [⟨(some 3), none, .mv (.k (V.i 0))⟩] [0, 3])
   (.bl 0 (.seq (.seq (.reg none [⟨(some 7), none, .mv (.t 3)⟩,
        ⟨(some 8), none, .bin .lss .i (.t 7) (.k (V.i 3))⟩] [0, 3, 8])
     (.cond (.t 8)
      (.skip)
      (.exit 0)))
    (.seq (.block 1 (.seq (.reg none [⟨(some 11), none, .mv (.t 0)⟩,
         ⟨(some 12), none, .mv (.t 3)⟩,
         ⟨(some 13), none, .idx (.t 11) (.t 12)⟩,
         ⟨(some 14), none, .cvt .i64 (.t 13)⟩,
         ⟨(some 15), none, .call 80 true [(.t 14), (.k (V.i 65)), (.k (V.i 90))]⟩,
         ⟨(some 16), none, .not (.t 15)⟩] [0, 3, 16])
      (.cond (.t 16)
       (.seq (.reg none [⟨(some 2), none, .mv (.k (V.b false))⟩] [2])
        (.ret))
       (.skip))))
    (.reg none [⟨(some 9), none, .mv (.t 3)⟩,
      ⟨(some 10), none, .bin .add .i (.t 9) (.k (V.i 1))⟩,
      ⟨(some 3), none, .mv (.t 10)⟩] [0, 3])))))
  (.seq (.reg none [⟨(some 2), none, .mv (.k (V.b true))⟩] [2])
  (.ret))))
def rv158 : List RV := [.t 2]
open Go.Proofs Go.IntWalk
set_option linter.unusedVariables false
set_option maxRecDepth 100000
set_option maxHeartbeats 4000000
def S_IsPlace_l1 (g : G) (t : TE) (a0 : ByteArray) : Nat → Int → Option (LR Bool Unit)
  | 0, v1 =>
    some (LR.out ())
  | n1 + 1, v1 =>
    gd ((0 ≤ v1 ∧ v1 < (((a0.size) : Nat) : Int))) <|
    lP (S_l1In g t (g.wrap .i64 (g.byte a0 v1)) 65 90) fun x1 =>
    br x1
    (
     S_IsPlace_l1 g t a0 n1 (g.wrap .i64 (g.add v1 1)))
    (
     some (LR.ret false))
def S_IsPlace (g : G) (t : TE) (a0 : ByteArray) : Option Bool :=
  br (g.eq (g.int (g.slen a0)) 3)
  (
   cl (S_IsPlace_l1 g t a0 (cntLt 0 3) 0) fun o1 => lr o1 fun y1 =>
   some true)
  (
   some false)
theorem fit158 : codeFit Try.prog Try.f158.ntmps (Try.f158.body.getD .skip) ir158 = true := by kernel_rfl
theorem c_S_IsPlace {g : G} {t : TE} {a0 : ByteArray} {r : Bool} (hg : g = G.real) (ht : t = TE.real) (h : S_IsPlace g t a0 = some r) : Fn Try.prog 158 [.c (.v (.string a0))] (.c (.r (.v (.bool r)))) := by
  obtain ⟨X, hX⟩ := hide (.c (.r (.v (.bool r))) : X)
  rw [← hX]
  refine fn_of (rvs := rv158) (j := ir158) Try.func158 rfl fit158 (Nat.le_of_ble_eq_true rfl) (by kernel_rfl) prog_mixed ?_
  intro g2 F hg2 hF
  obtain rfl : g2 = g := hg2.unique.trans hg.symm
  clear hg2
  obtain ⟨wrap, lt, le, eq, quo, rem, band, bor, bxor, shl, shr, nat, int, add, sub, mul, cat, seq, slt, sub3, byte, llen, nadd, nsub, dlen, dapp, dset, drep, rd, rda, up, rsub, dsub, all, sle, slen⟩ := g2
  obtain ⟨r_S, d_S, r_Trip, d_Trip, r_Leg, d_Leg, r_I64, d_I64, r_Order, d_Order, r_Booking, d_Booking, r_Scan, d_Scan, r_U8, d_U8, r_LI64, d_LI64⟩ := t
  unfold S_IsPlace at h
  try dsimp only at h
  cbv
  cases hb1 : (eq (int (slen a0)) 3) with
  | true =>
    rw [br_true hb1] at h
    cbv
    obtain ⟨o1, ho1, h⟩ := of_cl h
    try dsimp only at h
    try rw [hg] at ho1
    try rw [ht] at ho1
    refine ABL.mk { p : Nat × Int // p.1 = cntLt p.2 3 ∧ 0 ≤ p.2 ∧ S_IsPlace_l1 G.real TE.real a0 p.1 p.2 = some o1 } (fun ⟨⟨n1, v1⟩, _⟩ => ({ sl := [(0, .c (.r (.v (.string a0)))), (3, .c (.r (.v (.int .i64 v1))))], tab := [] } : St)) 0 (fun p => p.1.1) ⟨(cntLt 0 3, 0), rfl, Int.le_refl _, ho1⟩ (Unit) (fun _ => ({ sl := [], tab := [] } : St)) 0 (fun y => o1 = LR.out y) ?_ ?_ ?_
    · refine Wk.of [] rfl rfl ?_ ?_
      · cbv
        all_goals exact ⟨⟨_, rfl, rfl⟩, ⟨_, rfl, rfl⟩, trivial⟩
      · cbv
        all_goals exact trivial
    · rintro ⟨⟨n1, v1⟩, hn1, hi1, h_1⟩ hq1
      try dsimp only at hn1 hi1 h_1
      clear hq1
      cbv
      rcases n1 with _ | n1
      · have hb2 : lt v1 3 = false := ltC_false hg hn1
        rw [S_IsPlace_l1] at h_1
        try rw [← hg] at h_1
        try rw [← ht] at h_1
        try dsimp only at h_1
        rw [hb2]
        cbv
        refine ⟨(), Wk.of [] rfl rfl ?_ ?_, (Option.some.inj h_1).symm⟩
        · cbv
          all_goals exact trivial
        · cbv
          all_goals exact trivial
      · have hb2 : lt v1 3 = true := ltC_true hg hn1
        have hl1 := ltC_le hn1
        have hs1 := stepltC hg hn1 hi1 (by decide) (by decide)
        rw [S_IsPlace_l1] at h_1
        try rw [← hg] at h_1
        try rw [← ht] at h_1
        try dsimp only at h_1
        rw [hb2]
        cbv
        obtain ⟨hc1, h_1⟩ := of_gd h_1
        refine AStep.mk hc1 ?_
        cbv
        obtain ⟨x1, hx1, h_1⟩ := of_lP h_1
        try dsimp only at h_1
        refine ACall.mk _ _ rfl (hF _ _ _ (c_S_l1In hg ht hx1)) (.inl rfl) (Nat.le_of_ble_eq_true rfl) ?_
        cbv
        cases hb3 : x1 with
        | true =>
          rw [br_true hb3] at h_1
          cbv
          try rw [hg] at h_1
          try rw [ht] at h_1
          refine ⟨⟨(n1, (wrap .i64 (add v1 1))), hs1.1, hs1.2, h_1⟩, Wk.of [] rfl rfl ?_ ?_, Nat.lt_succ_self _⟩
          · cbv
            all_goals exact ⟨⟨_, rfl, rfl⟩, ⟨_, rfl, rfl⟩, trivial⟩
          · cbv
            all_goals exact trivial
        | false =>
          rw [br_false hb3] at h_1
          cbv
          obtain rfl := Option.some.inj h_1
          try dsimp only [lr, lrL, lrp, lrpL] at h
          obtain rfl := Option.some.inj h
          exact ARet.mk trivial hX.symm
    · rintro _ hy1
      replace hy1 := hy1.symm
      subst hy1
      try dsimp only [lr, lrL, lrp, lrpL] at h
      cbv
      obtain rfl := Option.some.inj h
      exact ARet.mk trivial hX.symm
  | false =>
    rw [br_false hb1] at h
    cbv
    obtain rfl := Option.some.inj h
    exact ARet.mk trivial hX.symm
end Go.Vs
namespace Go.Vs
set_option maxRecDepth 100000
def ir134 : J :=
  .seq (.reg none [⟨(some 3), none, .box (.t 0)⟩,
     ⟨(some 6), none, .mv (.k (V.b false))⟩] [1, 2, 3])
  (.seq (.reg none [⟨(some 7), none, .mv (.t 1)⟩,
     ⟨(some 8), none, .fa 0 (.t 3)⟩,
     ⟨(some 9), none, .ld false 1 (.t 8)⟩,
     ⟨(some 10), none, .len false (.t 9)⟩,
     ⟨(some 11), none, .bin .sub .i (.t 10) (.k (V.i 1))⟩,
     ⟨(some 12), none, .call 80 true [(.t 7), (.k (V.i 0)), (.t 11)]⟩,
     ⟨(some 13), none, .mv (.t 12)⟩,
     ⟨(some 14), (some (13, true)), .mv (.t 2)⟩,
     ⟨(some 15), (some (13, true)), .call 80 true [(.t 14), (.k (V.i 0)), (.k (V.i 60))]⟩,
     ⟨(some 16), none, .pick (.t 13) (.t 15) (.k (V.b false))⟩,
     ⟨(some 17), none, .mv (.t 16)⟩,
     ⟨(some 18), (some (17, true)), .fa 0 (.t 3)⟩,
     ⟨(some 19), (some (17, true)), .ld false 1 (.t 18)⟩,
     ⟨(some 20), (some (17, true)), .mv (.t 1)⟩,
     ⟨(some 21), (some (17, true)), .ia 6 (.t 19) (.t 20)⟩,
     ⟨(some 22), (some (17, true)), .fa 4 (.t 21)⟩,
     ⟨(some 23), (some (17, true)), .ld false 1 (.t 22)⟩,
     ⟨(some 24), (some (17, true)), .mv (.t 2)⟩,
     ⟨(some 25), (some (17, true)), .bin .rem .i (.t 24) (.k (V.i 7))⟩,
     ⟨(some 26), (some (17, true)), .bin .shr .i (.t 23) (.t 25)⟩,
     ⟨(some 27), (some (17, true)), .bin .and .i (.t 26) (.k (V.i 1))⟩,
     ⟨(some 28), (some (17, true)), .bin .eql .i (.t 27) (.k (V.i 1))⟩,
     ⟨(some 29), none, .pick (.t 17) (.t 28) (.k (V.b false))⟩,
     ⟨(some 30), none, .mv (.t 29)⟩,
     ⟨(some 31), (some (30, true)), .fa 1 (.t 3)⟩,
     ⟨(some 32), (some (30, true)), .ld false 1 (.t 31)⟩,
     ⟨(some 33), (some (30, true)), .mv (.t 2)⟩,
     ⟨(some 34), (some (30, true)), .call 163 true [(.t 32), (.t 33)]⟩,
     ⟨(some 35), (some (30, true)), .not (.t 34)⟩,
     ⟨(some 36), none, .pick (.t 30) (.t 35) (.k (V.b false))⟩,
     ⟨(some 6), none, .mv (.t 36)⟩] [6])
  (.ret))
def rv134 : List RV := [.t 6]
open Go.Proofs Go.IntWalk
set_option linter.unusedVariables false
set_option maxRecDepth 100000
set_option maxHeartbeats 4000000
def S_l3Runs (g : G) (t : TE) (a0 : Network) (a1 : Int) (a2 : Int) : Option Bool :=
  lP (S_l1In g t a1 0 (g.wrap .i64 (g.sub (g.llen (t.r_Leg a0.Legs)) 1))) fun x1 =>
  br x1
  (
   lP (S_l1In g t a2 0 60) fun x2 =>
   br x2
   (
    gd ((0 ≤ a1)) <|
    gt a0.Legs (g.nat a1) fun x3 =>
    gd ((0 ≤ (g.rem a2 7))) <|
    br (g.eq (g.band .i64 (g.shr .i64 x3.Days (g.rem a2 7)) 1) 1)
    (
     lP (S_l1Has g t a0.Off a2) fun x4 =>
     some (!x4))
    (
     some false))
   (
    some false))
  (
   some false)
theorem fit134 : codeFit Try.prog Try.f134.ntmps (Try.f134.body.getD .skip) ir134 = true := by kernel_rfl
theorem c_S_l3Runs {g : G} {t : TE} {a0 : Network} {a1 : Int} {a2 : Int} {r : Bool} (hg : g = G.real) (ht : t = TE.real) (h : S_l3Runs g t a0 a1 a2 = some r) : Fn Try.prog 134 [.g (Network.rs t a0), .c (.v (.int .i64 a1)), .c (.v (.int .i64 a2))] (.c (.r (.v (.bool r)))) := by
  obtain ⟨X, hX⟩ := hide (.c (.r (.v (.bool r))) : X)
  rw [← hX]
  refine fn_of (rvs := rv134) (j := ir134) Try.func134 rfl fit134 (Nat.le_of_ble_eq_true rfl) (by kernel_rfl) prog_mixed ?_
  intro g2 F hg2 hF
  obtain rfl : g2 = g := hg2.unique.trans hg.symm
  clear hg2
  obtain ⟨wrap, lt, le, eq, quo, rem, band, bor, bxor, shl, shr, nat, int, add, sub, mul, cat, seq, slt, sub3, byte, llen, nadd, nsub, dlen, dapp, dset, drep, rd, rda, up, rsub, dsub, all, sle, slen⟩ := g2
  obtain ⟨r_S, d_S, r_Trip, d_Trip, r_Leg, d_Leg, r_I64, d_I64, r_Order, d_Order, r_Booking, d_Booking, r_Scan, d_Scan, r_U8, d_U8, r_LI64, d_LI64⟩ := t
  obtain ⟨a0_Legs, a0_Off, a0_Change⟩ := a0
  unfold S_l3Runs at h
  try dsimp only at h
  cbv
  obtain ⟨x1, hx1, h⟩ := of_lP h
  try dsimp only at h
  refine ACall.mk _ _ rfl (hF _ _ _ (c_S_l1In hg ht hx1)) (.inl rfl) (Nat.le_of_ble_eq_true rfl) ?_
  cbv
  cases hb1 : x1 with
  | true =>
    rw [br_true hb1] at h
    cbv
    try (rw [hb1]; cbv)
    obtain ⟨x2, hx2, h⟩ := of_lP h
    try dsimp only at h
    refine ACall.mk _ _ rfl (hF _ _ _ (c_S_l1In hg ht hx2)) (.inl rfl) (Nat.le_of_ble_eq_true rfl) ?_
    cbv
    try (rw [hb1]; cbv)
    cases hb2 : x2 with
    | true =>
      rw [br_true hb2] at h
      cbv
      try (rw [hb2]; cbv)
      try (rw [hb2]; cbv)
      try (rw [hb2]; cbv)
      obtain ⟨hc1, h⟩ := of_gd h
      refine AStep.mk hc1 ?_
      cbv
      obtain ⟨x3, hx3, h⟩ := of_gt h
      obtain ⟨x3_From, x3_To, x3_Start, x3_Takes, x3_Days, x3_Room⟩ := x3
      try dsimp only at h
      refine AGet.mk _ (r_get_Leg hg ht hx3) ?_
      cbv
      try (rw [hb2]; cbv)
      try (rw [hb2]; cbv)
      try (rw [hb2]; cbv)
      try (rw [hb2]; cbv)
      refine AStep.mk (by decide) ?_
      cbv
      try (rw [hb2]; cbv)
      obtain ⟨hc2, h⟩ := of_gd h
      refine AStep.mk hc2 ?_
      cbv
      try (rw [hb2]; cbv)
      try (rw [hb2]; cbv)
      try (rw [hb2]; cbv)
      cases hb3 : (eq (band .i64 (shr .i64 x3_Days (rem a2 7)) 1) 1) with
      | true =>
        rw [br_true hb3] at h
        cbv
        try (rw [hb3]; cbv)
        try (rw [hb3]; cbv)
        try (rw [hb3]; cbv)
        obtain ⟨x4, hx4, h⟩ := of_lP h
        try dsimp only at h
        refine ACall.mk _ _ rfl (hF _ _ _ (c_S_l1Has hg ht hx4)) (.inl rfl) (Nat.le_of_ble_eq_true rfl) ?_
        cbv
        try (rw [hb3]; cbv)
        try (rw [hb3]; cbv)
        obtain rfl := Option.some.inj h
        exact ARet.mk trivial hX.symm
      | false =>
        rw [br_false hb3] at h
        cbv
        try (rw [hb3]; cbv)
        try (rw [hb3]; cbv)
        try (rw [hb3]; cbv)
        try (rw [hb3]; cbv)
        try (rw [hb3]; cbv)
        obtain rfl := Option.some.inj h
        exact ARet.mk trivial hX.symm
    | false =>
      rw [br_false hb2] at h
      cbv
      try (rw [hb2]; cbv)
      try (rw [hb2]; cbv)
      try (rw [hb2]; cbv)
      try (rw [hb2]; cbv)
      try (rw [hb2]; cbv)
      try (rw [hb2]; cbv)
      try (rw [hb2]; cbv)
      try (rw [hb2]; cbv)
      try (rw [hb2]; cbv)
      try (rw [hb2]; cbv)
      try (rw [hb2]; cbv)
      obtain rfl := Option.some.inj h
      exact ARet.mk trivial hX.symm
  | false =>
    rw [br_false hb1] at h
    cbv
    try (rw [hb1]; cbv)
    try (rw [hb1]; cbv)
    obtain rfl := Option.some.inj h
    exact ARet.mk trivial hX.symm
end Go.Vs
namespace Go.Vs
set_option maxRecDepth 100000
def ir85 : J :=
  .seq (.reg none [⟨(some 2), none, .box (.t 0)⟩,
     ⟨(some 3), none, .box (.t 1)⟩,
     ⟨(some 4), none, .mv (.k (V.i 0))⟩] [2, 3])
  (.seq (.reg (some [[], [], [0, 1], [], [3], [], [5], [3, 4, 5, 6], [3, 4, 5, 6, 7], [3, 4, 5, 6, 7, 8], [0, 1, 2, 3, 4, 5, 6, 7, 8, 9], [0, 1, 2, 3, 4, 5, 6, 7, 8, 9, 10]]) [⟨(some 5), none, .ld true 3 (.t 2)⟩,
     ⟨(some 6), none, .ld true 2 (.t 3)⟩,
     ⟨(some 7), none, .call 84 true [(.t 5), (.t 6)]⟩,
     ⟨(some 8), none, .fa 0 (.t 2)⟩,
     ⟨(some 9), none, .ld false 1 (.t 8)⟩,
     ⟨(some 10), none, .fa 0 (.t 3)⟩,
     ⟨(some 11), none, .ld false 1 (.t 10)⟩,
     ⟨(some 12), none, .ia 6 (.t 9) (.t 11)⟩,
     ⟨(some 13), none, .fa 3 (.t 12)⟩,
     ⟨(some 14), none, .ld false 1 (.t 13)⟩,
     ⟨(some 15), none, .bin .add .i (.t 7) (.t 14)⟩,
     ⟨(some 4), none, .mv (.t 15)⟩] [4])
  (.ret))
def rv85 : List RV := [.t 4]
open Go.Proofs Go.IntWalk
set_option linter.unusedVariables false
set_option maxRecDepth 100000
set_option maxHeartbeats 4000000
def S_l3Ends (g : G) (t : TE) (a0 : Network) (a1 : Trip) : Option Int :=
  cl (S_l3Starts g t a0 a1) fun x1 =>
  gd ((0 ≤ a1.Leg)) <|
  gt a0.Legs (g.nat a1.Leg) fun x2 =>
  some (g.wrap .i64 (g.add x1 x2.Takes))
theorem fit85 : codeFit Try.prog Try.f85.ntmps (Try.f85.body.getD .skip) ir85 = true := by kernel_rfl
theorem c_S_l3Ends {g : G} {t : TE} {a0 : Network} {a1 : Trip} {r : Int} (hg : g = G.real) (ht : t = TE.real) (h : S_l3Ends g t a0 a1 = some r) : Fn Try.prog 85 [.g (Network.rs t a0), .g (Trip.rs t a1)] (.c (.r (.v (.int .i64 r)))) := by
  obtain ⟨X, hX⟩ := hide (.c (.r (.v (.int .i64 r))) : X)
  rw [← hX]
  refine fn_of (rvs := rv85) (j := ir85) Try.func85 rfl fit85 (Nat.le_of_ble_eq_true rfl) (by kernel_rfl) prog_mixed ?_
  intro g2 F hg2 hF
  obtain rfl : g2 = g := hg2.unique.trans hg.symm
  clear hg2
  obtain ⟨wrap, lt, le, eq, quo, rem, band, bor, bxor, shl, shr, nat, int, add, sub, mul, cat, seq, slt, sub3, byte, llen, nadd, nsub, dlen, dapp, dset, drep, rd, rda, up, rsub, dsub, all, sle, slen⟩ := g2
  obtain ⟨r_S, d_S, r_Trip, d_Trip, r_Leg, d_Leg, r_I64, d_I64, r_Order, d_Order, r_Booking, d_Booking, r_Scan, d_Scan, r_U8, d_U8, r_LI64, d_LI64⟩ := t
  obtain ⟨a0_Legs, a0_Off, a0_Change⟩ := a0
  obtain ⟨a1_Leg, a1_Day⟩ := a1
  unfold S_l3Ends at h
  try dsimp only at h
  cbv
  obtain ⟨x1, hx1, h⟩ := of_cl h
  try dsimp only at h
  refine ACall.mk _ _ rfl (hF _ _ _ (c_S_l3Starts hg ht hx1)) (.inl rfl) (Nat.le_of_ble_eq_true rfl) ?_
  cbv
  obtain ⟨hc1, h⟩ := of_gd h
  refine AStep.mk hc1 ?_
  cbv
  obtain ⟨x2, hx2, h⟩ := of_gt h
  obtain ⟨x2_From, x2_To, x2_Start, x2_Takes, x2_Days, x2_Room⟩ := x2
  try dsimp only at h
  refine AGet.mk _ (r_get_Leg hg ht hx2) ?_
  cbv
  obtain rfl := Option.some.inj h
  exact ARet.mk trivial hX.symm
end Go.Vs
namespace Go.Vs
set_option maxRecDepth 100000
def ir128 : J :=
  .seq (.reg none [⟨(some 1), none, .box (.t 0)⟩,
     ⟨(some 2), none, .mv (.k (V.b false))⟩] [1])
  (.seq (.reg none [⟨(some 3), none, .fa 0 (.t 1)⟩,
     ⟨(some 4), none, .ld false 1 (.t 3)⟩,
     ⟨(some 5), none, .call 159 true [(.t 4)]⟩,
     ⟨(some 6), none, .mv (.t 5)⟩,
     ⟨(some 7), (some (6, true)), .fa 1 (.t 1)⟩,
     ⟨(some 8), (some (6, true)), .ld false 1 (.t 7)⟩,
     ⟨(some 9), (some (6, true)), .call 159 true [(.t 8)]⟩,
     ⟨(some 10), none, .pick (.t 6) (.t 9) (.k (V.b false))⟩,
     ⟨(some 11), none, .mv (.t 10)⟩,
     ⟨(some 12), (some (11, true)), .fa 0 (.t 1)⟩,
     ⟨(some 13), (some (11, true)), .ld false 1 (.t 12)⟩,
     ⟨(some 14), (some (11, true)), .fa 1 (.t 1)⟩,
     ⟨(some 15), (some (11, true)), .ld false 1 (.t 14)⟩,
     ⟨(some 16), (some (11, true)), .bin .neq .s (.t 13) (.t 15)⟩,
     ⟨(some 17), none, .pick (.t 11) (.t 16) (.k (V.b false))⟩,
     ⟨(some 18), none, .mv (.t 17)⟩,
     ⟨(some 19), (some (18, true)), .fa 2 (.t 1)⟩,
     ⟨(some 20), (some (18, true)), .ld false 1 (.t 19)⟩,
     ⟨(some 21), (some (18, true)), .call 88 true [(.t 20), (.k (V.i 0)), (.k (V.i 1439))]⟩,
     ⟨(some 22), none, .pick (.t 18) (.t 21) (.k (V.b false))⟩,
     ⟨(some 23), none, .mv (.t 22)⟩,
     ⟨(some 24), (some (23, true)), .fa 3 (.t 1)⟩,
     ⟨(some 25), (some (23, true)), .ld false 1 (.t 24)⟩,
     ⟨(some 26), (some (23, true)), .call 88 true [(.t 25), (.k (V.i 1)), (.k (V.i 4320))]⟩,
     ⟨(some 27), none, .pick (.t 23) (.t 26) (.k (V.b false))⟩,
     ⟨(some 28), none, .mv (.t 27)⟩,
     ⟨(some 29), (some (28, true)), .fa 4 (.t 1)⟩,
     ⟨(some 30), (some (28, true)), .ld false 1 (.t 29)⟩,
     ⟨(some 31), (some (28, true)), .call 88 true [(.t 30), (.k (V.i 1)), (.k (V.i 127))]⟩,
     ⟨(some 32), none, .pick (.t 28) (.t 31) (.k (V.b false))⟩,
     ⟨(some 33), none, .mv (.t 32)⟩,
     ⟨(some 34), (some (33, true)), .fa 5 (.t 1)⟩,
     ⟨(some 35), (some (33, true)), .ld false 1 (.t 34)⟩,
     ⟨(some 36), (some (33, true)), .call 88 true [(.t 35), (.k (V.i 0)), (.k (V.i 1000000))]⟩,
     ⟨(some 37), none, .pick (.t 33) (.t 36) (.k (V.b false))⟩,
     ⟨(some 2), none, .mv (.t 37)⟩] [2])
  (.ret))
def rv128 : List RV := [.t 2]
open Go.Proofs Go.IntWalk
set_option linter.unusedVariables false
set_option maxRecDepth 100000
set_option maxHeartbeats 4000000
def I_IsLeg (g : G) (t : TE) (a0 : Leg) : Option Bool :=
  cl (I_IsPlace g t a0.From) fun x1 =>
  br x1
  (
   cl (I_IsPlace g t a0.To) fun x2 =>
   br x2
   (
    br (g.seq a0.From a0.To)
    (
     some false)
    (
     lP (I_within g t a0.Start 0 1439) fun x3 =>
     br x3
     (
      lP (I_within g t a0.Takes 1 4320) fun x4 =>
      br x4
      (
       lP (I_within g t a0.Days 1 127) fun x5 =>
       br x5
       (
        lP (I_within g t a0.Room 0 1000000) fun x6 =>
        some x6)
       (
        some false))
      (
       some false))
     (
      some false)))
   (
    some false))
  (
   some false)
theorem fit128 : codeFit Try.prog Try.f128.ntmps (Try.f128.body.getD .skip) ir128 = true := by kernel_rfl
theorem c_I_IsLeg {g : G} {t : TE} {a0 : Leg} {r : Bool} (hg : g = G.real) (ht : t = TE.real) (h : I_IsLeg g t a0 = some r) : Fn Try.prog 128 [.g (Leg.rs t a0)] (.c (.r (.v (.bool r)))) := by
  obtain ⟨X, hX⟩ := hide (.c (.r (.v (.bool r))) : X)
  rw [← hX]
  refine fn_of (rvs := rv128) (j := ir128) Try.func128 rfl fit128 (Nat.le_of_ble_eq_true rfl) (by kernel_rfl) prog_mixed ?_
  intro g2 F hg2 hF
  obtain rfl : g2 = g := hg2.unique.trans hg.symm
  clear hg2
  obtain ⟨wrap, lt, le, eq, quo, rem, band, bor, bxor, shl, shr, nat, int, add, sub, mul, cat, seq, slt, sub3, byte, llen, nadd, nsub, dlen, dapp, dset, drep, rd, rda, up, rsub, dsub, all, sle, slen⟩ := g2
  obtain ⟨r_S, d_S, r_Trip, d_Trip, r_Leg, d_Leg, r_I64, d_I64, r_Order, d_Order, r_Booking, d_Booking, r_Scan, d_Scan, r_U8, d_U8, r_LI64, d_LI64⟩ := t
  obtain ⟨a0_From, a0_To, a0_Start, a0_Takes, a0_Days, a0_Room⟩ := a0
  unfold I_IsLeg at h
  try dsimp only at h
  cbv
  obtain ⟨x1, hx1, h⟩ := of_cl h
  try dsimp only at h
  refine ACall.mk _ _ rfl (hF _ _ _ (c_I_IsPlace hg ht hx1)) (.inl rfl) (Nat.le_of_ble_eq_true rfl) ?_
  cbv
  cases hb1 : x1 with
  | true =>
    rw [br_true hb1] at h
    cbv
    try (rw [hb1]; cbv)
    try (rw [hb1]; cbv)
    obtain ⟨x2, hx2, h⟩ := of_cl h
    try dsimp only at h
    refine ACall.mk _ _ rfl (hF _ _ _ (c_I_IsPlace hg ht hx2)) (.inl rfl) (Nat.le_of_ble_eq_true rfl) ?_
    cbv
    try (rw [hb1]; cbv)
    cases hb2 : x2 with
    | true =>
      rw [br_true hb2] at h
      cbv
      try (rw [hb2]; cbv)
      try (rw [hb2]; cbv)
      try (rw [hb2]; cbv)
      try (rw [hb2]; cbv)
      try (rw [hb2]; cbv)
      cases hb3 : (seq a0_From a0_To) with
      | true =>
        rw [br_true hb3] at h
        cbv
        try (rw [hb3]; cbv)
        try (rw [hb3]; cbv)
        try (rw [hb3]; cbv)
        obtain rfl := Option.some.inj h
        exact ARet.mk trivial hX.symm
      | false =>
        rw [br_false hb3] at h
        cbv
        try (rw [hb3]; cbv)
        try (rw [hb3]; cbv)
        obtain ⟨x3, hx3, h⟩ := of_lP h
        try dsimp only at h
        refine ACall.mk _ _ rfl (hF _ _ _ (c_I_within hg ht hx3)) (.inl rfl) (Nat.le_of_ble_eq_true rfl) ?_
        cbv
        try (rw [hb3]; cbv)
        cases hb4 : x3 with
        | true =>
          rw [br_true hb4] at h
          cbv
          try (rw [hb4]; cbv)
          try (rw [hb4]; cbv)
          obtain ⟨x4, hx4, h⟩ := of_lP h
          try dsimp only at h
          refine ACall.mk _ _ rfl (hF _ _ _ (c_I_within hg ht hx4)) (.inl rfl) (Nat.le_of_ble_eq_true rfl) ?_
          cbv
          try (rw [hb4]; cbv)
          cases hb5 : x4 with
          | true =>
            rw [br_true hb5] at h
            cbv
            try (rw [hb5]; cbv)
            try (rw [hb5]; cbv)
            obtain ⟨x5, hx5, h⟩ := of_lP h
            try dsimp only at h
            refine ACall.mk _ _ rfl (hF _ _ _ (c_I_within hg ht hx5)) (.inl rfl) (Nat.le_of_ble_eq_true rfl) ?_
            cbv
            try (rw [hb5]; cbv)
            cases hb6 : x5 with
            | true =>
              rw [br_true hb6] at h
              cbv
              try (rw [hb6]; cbv)
              try (rw [hb6]; cbv)
              obtain ⟨x6, hx6, h⟩ := of_lP h
              try dsimp only at h
              refine ACall.mk _ _ rfl (hF _ _ _ (c_I_within hg ht hx6)) (.inl rfl) (Nat.le_of_ble_eq_true rfl) ?_
              cbv
              try (rw [hb6]; cbv)
              obtain rfl := Option.some.inj h
              exact ARet.mk trivial hX.symm
            | false =>
              rw [br_false hb6] at h
              cbv
              try (rw [hb6]; cbv)
              try (rw [hb6]; cbv)
              try (rw [hb6]; cbv)
              obtain rfl := Option.some.inj h
              exact ARet.mk trivial hX.symm
          | false =>
            rw [br_false hb5] at h
            cbv
            try (rw [hb5]; cbv)
            try (rw [hb5]; cbv)
            try (rw [hb5]; cbv)
            obtain rfl := Option.some.inj h
            exact ARet.mk trivial hX.symm
        | false =>
          rw [br_false hb4] at h
          cbv
          try (rw [hb4]; cbv)
          try (rw [hb4]; cbv)
          try (rw [hb4]; cbv)
          obtain rfl := Option.some.inj h
          exact ARet.mk trivial hX.symm
    | false =>
      rw [br_false hb2] at h
      cbv
      try (rw [hb2]; cbv)
      try (rw [hb2]; cbv)
      try (rw [hb2]; cbv)
      try (rw [hb2]; cbv)
      try (rw [hb2]; cbv)
      obtain rfl := Option.some.inj h
      exact ARet.mk trivial hX.symm
  | false =>
    rw [br_false hb1] at h
    cbv
    try (rw [hb1]; cbv)
    try (rw [hb1]; cbv)
    try (rw [hb1]; cbv)
    obtain rfl := Option.some.inj h
    exact ARet.mk trivial hX.symm
end Go.Vs
namespace Go.Vs
set_option maxRecDepth 100000
def ir145 : J :=
  .seq (.reg none [⟨(some 3), none, .box (.t 0)⟩,
     ⟨(some 6), none, .mv (.k (V.b false))⟩] [1, 2, 3])
  (.seq (.seq (.reg none [⟨(some 9), none, .mv (.t 1)⟩,
      ⟨(some 10), none, .bin .lss .i (.t 9) (.k (V.i 0))⟩,
      ⟨(some 11), none, .mv (.t 10)⟩,
      ⟨(some 12), (some (11, false)), .mv (.t 1)⟩,
      ⟨(some 13), (some (11, false)), .fa 0 (.t 3)⟩,
      ⟨(some 14), (some (11, false)), .ld false 1 (.t 13)⟩,
      ⟨(some 15), (some (11, false)), .len false (.t 14)⟩,
      ⟨(some 16), (some (11, false)), .bin .geq .i (.t 12) (.t 15)⟩,
      ⟨(some 17), none, .pick (.t 11) (.k (V.b true)) (.t 16)⟩,
      ⟨(some 18), none, .mv (.t 17)⟩,
      ⟨(some 19), (some (18, false)), .mv (.t 2)⟩,
      ⟨(some 20), (some (18, false)), .call 88 true [(.t 19), (.k (V.i 0)), (.k (V.i 60))]⟩,
      ⟨(some 21), (some (18, false)), .not (.t 20)⟩,
      ⟨(some 22), none, .pick (.t 18) (.k (V.b true)) (.t 21)⟩,
      ⟨(some 23), none, .mv (.t 22)⟩,
      ⟨(some 24), (some (23, false)), .fa 0 (.t 3)⟩,
      ⟨(some 25), (some (23, false)), .ld false 1 (.t 24)⟩,
      ⟨(some 26), (some (23, false)), .mv (.t 1)⟩,
      ⟨(some 27), (some (23, false)), .ia 6 (.t 25) (.t 26)⟩,
      ⟨(some 28), (some (23, false)), .fa 4 (.t 27)⟩,
      ⟨(some 29), (some (23, false)), .ld false 1 (.t 28)⟩,
      ⟨(some 30), (some (23, false)), .mv (.t 2)⟩,
      ⟨(some 31), (some (23, false)), .bin .rem .i (.t 30) (.k (V.i 7))⟩,
      ⟨(some 32), (some (23, false)), .bin .shr .i (.t 29) (.t 31)⟩,
      ⟨(some 33), (some (23, false)), .bin .and .i (.t 32) (.k (V.i 1))⟩,
      ⟨(some 34), (some (23, false)), .bin .eql .i (.t 33) (.k (V.i 0))⟩,
      ⟨(some 35), none, .pick (.t 23) (.k (V.b true)) (.t 34)⟩] [2, 3, 35])
   (.cond (.t 35)
    (.seq (.reg none [⟨(some 6), none, .mv (.k (V.b false))⟩] [6])
     (.ret))
    (.skip)))
  (.seq (.seq (.reg none [⟨(some 36), none, .fa 1 (.t 3)⟩,
      ⟨(some 37), none, .ld false 1 (.t 36)⟩,
      ⟨(some 38), none, .len false (.t 37)⟩,
      ⟨(some 39), none, .mv (.k (V.i 0))⟩] [2, 37, 38, 39])
   (.bl 0 (.seq (.reg none [⟨(some 40), none, .bin .lss .i (.t 39) (.t 38)⟩] [2, 37, 38, 39, 40])
    (.seq (.cond (.t 40)
      (.skip)
      (.exit 0))
    (.seq (.block 1 (.seq (.reg none [⟨(some 41), none, .ia 1 (.t 37) (.t 39)⟩,
         ⟨(some 42), none, .ld false 1 (.t 41)⟩,
         ⟨(some 8), none, .mv (.t 42)⟩] [2, 8, 37, 38, 39])
      (.seq (.reg none [⟨(some 43), none, .mv (.t 8)⟩,
         ⟨(some 44), none, .mv (.t 2)⟩,
         ⟨(some 45), none, .bin .eql .i (.t 43) (.t 44)⟩] [2, 37, 38, 39, 45])
      (.cond (.t 45)
       (.seq (.reg none [⟨(some 6), none, .mv (.k (V.b false))⟩] [6])
        (.ret))
       (.skip)))))
    (.reg none [⟨(some 46), none, .bin .add .i (.t 39) (.k (V.i 1))⟩,
      ⟨(some 39), none, .mv (.t 46)⟩] [2, 37, 38, 39]))))))
  (.seq (.reg none [⟨(some 6), none, .mv (.k (V.b true))⟩] [6])
  (.ret))))
def rv145 : List RV := [.t 6]
open Go.Proofs Go.IntWalk
set_option linter.unusedVariables false
set_option maxRecDepth 100000
set_option maxHeartbeats 4000000
def I_runs_l1 (g : G) (t : TE) (a2 : Int) : List Int → LR Bool Unit
  | [] =>
    (LR.out ())
  | z1 :: ls1 =>
    br (g.eq z1 a2)
    (
     (LR.ret false))
    (
     I_runs_l1 g t a2 ls1)
def I_runs (g : G) (t : TE) (a0 : Network) (a1 : Int) (a2 : Int) : Option Bool :=
  br (g.lt a1 0)
  (
   some false)
  (
   br (g.le (g.llen (t.r_Leg a0.Legs)) a1)
   (
    some false)
   (
    lP (I_within g t a2 0 60) fun x1 =>
    br x1
    (
     gd ((0 ≤ a1)) <|
     gt a0.Legs (g.nat a1) fun x2 =>
     gd ((0 ≤ (g.rem a2 7))) <|
     br (g.eq (g.band .i64 (g.shr .i64 x2.Days (g.rem a2 7)) 1) 0)
     (
      some false)
     (
      lP (I_runs_l1 g t a2 a0.Off) fun o1 => lr o1 fun y1 =>
      some true))
    (
     some false)))
theorem fit145 : codeFit Try.prog Try.f145.ntmps (Try.f145.body.getD .skip) ir145 = true := by kernel_rfl
theorem c_I_runs {g : G} {t : TE} {a0 : Network} {a1 : Int} {a2 : Int} {r : Bool} (hg : g = G.real) (ht : t = TE.real) (h : I_runs g t a0 a1 a2 = some r) : Fn Try.prog 145 [.g (Network.rs t a0), .c (.v (.int .i64 a1)), .c (.v (.int .i64 a2))] (.c (.r (.v (.bool r)))) := by
  obtain ⟨X, hX⟩ := hide (.c (.r (.v (.bool r))) : X)
  rw [← hX]
  refine fn_of (rvs := rv145) (j := ir145) Try.func145 rfl fit145 (Nat.le_of_ble_eq_true rfl) (by kernel_rfl) prog_mixed ?_
  intro g2 F hg2 hF
  obtain rfl : g2 = g := hg2.unique.trans hg.symm
  clear hg2
  obtain ⟨wrap, lt, le, eq, quo, rem, band, bor, bxor, shl, shr, nat, int, add, sub, mul, cat, seq, slt, sub3, byte, llen, nadd, nsub, dlen, dapp, dset, drep, rd, rda, up, rsub, dsub, all, sle, slen⟩ := g2
  obtain ⟨r_S, d_S, r_Trip, d_Trip, r_Leg, d_Leg, r_I64, d_I64, r_Order, d_Order, r_Booking, d_Booking, r_Scan, d_Scan, r_U8, d_U8, r_LI64, d_LI64⟩ := t
  obtain ⟨a0_Legs, a0_Off, a0_Change⟩ := a0
  unfold I_runs at h
  try dsimp only at h
  cbv
  cases hb1 : (lt a1 0) with
  | true =>
    rw [br_true hb1] at h
    cbv
    try (rw [hb1]; cbv)
    try (rw [hb1]; cbv)
    try (rw [hb1]; cbv)
    try (rw [hb1]; cbv)
    try (rw [hb1]; cbv)
    obtain rfl := Option.some.inj h
    exact ARet.mk trivial hX.symm
  | false =>
    rw [br_false hb1] at h
    cbv
    try (rw [hb1]; cbv)
    try (rw [hb1]; cbv)
    try (rw [hb1]; cbv)
    try (rw [hb1]; cbv)
    try (rw [hb1]; cbv)
    cases hb2 : (le (llen (r_Leg a0_Legs)) a1) with
    | true =>
      rw [br_true hb2] at h
      cbv
      try (rw [hb2]; cbv)
      try (rw [hb2]; cbv)
      try (rw [hb2]; cbv)
      obtain rfl := Option.some.inj h
      exact ARet.mk trivial hX.symm
    | false =>
      rw [br_false hb2] at h
      cbv
      try (rw [hb2]; cbv)
      obtain ⟨x1, hx1, h⟩ := of_lP h
      try dsimp only at h
      refine ACall.mk _ _ rfl (hF _ _ _ (c_I_within hg ht hx1)) (.inl rfl) (Nat.le_of_ble_eq_true rfl) ?_
      cbv
      try (rw [hb2]; cbv)
      try (rw [hb2]; cbv)
      cases hb3 : x1 with
      | true =>
        rw [br_true hb3] at h
        cbv
        try (rw [hb3]; cbv)
        try (rw [hb3]; cbv)
        try (rw [hb3]; cbv)
        obtain ⟨hc1, h⟩ := of_gd h
        refine AStep.mk hc1 ?_
        cbv
        obtain ⟨x2, hx2, h⟩ := of_gt h
        obtain ⟨x2_From, x2_To, x2_Start, x2_Takes, x2_Days, x2_Room⟩ := x2
        try dsimp only at h
        refine AGet.mk _ (r_get_Leg hg ht hx2) ?_
        cbv
        try (rw [hb3]; cbv)
        try (rw [hb3]; cbv)
        try (rw [hb3]; cbv)
        try (rw [hb3]; cbv)
        refine AStep.mk (by decide) ?_
        cbv
        try (rw [hb3]; cbv)
        obtain ⟨hc2, h⟩ := of_gd h
        refine AStep.mk hc2 ?_
        cbv
        try (rw [hb3]; cbv)
        try (rw [hb3]; cbv)
        try (rw [hb3]; cbv)
        cases hb4 : (eq (band .i64 (shr .i64 x2_Days (rem a2 7)) 1) 0) with
        | true =>
          rw [br_true hb4] at h
          cbv
          obtain rfl := Option.some.inj h
          exact ARet.mk trivial hX.symm
        | false =>
          rw [br_false hb4] at h
          cbv
          obtain ⟨o1, ho1, h⟩ := of_lP h
          try dsimp only at h
          try rw [hg] at ho1
          try rw [ht] at ho1
          refine ABL.mk { p : Nat × Int // p.1 ≤ a0_Off.length ∧ p.2 = ((p.1 : Nat) : Int) ∧ I_runs_l1 G.real TE.real a2 (List.drop p.1 a0_Off) = o1 } (fun ⟨⟨k1, v1⟩, _⟩ => ({ sl := [(2, .c (.r (.v (.int .i64 a2)))), (37, .c (.r (.s 1 (r_I64 a0_Off)))), (38, .c (.r (.v (.int .i64 (llen (r_I64 a0_Off)))))), (39, .c (.r (.v (.int .i64 v1))))], tab := [] } : St)) 0 (fun p => a0_Off.length - p.1.1) ⟨(0, 0), Nat.zero_le _, rfl, ho1⟩ (Unit) (fun _ => ({ sl := [], tab := [] } : St)) 0 (fun y => o1 = LR.out y) ?_ ?_ ?_
          · refine Wk.of [] rfl rfl ?_ ?_
            · cbv
              all_goals exact ⟨⟨_, rfl, rfl⟩, ⟨_, rfl, rfl⟩, ⟨_, rfl, rfl⟩, ⟨_, rfl, rfl⟩, trivial⟩
            · cbv
              all_goals exact trivial
          · rintro ⟨⟨k1, v1⟩, hk1, hi1, h_1⟩ hq1
            have hm1 := (hq1.1 37 _ _ rfl)
            try dsimp only at hk1 hi1 h_1
            clear hq1
            cbv
            by_cases hc1_ : k1 < a0_Off.length
            · have hb5 : lt v1 (llen (r_I64 a0_Off)) = true := ltL_true_I64 hg ht hi1 hc1_
              have hs1 := stepL_I64 hg ht hi1 hc1_ hm1
              obtain ⟨z1, hz1⟩ := some_of_lt hc1_
              rw [drop_of_some hz1] at h_1
              rw [I_runs_l1] at h_1
              try rw [← hg] at h_1
              try rw [← ht] at h_1
              try dsimp only at h_1
              rw [hb5]
              cbv
              refine AStep.mk (nn_L hi1) ?_
              cbv
              refine AGet.mk _ (r_getL_I64 hg ht hi1 hz1) ?_
              cbv
              cases hb6 : (eq z1 a2) with
              | true =>
                rw [br_true hb6] at h_1
                cbv
                subst h_1
                try dsimp only [lr, lrL, lrp, lrpL] at h
                obtain rfl := Option.some.inj h
                exact ARet.mk trivial hX.symm
              | false =>
                rw [br_false hb6] at h_1
                cbv
                try rw [hg] at h_1
                try rw [ht] at h_1
                refine ⟨⟨(k1 + 1, (wrap .i64 (add v1 1))), hc1_, hs1, h_1⟩, Wk.of [] rfl rfl ?_ ?_, meas_L hc1_⟩
                · cbv
                  all_goals exact ⟨⟨_, rfl, rfl⟩, ⟨_, rfl, rfl⟩, ⟨_, rfl, rfl⟩, ⟨_, rfl, rfl⟩, trivial⟩
                · cbv
                  all_goals exact trivial
            · have hb5 : lt v1 (llen (r_I64 a0_Off)) = false := ltL_false_I64 hg ht hi1 hc1_
              rw [List.drop_of_length_le (Nat.le_of_not_lt hc1_)] at h_1
              rw [I_runs_l1] at h_1
              try rw [← hg] at h_1
              try rw [← ht] at h_1
              try dsimp only at h_1
              rw [hb5]
              cbv
              refine ⟨(), Wk.of [] rfl rfl ?_ ?_, h_1.symm⟩
              · cbv
                all_goals exact trivial
              · cbv
                all_goals exact trivial
          · rintro _ hy1
            replace hy1 := hy1.symm
            subst hy1
            try dsimp only [lr, lrL, lrp, lrpL] at h
            cbv
            obtain rfl := Option.some.inj h
            exact ARet.mk trivial hX.symm
      | false =>
        rw [br_false hb3] at h
        cbv
        try (rw [hb3]; cbv)
        try (rw [hb3]; cbv)
        try (rw [hb3]; cbv)
        try (rw [hb3]; cbv)
        try (rw [hb3]; cbv)
        try (rw [hb3]; cbv)
        try (rw [hb3]; cbv)
        try (rw [hb3]; cbv)
        try (rw [hb3]; cbv)
        try (rw [hb3]; cbv)
        try (rw [hb3]; cbv)
        obtain rfl := Option.some.inj h
        exact ARet.mk trivial hX.symm
end Go.Vs
namespace Go.Vs
set_option maxRecDepth 100000
def ir93 : J :=
  .seq (.reg none [⟨(some 2), none, .box (.t 0)⟩,
     ⟨(some 3), none, .box (.t 1)⟩,
     ⟨(some 4), none, .mv (.k (V.i 0))⟩] [2, 3])
  (.seq (.reg (some [[], [], [0, 1], [], [3], [], [5], [3, 4, 5, 6], [3, 4, 5, 6, 7], [3, 4, 5, 6, 7, 8], [0, 1, 2, 3, 4, 5, 6, 7, 8, 9], [0, 1, 2, 3, 4, 5, 6, 7, 8, 9, 10]]) [⟨(some 5), none, .ld true 3 (.t 2)⟩,
     ⟨(some 6), none, .ld true 2 (.t 3)⟩,
     ⟨(some 7), none, .call 92 true [(.t 5), (.t 6)]⟩,
     ⟨(some 8), none, .fa 0 (.t 2)⟩,
     ⟨(some 9), none, .ld false 1 (.t 8)⟩,
     ⟨(some 10), none, .fa 0 (.t 3)⟩,
     ⟨(some 11), none, .ld false 1 (.t 10)⟩,
     ⟨(some 12), none, .ia 6 (.t 9) (.t 11)⟩,
     ⟨(some 13), none, .fa 3 (.t 12)⟩,
     ⟨(some 14), none, .ld false 1 (.t 13)⟩,
     ⟨(some 15), none, .bin .add .i (.t 7) (.t 14)⟩,
     ⟨(some 4), none, .mv (.t 15)⟩] [4])
  (.ret))
def rv93 : List RV := [.t 4]
open Go.Proofs Go.IntWalk
set_option linter.unusedVariables false
set_option maxRecDepth 100000
set_option maxHeartbeats 4000000
def I_ends (g : G) (t : TE) (a0 : Network) (a1 : Trip) : Option Int :=
  cl (I_starts g t a0 a1) fun x1 =>
  gd ((0 ≤ a1.Leg)) <|
  gt a0.Legs (g.nat a1.Leg) fun x2 =>
  some (g.wrap .i64 (g.add x1 x2.Takes))
theorem fit93 : codeFit Try.prog Try.f93.ntmps (Try.f93.body.getD .skip) ir93 = true := by kernel_rfl
theorem c_I_ends {g : G} {t : TE} {a0 : Network} {a1 : Trip} {r : Int} (hg : g = G.real) (ht : t = TE.real) (h : I_ends g t a0 a1 = some r) : Fn Try.prog 93 [.g (Network.rs t a0), .g (Trip.rs t a1)] (.c (.r (.v (.int .i64 r)))) := by
  obtain ⟨X, hX⟩ := hide (.c (.r (.v (.int .i64 r))) : X)
  rw [← hX]
  refine fn_of (rvs := rv93) (j := ir93) Try.func93 rfl fit93 (Nat.le_of_ble_eq_true rfl) (by kernel_rfl) prog_mixed ?_
  intro g2 F hg2 hF
  obtain rfl : g2 = g := hg2.unique.trans hg.symm
  clear hg2
  obtain ⟨wrap, lt, le, eq, quo, rem, band, bor, bxor, shl, shr, nat, int, add, sub, mul, cat, seq, slt, sub3, byte, llen, nadd, nsub, dlen, dapp, dset, drep, rd, rda, up, rsub, dsub, all, sle, slen⟩ := g2
  obtain ⟨r_S, d_S, r_Trip, d_Trip, r_Leg, d_Leg, r_I64, d_I64, r_Order, d_Order, r_Booking, d_Booking, r_Scan, d_Scan, r_U8, d_U8, r_LI64, d_LI64⟩ := t
  obtain ⟨a0_Legs, a0_Off, a0_Change⟩ := a0
  obtain ⟨a1_Leg, a1_Day⟩ := a1
  unfold I_ends at h
  try dsimp only at h
  cbv
  obtain ⟨x1, hx1, h⟩ := of_cl h
  try dsimp only at h
  refine ACall.mk _ _ rfl (hF _ _ _ (c_I_starts hg ht hx1)) (.inl rfl) (Nat.le_of_ble_eq_true rfl) ?_
  cbv
  obtain ⟨hc1, h⟩ := of_gd h
  refine AStep.mk hc1 ?_
  cbv
  obtain ⟨x2, hx2, h⟩ := of_gt h
  obtain ⟨x2_From, x2_To, x2_Start, x2_Takes, x2_Days, x2_Room⟩ := x2
  try dsimp only at h
  refine AGet.mk _ (r_get_Leg hg ht hx2) ?_
  cbv
  obtain rfl := Option.some.inj h
  exact ARet.mk trivial hX.symm
end Go.Vs
namespace Go.Vs
set_option maxRecDepth 100000
def ir98 : J :=
  .seq (.reg none [⟨(some 6), none, .mv (.k (.c (.n 1)))⟩] [0, 1, 2])
  (.seq (.reg none [⟨(some 9), none, .bsl 1 []⟩,
     ⟨(some 7), none, .mv (.t 9)⟩] [0, 1, 2, 7])
  (.seq (.seq (.reg none [⟨(some 8), none, .mv (.k (V.i 0))⟩] [0, 1, 2, 7, 8])
   (.bl 0 (.seq (.seq (.reg none [⟨(some 10), none, .mv (.t 8)⟩,
        ⟨(some 11), none, .mv (.t 0)⟩,
        ⟨(some 12), none, .len false (.t 11)⟩,
        ⟨(some 13), none, .bin .lss .i (.t 10) (.t 12)⟩] [0, 1, 2, 7, 8, 13])
     (.cond (.t 13)
      (.skip)
      (.exit 0)))
    (.seq (.block 1 (.seq (.reg none [⟨(some 16), none, .mv (.t 8)⟩,
         ⟨(some 17), none, .mv (.t 1)⟩,
         ⟨(some 18), none, .bin .eql .i (.t 16) (.t 17)⟩] [0, 1, 2, 7, 8, 18])
      (.cond (.t 18)
       (.reg none [⟨(some 19), none, .mv (.t 7)⟩,
          ⟨(some 20), none, .mv (.t 2)⟩,
          ⟨(some 21), none, .call 137 true [(.t 20), (.k (V.i 0))]⟩,
          ⟨(some 22), none, .bsl 1 [(.t 21)]⟩,
          ⟨(some 23), none, .app 1 8 true (.t 19) (.t 22)⟩,
          ⟨(some 7), none, .mv (.t 23)⟩] [0, 1, 2, 7, 8])
       (.reg none [⟨(some 24), none, .mv (.t 7)⟩,
          ⟨(some 25), none, .bsl 1 [(.k (V.i (-1)))]⟩,
          ⟨(some 26), none, .app 1 8 true (.t 24) (.t 25)⟩,
          ⟨(some 7), none, .mv (.t 26)⟩] [0, 1, 2, 7, 8]))))
    (.reg none [⟨(some 14), none, .mv (.t 8)⟩,
      ⟨(some 15), none, .bin .add .i (.t 14) (.k (V.i 1))⟩,
      ⟨(some 8), none, .mv (.t 15)⟩] [0, 1, 2, 7, 8])))))
  (.seq (.reg none [⟨(some 27), none, .mv (.t 7)⟩,
     ⟨(some 6), none, .mv (.t 27)⟩] [6])
  (.ret))))
def rv98 : List RV := [.t 6]
open Go.Proofs Go.IntWalk
set_option linter.unusedVariables false
set_option maxRecDepth 100000
set_option maxHeartbeats 4000000
def S_l4First_l1 (g : G) (t : TE) (a1 : Int) (a2 : Int) : List ByteArray → Int → List Int → Option (List Int)
  | [], v1, w1 =>
    some w1
  | z1 :: ls1, v1, w1 =>
    br (g.eq v1 a1)
    (
     lP (S_Max g t a2 0) fun x1 =>
     lP ([x1]) fun (l2 : List Int) =>
     gd (((w1.length + l2.length) * 8 ≤ 70368744177664)) <|
     lP (w1 ++ l2) fun (l3 : List Int) =>
     S_l4First_l1 g t a1 a2 ls1 (g.wrap .i64 (g.add v1 1)) l3)
    (
     lP ([(-1)]) fun (l4 : List Int) =>
     gd (((w1.length + l4.length) * 8 ≤ 70368744177664)) <|
     lP (w1 ++ l4) fun (l5 : List Int) =>
     S_l4First_l1 g t a1 a2 ls1 (g.wrap .i64 (g.add v1 1)) l5)
def S_l4First (g : G) (t : TE) (a0 : List ByteArray) (a1 : Int) (a2 : Int) : Option (List Int) :=
  lP ([]) fun (l1 : List Int) =>
  cl (S_l4First_l1 g t a1 a2 a0 0 l1) fun y1 =>
  some y1
theorem fit98 : codeFit Try.prog Try.f98.ntmps (Try.f98.body.getD .skip) ir98 = true := by kernel_rfl
theorem c_S_l4First {g : G} {t : TE} {a0 : List ByteArray} {a1 : Int} {a2 : Int} {r : List Int} (hg : g = G.real) (ht : t = TE.real) (h : S_l4First g t a0 a1 a2 = some r) : Fn Try.prog 98 [.c (.s 1 (t.r_S a0)), .c (.v (.int .i64 a1)), .c (.v (.int .i64 a2))] (.c (.o 1 (t.d_I64 r))) := by
  obtain ⟨X, hX⟩ := hide (.c (.o 1 (t.d_I64 r)) : X)
  rw [← hX]
  refine fn_of (rvs := rv98) (j := ir98) Try.func98 rfl fit98 (Nat.le_of_ble_eq_true rfl) (by kernel_rfl) prog_mixed ?_
  intro g2 F hg2 hF
  obtain rfl : g2 = g := hg2.unique.trans hg.symm
  clear hg2
  obtain ⟨wrap, lt, le, eq, quo, rem, band, bor, bxor, shl, shr, nat, int, add, sub, mul, cat, seq, slt, sub3, byte, llen, nadd, nsub, dlen, dapp, dset, drep, rd, rda, up, rsub, dsub, all, sle, slen⟩ := g2
  obtain ⟨r_S, d_S, r_Trip, d_Trip, r_Leg, d_Leg, r_I64, d_I64, r_Order, d_Order, r_Booking, d_Booking, r_Scan, d_Scan, r_U8, d_U8, r_LI64, d_LI64⟩ := t
  unfold S_l4First at h
  try dsimp only at h
  cbv
  obtain ⟨l1, hl1, h⟩ := of_lP h
  try dsimp only at h
  refine ANew.mk (d_I64 l1) (dlen (d_I64 l1)) (by rw [← hl1]; exact lit_I64 hg ht []) (by rw [← hl1]; exact litn_I64 hg ht []) ?_
  cbv
  obtain ⟨o1, ho1, h⟩ := of_cl h
  try dsimp only at h
  try rw [hg] at ho1
  try rw [ht] at ho1
  refine ABL.mk { p : Nat × Int × List Int // p.1 ≤ a0.length ∧ p.2.1 = ((p.1 : Nat) : Int) ∧ S_l4First_l1 G.real TE.real a1 a2 (List.drop p.1 a0) p.2.1 p.2.2 = some o1 } (fun ⟨⟨k1, v1, w1⟩, _⟩ => ({ sl := [(0, .c (.r (.s 1 (r_S a0)))), (1, .c (.r (.v (.int .i64 a1)))), (2, .c (.r (.v (.int .i64 a2)))), (7, .c (.f 0 1 0 (dlen (d_I64 w1)))), (8, .c (.r (.v (.int .i64 v1))))], tab := [(0, some (.arr 1 (d_I64 w1)))] } : St)) 1 (fun p => a0.length - p.1.1) ⟨(0, 0, l1), Nat.zero_le _, rfl, ho1⟩ (List Int) (fun y1 => ({ sl := [(7, .c (.f 0 1 0 (dlen (d_I64 y1))))], tab := [(0, some (.arr 1 (d_I64 y1)))] } : St)) 1 (fun y => o1 = y) ?_ ?_ ?_
  · refine Wk.of [(0, some 16)] rfl rfl ?_ ?_
    · cbv
      all_goals exact ⟨⟨_, rfl, rfl⟩, ⟨_, rfl, rfl⟩, ⟨_, rfl, rfl⟩, ⟨_, rfl, rfl⟩, ⟨_, rfl, rfl⟩, trivial⟩
    · cbv
      all_goals exact ⟨⟨_, rfl, rfl⟩, trivial⟩
  · rintro ⟨⟨k1, v1, w1⟩, hk1, hi1, h_1⟩ hq1
    have hm1 := (hq1.1 0 _ _ rfl)
    try dsimp only at hk1 hi1 h_1
    clear hq1
    cbv
    by_cases hc1_ : k1 < a0.length
    · have hb1 : lt v1 (llen (r_S a0)) = true := ltL_true_S hg ht hi1 hc1_
      have hs1 := stepL_S hg ht hi1 hc1_ hm1
      obtain ⟨z1, hz1⟩ := some_of_lt hc1_
      rw [drop_of_some hz1] at h_1
      rw [S_l4First_l1] at h_1
      try rw [← hg] at h_1
      try rw [← ht] at h_1
      try dsimp only at h_1
      rw [hb1]
      cbv
      cases hb2 : (eq v1 a1) with
      | true =>
        rw [br_true hb2] at h_1
        cbv
        obtain ⟨x1, hx1, h_1⟩ := of_lP h_1
        try dsimp only at h_1
        refine ACall.mk _ _ rfl (hF _ _ _ (c_S_Max hg ht hx1)) (.inl rfl) (Nat.le_of_ble_eq_true rfl) ?_
        cbv
        obtain ⟨l2, hl2, h_1⟩ := of_lP h_1
        try dsimp only at h_1
        refine ANew.mk (d_I64 l2) (dlen (d_I64 l2)) (by rw [← hl2]; exact lit_I64 hg ht [x1]) (by rw [← hl2]; exact litn_I64 hg ht [x1]) ?_
        cbv
        obtain ⟨hc1, h_1⟩ := of_gd h_1
        refine AStep.mk ⟨⟨rfl, (dlen_I64 hg ht _)⟩, (app_ok_I64 hg ht (dlen_I64 hg ht _) rfl hc1)⟩ ?_
        cbv
        obtain ⟨l3, hl3, h_1⟩ := of_lP h_1
        try dsimp only at h_1
        refine ANew.mk (d_I64 l3) (dlen (d_I64 l3)) (by rw [← hl3]; exact app_I64 hg ht (dlen_I64 hg ht _) rfl) (by rw [← hl3]; exact appl_I64 hg ht (dlen_I64 hg ht _) rfl) ?_
        cbv
        try rw [hg] at h_1
        try rw [ht] at h_1
        refine ⟨⟨(k1 + 1, (wrap .i64 (add v1 1)), l3), hc1_, hs1, h_1⟩, Wk.of [(0, some 177)] rfl rfl ?_ ?_, meas_L hc1_⟩
        · cbv
          all_goals exact ⟨⟨_, rfl, rfl⟩, ⟨_, rfl, rfl⟩, ⟨_, rfl, rfl⟩, ⟨_, rfl, rfl⟩, ⟨_, rfl, rfl⟩, trivial⟩
        · cbv
          all_goals exact ⟨⟨_, rfl, rfl⟩, trivial⟩
      | false =>
        rw [br_false hb2] at h_1
        cbv
        obtain ⟨l4, hl4, h_1⟩ := of_lP h_1
        try dsimp only at h_1
        refine ANew.mk (d_I64 l4) (dlen (d_I64 l4)) (by rw [← hl4]; exact lit_I64 hg ht [(-1)]) (by rw [← hl4]; exact litn_I64 hg ht [(-1)]) ?_
        cbv
        obtain ⟨hc2, h_1⟩ := of_gd h_1
        refine AStep.mk ⟨⟨rfl, (dlen_I64 hg ht _)⟩, (app_ok_I64 hg ht (dlen_I64 hg ht _) rfl hc2)⟩ ?_
        cbv
        obtain ⟨l5, hl5, h_1⟩ := of_lP h_1
        try dsimp only at h_1
        refine ANew.mk (d_I64 l5) (dlen (d_I64 l5)) (by rw [← hl5]; exact app_I64 hg ht (dlen_I64 hg ht _) rfl) (by rw [← hl5]; exact appl_I64 hg ht (dlen_I64 hg ht _) rfl) ?_
        cbv
        try rw [hg] at h_1
        try rw [ht] at h_1
        refine ⟨⟨(k1 + 1, (wrap .i64 (add v1 1)), l5), hc1_, hs1, h_1⟩, Wk.of [(0, some 145)] rfl rfl ?_ ?_, meas_L hc1_⟩
        · cbv
          all_goals exact ⟨⟨_, rfl, rfl⟩, ⟨_, rfl, rfl⟩, ⟨_, rfl, rfl⟩, ⟨_, rfl, rfl⟩, ⟨_, rfl, rfl⟩, trivial⟩
        · cbv
          all_goals exact ⟨⟨_, rfl, rfl⟩, trivial⟩
    · have hb1 : lt v1 (llen (r_S a0)) = false := ltL_false_S hg ht hi1 hc1_
      rw [List.drop_of_length_le (Nat.le_of_not_lt hc1_)] at h_1
      rw [S_l4First_l1] at h_1
      try rw [← hg] at h_1
      try rw [← ht] at h_1
      try dsimp only at h_1
      rw [hb1]
      cbv
      refine ⟨w1, Wk.of [(0, some 0)] rfl rfl ?_ ?_, (Option.some.inj h_1).symm⟩
      · cbv
        all_goals exact ⟨⟨_, rfl, rfl⟩, trivial⟩
      · cbv
        all_goals exact ⟨⟨_, rfl, rfl⟩, trivial⟩
  · rintro y1 hy1
    replace hy1 := hy1.symm
    subst hy1
    try dsimp only [lr, lrL, lrp, lrpL] at h
    cbv
    obtain rfl := Option.some.inj h
    exact ARet.mk ⟨rfl, (dlen_I64 hg ht _)⟩ hX.symm
end Go.Vs
namespace Go.Vs
set_option maxRecDepth 100000
def ir141 : J :=
  .seq (.reg none [⟨(some 2), none, .box (.t 0)⟩,
     ⟨(some 3), none, .box (.t 1)⟩,
     ⟨(some 4), none, .mv (.k (V.i 0))⟩] [2, 3])
  (.seq (.reg (some [[], [0], [0, 1], [], [3], [3, 4], [0, 1, 2, 3, 4, 5], [], [7], [7, 8], [], [10], [10, 11], [0, 1, 2, 3, 4, 5, 6, 7, 8, 9, 10, 11, 12], [], [14], [], [16], [0, 1, 2, 3, 4, 5, 6, 7, 8, 9, 10, 11, 12, 13, 14, 15, 16, 17], [0, 1, 2, 3, 4, 5, 6, 7, 8, 9, 10, 11, 12, 13, 14, 15, 16, 17, 18], [0, 1, 2, 3, 4, 5, 6, 7, 8, 9, 10, 11, 12, 13, 14, 15, 16, 17, 18, 19], [0, 1, 2, 3, 4, 5, 6, 7, 8, 9, 10, 11, 12, 13, 14, 15, 16, 17, 18, 19, 20]]) [⟨(some 5), none, .fa 1 (.t 2)⟩,
     ⟨(some 6), none, .fa 1 (.t 5)⟩,
     ⟨(some 7), none, .ld false 1 (.t 6)⟩,
     ⟨(some 8), none, .fa 1 (.t 3)⟩,
     ⟨(some 9), none, .fa 1 (.t 8)⟩,
     ⟨(some 10), none, .ld false 1 (.t 9)⟩,
     ⟨(some 11), none, .call 65 true [(.t 7), (.t 10)]⟩,
     ⟨(some 12), none, .fa 1 (.t 2)⟩,
     ⟨(some 13), none, .fa 0 (.t 12)⟩,
     ⟨(some 14), none, .ld false 1 (.t 13)⟩,
     ⟨(some 15), none, .fa 1 (.t 3)⟩,
     ⟨(some 16), none, .fa 0 (.t 15)⟩,
     ⟨(some 17), none, .ld false 1 (.t 16)⟩,
     ⟨(some 18), none, .call 65 true [(.t 14), (.t 17)]⟩,
     ⟨(some 19), none, .fa 0 (.t 2)⟩,
     ⟨(some 20), none, .ld false 1 (.t 19)⟩,
     ⟨(some 21), none, .fa 0 (.t 3)⟩,
     ⟨(some 22), none, .ld false 1 (.t 21)⟩,
     ⟨(some 23), none, .call 65 true [(.t 20), (.t 22)]⟩,
     ⟨(some 24), none, .bsl 1 [(.t 11), (.t 18), (.t 23)]⟩,
     ⟨(some 25), none, .call 64 true [(.t 24)]⟩,
     ⟨(some 4), none, .mv (.t 25)⟩] [4])
  (.ret))
def rv141 : List RV := [.t 4]
open Go.Proofs Go.IntWalk
set_option linter.unusedVariables false
set_option maxRecDepth 100000
set_option maxHeartbeats 4000000
def I_compareBookings (g : G) (t : TE) (a0 : Booking) (a1 : Booking) : Int :=
  lP (I_compareInts g t a0.Trip.Day a1.Trip.Day) fun x1 =>
  lP (I_compareInts g t a0.Trip.Leg a1.Trip.Leg) fun x2 =>
  lP (I_compareInts g t a0.Thing a1.Thing) fun x3 =>
  lP ([x1, x2, x3]) fun (l1 : List Int) =>
  lP (I_first g t l1) fun x4 =>
  x4
theorem fit141 : codeFit Try.prog Try.f141.ntmps (Try.f141.body.getD .skip) ir141 = true := by kernel_rfl
theorem c_I_compareBookings {g : G} {t : TE} {a0 : Booking} {a1 : Booking} {r : Int} (hg : g = G.real) (ht : t = TE.real) (h : I_compareBookings g t a0 a1 = r) : Fn Try.prog 141 [.g (Booking.rs t a0), .g (Booking.rs t a1)] (.c (.r (.v (.int .i64 r)))) := by
  obtain ⟨X, hX⟩ := hide (.c (.r (.v (.int .i64 r))) : X)
  rw [← hX]
  refine fn_of (rvs := rv141) (j := ir141) Try.func141 rfl fit141 (Nat.le_of_ble_eq_true rfl) (by kernel_rfl) prog_mixed ?_
  intro g2 F hg2 hF
  obtain rfl : g2 = g := hg2.unique.trans hg.symm
  clear hg2
  obtain ⟨wrap, lt, le, eq, quo, rem, band, bor, bxor, shl, shr, nat, int, add, sub, mul, cat, seq, slt, sub3, byte, llen, nadd, nsub, dlen, dapp, dset, drep, rd, rda, up, rsub, dsub, all, sle, slen⟩ := g2
  obtain ⟨r_S, d_S, r_Trip, d_Trip, r_Leg, d_Leg, r_I64, d_I64, r_Order, d_Order, r_Booking, d_Booking, r_Scan, d_Scan, r_U8, d_U8, r_LI64, d_LI64⟩ := t
  obtain ⟨a0_Thing, ⟨a0_Trip_Leg, a0_Trip_Day⟩, a0_Weight⟩ := a0
  obtain ⟨a1_Thing, ⟨a1_Trip_Leg, a1_Trip_Day⟩, a1_Weight⟩ := a1
  unfold I_compareBookings at h
  try dsimp only at h
  cbv
  obtain ⟨x1, hx1, h⟩ := of_lP h
  try dsimp only at h
  refine ACall.mk _ _ rfl (hF _ _ _ (c_I_compareInts hg ht hx1)) (.inl rfl) (Nat.le_of_ble_eq_true rfl) ?_
  cbv
  obtain ⟨x2, hx2, h⟩ := of_lP h
  try dsimp only at h
  refine ACall.mk _ _ rfl (hF _ _ _ (c_I_compareInts hg ht hx2)) (.inl rfl) (Nat.le_of_ble_eq_true rfl) ?_
  cbv
  obtain ⟨x3, hx3, h⟩ := of_lP h
  try dsimp only at h
  refine ACall.mk _ _ rfl (hF _ _ _ (c_I_compareInts hg ht hx3)) (.inl rfl) (Nat.le_of_ble_eq_true rfl) ?_
  cbv
  obtain ⟨l1, hl1, h⟩ := of_lP h
  try dsimp only at h
  refine ANew.mk (d_I64 l1) (dlen (d_I64 l1)) (by rw [← hl1]; exact lit_I64 hg ht [x1, x2, x3]) (by rw [← hl1]; exact litn_I64 hg ht [x1, x2, x3]) ?_
  cbv
  refine AStep.mk (lend_I64 ht (dlen_I64 hg ht _)) ?_
  cbv
  obtain ⟨x4, hx4, h⟩ := of_lP h
  try dsimp only at h
  refine ACall.mk _ _ (by rw [show rd (d_I64 l1) 0 (dlen (d_I64 l1)) = r_I64 l1 from rdw_I64 hg ht (dlen_I64 hg ht _)]; try rfl) (hF _ _ _ (c_I_first hg ht hx4)) (.inr rfl) (Nat.le_of_ble_eq_true rfl) ?_
  cbv
  subst h
  exact ARet.mk trivial hX.symm
end Go.Vs
