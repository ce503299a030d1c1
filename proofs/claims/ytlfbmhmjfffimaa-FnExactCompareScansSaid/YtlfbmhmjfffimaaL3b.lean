/- Part of the proofs of this seat's laws: L3b. No condition. -/
import Derived.Test.YtlfbmhmjfffimaaTy
import Derived.Test.YtlfbmhmjfffimaaTIRall
import Derived.Test.YtlfbmhmjfffimaaL2b
import Derived.Test.YtlfbmhmjfffimaaL1c
set_option linter.unusedVariables false
set_option linter.unusedSimpArgs false
set_option linter.unusedSectionVars false
namespace Go.Vs
set_option maxRecDepth 100000
def ir77 : J :=
  .seq (.reg none [⟨(some 4), none, .mv (.k (V.b false))⟩] [0, 1])
  (.seq (.seq (.reg none [⟨(some 6), none, .mv (.t 0)⟩,
      ⟨(some 7), none, .len false (.t 6)⟩,
      ⟨(some 8), none, .mv (.t 1)⟩,
      ⟨(some 9), none, .len false (.t 8)⟩,
      ⟨(some 10), none, .bin .neq .i (.t 7) (.t 9)⟩] [0, 1, 10])
   (.cond (.t 10)
    (.seq (.reg none [⟨(some 4), none, .mv (.k (V.b false))⟩] [4])
     (.ret))
    (.skip)))
  (.seq (.seq (.reg none [⟨(some 5), none, .mv (.k (V.i 0))⟩] [0, 1, 5])
   (.bl 0 (.seq (.seq (.reg none [⟨(some 11), none, .mv (.t 5)⟩,
        ⟨(some 12), none, .mv (.t 0)⟩,
        ⟨(some 13), none, .len false (.t 12)⟩,
        ⟨(some 14), none, .bin .lss .i (.t 11) (.t 13)⟩] [0, 1, 5, 14])
     (.cond (.t 14)
      (.skip)
      (.exit 0)))
    (.seq (.block 1 (.seq (.reg (some [[], [], [0, 1], [0, 1, 2], [], [], [4, 5], [4, 5, 6], [0, 1, 2, 3, 4, 5, 6, 7], [0, 1, 2, 3, 4, 5, 6, 7, 8]]) [⟨(some 17), none, .mv (.t 0)⟩,
         ⟨(some 18), none, .mv (.t 5)⟩,
         ⟨(some 19), none, .ia 6 (.t 17) (.t 18)⟩,
         ⟨(some 20), none, .ld true 6 (.t 19)⟩,
         ⟨(some 21), none, .mv (.t 1)⟩,
         ⟨(some 22), none, .mv (.t 5)⟩,
         ⟨(some 23), none, .ia 6 (.t 21) (.t 22)⟩,
         ⟨(some 24), none, .ld true 6 (.t 23)⟩,
         ⟨(some 25), none, .call 123 true [(.t 20), (.t 24)]⟩,
         ⟨(some 26), none, .not (.t 25)⟩] [0, 1, 5, 26])
      (.cond (.t 26)
       (.seq (.reg none [⟨(some 4), none, .mv (.k (V.b false))⟩] [4])
        (.ret))
       (.skip))))
    (.reg none [⟨(some 15), none, .mv (.t 5)⟩,
      ⟨(some 16), none, .bin .add .i (.t 15) (.k (V.i 1))⟩,
      ⟨(some 5), none, .mv (.t 16)⟩] [0, 1, 5])))))
  (.seq (.reg none [⟨(some 4), none, .mv (.k (V.b true))⟩] [4])
  (.ret))))
def rv77 : List RV := [.t 4]
open Go.Proofs Go.IntWalk
set_option linter.unusedVariables false
set_option maxRecDepth 100000
set_option maxHeartbeats 4000000
def L_eqScanS_l1 (g : G) (t : TE) (a1 : List Scan) : List Scan → Int → Option (LR Bool Unit)
  | [], v1 =>
    some (LR.out ())
  | z1 :: ls1, v1 =>
    gt a1 (g.nat v1) fun x1 =>
    lP (L_eqScan g t (Scan.mk z1.Thing z1.At z1.Kind z1.Place (Trip.mk z1.Trip.Leg z1.Trip.Day)) (Scan.mk x1.Thing x1.At x1.Kind x1.Place (Trip.mk x1.Trip.Leg x1.Trip.Day))) fun x2 =>
    br x2
    (
     L_eqScanS_l1 g t a1 ls1 (g.wrap .i64 (g.add v1 1)))
    (
     some (LR.ret false))
def L_eqScanS (g : G) (t : TE) (a0 : List Scan) (a1 : List Scan) : Option Bool :=
  br (g.eq (g.llen (t.r_Scan a0)) (g.llen (t.r_Scan a1)))
  (
   cl (L_eqScanS_l1 g t a1 a0 0) fun o1 => lr o1 fun y1 =>
   some true)
  (
   some false)
theorem fit77 : codeFit Try.prog Try.f77.ntmps (Try.f77.body.getD .skip) ir77 = true := by kernel_rfl
theorem c_L_eqScanS {g : G} {t : TE} {a0 : List Scan} {a1 : List Scan} {r : Bool} (hg : g = G.real) (ht : t = TE.real) (h : L_eqScanS g t a0 a1 = some r) : Fn Try.prog 77 [.c (.s 6 (t.r_Scan a0)), .c (.s 6 (t.r_Scan a1))] (.c (.r (.v (.bool r)))) := by
  obtain ⟨X, hX⟩ := hide (.c (.r (.v (.bool r))) : X)
  rw [← hX]
  refine fn_of (rvs := rv77) (j := ir77) Try.func77 rfl fit77 (Nat.le_of_ble_eq_true rfl) (by kernel_rfl) prog_mixed ?_
  intro g2 F hg2 hF
  obtain rfl : g2 = g := hg2.unique.trans hg.symm
  clear hg2
  obtain ⟨wrap, lt, le, eq, quo, rem, band, bor, bxor, shl, shr, nat, int, add, sub, mul, cat, seq, slt, sub3, byte, llen, nadd, nsub, dlen, dapp, dset, drep, rd, rda, up, rsub, dsub, all, sle, slen⟩ := g2
  obtain ⟨r_S, d_S, r_Trip, d_Trip, r_Leg, d_Leg, r_I64, d_I64, r_Order, d_Order, r_Booking, d_Booking, r_Scan, d_Scan, r_U8, d_U8, r_LI64, d_LI64⟩ := t
  unfold L_eqScanS at h
  try dsimp only at h
  cbv
  cases hb1 : (eq (llen (r_Scan a0)) (llen (r_Scan a1))) with
  | true =>
    rw [br_true hb1] at h
    cbv
    obtain ⟨o1, ho1, h⟩ := of_cl h
    try dsimp only at h
    try rw [hg] at ho1
    try rw [ht] at ho1
    refine ABL.mk { p : Nat × Int // p.1 ≤ a0.length ∧ p.2 = ((p.1 : Nat) : Int) ∧ L_eqScanS_l1 G.real TE.real a1 (List.drop p.1 a0) p.2 = some o1 } (fun ⟨⟨k1, v1⟩, _⟩ => ({ sl := [(0, .c (.r (.s 6 (r_Scan a0)))), (1, .c (.r (.s 6 (r_Scan a1)))), (5, .c (.r (.v (.int .i64 v1))))], tab := [] } : St)) 0 (fun p => a0.length - p.1.1) ⟨(0, 0), Nat.zero_le _, rfl, ho1⟩ (Unit) (fun _ => ({ sl := [], tab := [] } : St)) 0 (fun y => o1 = LR.out y) ?_ ?_ ?_
    · refine Wk.of [] rfl rfl ?_ ?_
      · cbv
        all_goals exact ⟨⟨_, rfl, rfl⟩, ⟨_, rfl, rfl⟩, ⟨_, rfl, rfl⟩, trivial⟩
      · cbv
        all_goals exact trivial
    · rintro ⟨⟨k1, v1⟩, hk1, hi1, h_1⟩ hq1
      have hm1 := (hq1.1 0 _ _ rfl)
      try dsimp only at hk1 hi1 h_1
      clear hq1
      cbv
      by_cases hc1_ : k1 < a0.length
      · have hb2 : lt v1 (llen (r_Scan a0)) = true := ltL_true_Scan hg ht hi1 hc1_
        have hs1 := stepL_Scan hg ht hi1 hc1_ hm1
        obtain ⟨z1, hz1⟩ := some_of_lt hc1_
        rw [drop_of_some hz1] at h_1
        rw [L_eqScanS_l1] at h_1
        obtain ⟨z1_Thing, z1_At, z1_Kind, z1_Place, ⟨z1_Trip_Leg, z1_Trip_Day⟩⟩ := z1
        try rw [← hg] at h_1
        try rw [← ht] at h_1
        try dsimp only at h_1
        rw [hb2]
        cbv
        refine AStep.mk (nn_L hi1) ?_
        cbv
        refine AGet.mk _ (r_getL_Scan hg ht hi1 hz1) ?_
        cbv
        refine AStep.mk (nn_L hi1) ?_
        cbv
        obtain ⟨x1, hx1, h_1⟩ := of_gt h_1
        obtain ⟨x1_Thing, x1_At, x1_Kind, x1_Place, ⟨x1_Trip_Leg, x1_Trip_Day⟩⟩ := x1
        try dsimp only at h_1
        refine AGet.mk _ (r_get_Scan hg ht hx1) ?_
        cbv
        obtain ⟨x2, hx2, h_1⟩ := of_lP h_1
        try dsimp only at h_1
        refine ACall.mk _ _ rfl (hF _ _ _ (c_L_eqScan hg ht hx2)) (.inl rfl) (Nat.le_of_ble_eq_true rfl) ?_
        cbv
        cases hb3 : x2 with
        | true =>
          rw [br_true hb3] at h_1
          cbv
          try rw [hg] at h_1
          try rw [ht] at h_1
          refine ⟨⟨(k1 + 1, (wrap .i64 (add v1 1))), hc1_, hs1, h_1⟩, Wk.of [] rfl rfl ?_ ?_, meas_L hc1_⟩
          · cbv
            all_goals exact ⟨⟨_, rfl, rfl⟩, ⟨_, rfl, rfl⟩, ⟨_, rfl, rfl⟩, trivial⟩
          · cbv
            all_goals exact trivial
        | false =>
          rw [br_false hb3] at h_1
          cbv
          obtain rfl := Option.some.inj h_1
          try dsimp only [lr, lrL, lrp, lrpL] at h
          obtain rfl := Option.some.inj h
          exact ARet.mk trivial hX.symm
      · have hb2 : lt v1 (llen (r_Scan a0)) = false := ltL_false_Scan hg ht hi1 hc1_
        rw [List.drop_of_length_le (Nat.le_of_not_lt hc1_)] at h_1
        rw [L_eqScanS_l1] at h_1
        try rw [← hg] at h_1
        try rw [← ht] at h_1
        try dsimp only at h_1
        rw [hb2]
        cbv
        refine ⟨(), Wk.of [] rfl rfl ?_ ?_, (Option.some.inj h_1).symm⟩
        · cbv
          all_goals exact trivial
        · cbv
          all_goals exact trivial
    · rintro _ hy1
      replace hy1 := hy1.symm
      subst hy1
      try dsimp only [lr, lrL, lrp, lrpL] at h
      cbv
      obtain rfl := Option.some.inj h
      exact ARet.mk trivial hX.symm
  | false =>
    rw [br_false hb1] at h
    cbv
    obtain rfl := Option.some.inj h
    exact ARet.mk trivial hX.symm
end Go.Vs
namespace Go.Vs
set_option maxRecDepth 100000
def ir125 : J :=
  .seq (.reg none [⟨(some 1), none, .box (.t 0)⟩,
     ⟨(some 2), none, .mv (.k (V.b false))⟩] [1])
  (.seq (.reg none [⟨(some 3), none, .fa 0 (.t 1)⟩,
     ⟨(some 4), none, .ld false 1 (.t 3)⟩,
     ⟨(some 5), none, .call 158 true [(.t 4)]⟩,
     ⟨(some 6), none, .mv (.t 5)⟩,
     ⟨(some 7), (some (6, true)), .fa 1 (.t 1)⟩,
     ⟨(some 8), (some (6, true)), .ld false 1 (.t 7)⟩,
     ⟨(some 9), (some (6, true)), .call 158 true [(.t 8)]⟩,
     ⟨(some 10), none, .pick (.t 6) (.t 9) (.k (V.b false))⟩,
     ⟨(some 11), none, .mv (.t 10)⟩,
     ⟨(some 12), (some (11, true)), .fa 0 (.t 1)⟩,
     ⟨(some 13), (some (11, true)), .ld false 1 (.t 12)⟩,
     ⟨(some 14), (some (11, true)), .fa 1 (.t 1)⟩,
     ⟨(some 15), (some (11, true)), .ld false 1 (.t 14)⟩,
     ⟨(some 16), (some (11, true)), .bin .neq .s (.t 13) (.t 15)⟩,
     ⟨(some 17), none, .pick (.t 11) (.t 16) (.k (V.b false))⟩,
     ⟨(some 18), none, .mv (.t 17)⟩,
     ⟨(some 19), (some (18, true)), .fa 2 (.t 1)⟩,
     ⟨(some 20), (some (18, true)), .ld false 1 (.t 19)⟩,
     ⟨(some 21), (some (18, true)), .call 80 true [(.t 20), (.k (V.i 0)), (.k (V.i 1439))]⟩,
     ⟨(some 22), none, .pick (.t 18) (.t 21) (.k (V.b false))⟩,
     ⟨(some 23), none, .mv (.t 22)⟩,
     ⟨(some 24), (some (23, true)), .fa 3 (.t 1)⟩,
     ⟨(some 25), (some (23, true)), .ld false 1 (.t 24)⟩,
     ⟨(some 26), (some (23, true)), .call 80 true [(.t 25), (.k (V.i 1)), (.k (V.i 4320))]⟩,
     ⟨(some 27), none, .pick (.t 23) (.t 26) (.k (V.b false))⟩,
     ⟨(some 28), none, .mv (.t 27)⟩,
     ⟨(some 29), (some (28, true)), .fa 4 (.t 1)⟩,
     ⟨(some 30), (some (28, true)), .ld false 1 (.t 29)⟩,
     ⟨(some 31), (some (28, true)), .call 80 true [(.t 30), (.k (V.i 1)), (.k (V.i 127))]⟩,
     ⟨(some 32), none, .pick (.t 28) (.t 31) (.k (V.b false))⟩,
     ⟨(some 33), none, .mv (.t 32)⟩,
     ⟨(some 34), (some (33, true)), .fa 5 (.t 1)⟩,
     ⟨(some 35), (some (33, true)), .ld false 1 (.t 34)⟩,
     ⟨(some 36), (some (33, true)), .call 80 true [(.t 35), (.k (V.i 0)), (.k (V.i 1000000))]⟩,
     ⟨(some 37), none, .pick (.t 33) (.t 36) (.k (V.b false))⟩,
     ⟨(some 2), none, .mv (.t 37)⟩] [2])
  (.ret))
def rv125 : List RV := [.t 2]
open Go.Proofs Go.IntWalk
set_option linter.unusedVariables false
set_option maxRecDepth 100000
set_option maxHeartbeats 4000000
def S_IsLeg (g : G) (t : TE) (a0 : Leg) : Option Bool :=
  cl (S_IsPlace g t a0.From) fun x1 =>
  br x1
  (
   cl (S_IsPlace g t a0.To) fun x2 =>
   br x2
   (
    br (g.seq a0.From a0.To)
    (
     some false)
    (
     lP (S_l1In g t a0.Start 0 1439) fun x3 =>
     br x3
     (
      lP (S_l1In g t a0.Takes 1 4320) fun x4 =>
      br x4
      (
       lP (S_l1In g t a0.Days 1 127) fun x5 =>
       br x5
       (
        lP (S_l1In g t a0.Room 0 1000000) fun x6 =>
        some x6)
       (
        some false))
      (
       some false))
     (
      some false)))
   (
    some false))
  (
   some false)
theorem fit125 : codeFit Try.prog Try.f125.ntmps (Try.f125.body.getD .skip) ir125 = true := by kernel_rfl
theorem c_S_IsLeg {g : G} {t : TE} {a0 : Leg} {r : Bool} (hg : g = G.real) (ht : t = TE.real) (h : S_IsLeg g t a0 = some r) : Fn Try.prog 125 [.g (Leg.rs t a0)] (.c (.r (.v (.bool r)))) := by
  obtain ⟨X, hX⟩ := hide (.c (.r (.v (.bool r))) : X)
  rw [← hX]
  refine fn_of (rvs := rv125) (j := ir125) Try.func125 rfl fit125 (Nat.le_of_ble_eq_true rfl) (by kernel_rfl) prog_mixed ?_
  intro g2 F hg2 hF
  obtain rfl : g2 = g := hg2.unique.trans hg.symm
  clear hg2
  obtain ⟨wrap, lt, le, eq, quo, rem, band, bor, bxor, shl, shr, nat, int, add, sub, mul, cat, seq, slt, sub3, byte, llen, nadd, nsub, dlen, dapp, dset, drep, rd, rda, up, rsub, dsub, all, sle, slen⟩ := g2
  obtain ⟨r_S, d_S, r_Trip, d_Trip, r_Leg, d_Leg, r_I64, d_I64, r_Order, d_Order, r_Booking, d_Booking, r_Scan, d_Scan, r_U8, d_U8, r_LI64, d_LI64⟩ := t
  obtain ⟨a0_From, a0_To, a0_Start, a0_Takes, a0_Days, a0_Room⟩ := a0
  unfold S_IsLeg at h
  try dsimp only at h
  cbv
  obtain ⟨x1, hx1, h⟩ := of_cl h
  try dsimp only at h
  refine ACall.mk _ _ rfl (hF _ _ _ (c_S_IsPlace hg ht hx1)) (.inl rfl) (Nat.le_of_ble_eq_true rfl) ?_
  cbv
  cases hb1 : x1 with
  | true =>
    rw [br_true hb1] at h
    cbv
    try (rw [hb1]; cbv)
    try (rw [hb1]; cbv)
    obtain ⟨x2, hx2, h⟩ := of_cl h
    try dsimp only at h
    refine ACall.mk _ _ rfl (hF _ _ _ (c_S_IsPlace hg ht hx2)) (.inl rfl) (Nat.le_of_ble_eq_true rfl) ?_
    cbv
    try (rw [hb1]; cbv)
    cases hb2 : x2 with
    | true =>
      rw [br_true hb2] at h
      cbv
      try (rw [hb2]; cbv)
      try (rw [hb2]; cbv)
      try (rw [hb2]; cbv)
      try (rw [hb2]; cbv)
      try (rw [hb2]; cbv)
      cases hb3 : (seq a0_From a0_To) with
      | true =>
        rw [br_true hb3] at h
        cbv
        try (rw [hb3]; cbv)
        try (rw [hb3]; cbv)
        try (rw [hb3]; cbv)
        obtain rfl := Option.some.inj h
        exact ARet.mk trivial hX.symm
      | false =>
        rw [br_false hb3] at h
        cbv
        try (rw [hb3]; cbv)
        try (rw [hb3]; cbv)
        obtain ⟨x3, hx3, h⟩ := of_lP h
        try dsimp only at h
        refine ACall.mk _ _ rfl (hF _ _ _ (c_S_l1In hg ht hx3)) (.inl rfl) (Nat.le_of_ble_eq_true rfl) ?_
        cbv
        try (rw [hb3]; cbv)
        cases hb4 : x3 with
        | true =>
          rw [br_true hb4] at h
          cbv
          try (rw [hb4]; cbv)
          try (rw [hb4]; cbv)
          obtain ⟨x4, hx4, h⟩ := of_lP h
          try dsimp only at h
          refine ACall.mk _ _ rfl (hF _ _ _ (c_S_l1In hg ht hx4)) (.inl rfl) (Nat.le_of_ble_eq_true rfl) ?_
          cbv
          try (rw [hb4]; cbv)
          cases hb5 : x4 with
          | true =>
            rw [br_true hb5] at h
            cbv
            try (rw [hb5]; cbv)
            try (rw [hb5]; cbv)
            obtain ⟨x5, hx5, h⟩ := of_lP h
            try dsimp only at h
            refine ACall.mk _ _ rfl (hF _ _ _ (c_S_l1In hg ht hx5)) (.inl rfl) (Nat.le_of_ble_eq_true rfl) ?_
            cbv
            try (rw [hb5]; cbv)
            cases hb6 : x5 with
            | true =>
              rw [br_true hb6] at h
              cbv
              try (rw [hb6]; cbv)
              try (rw [hb6]; cbv)
              obtain ⟨x6, hx6, h⟩ := of_lP h
              try dsimp only at h
              refine ACall.mk _ _ rfl (hF _ _ _ (c_S_l1In hg ht hx6)) (.inl rfl) (Nat.le_of_ble_eq_true rfl) ?_
              cbv
              try (rw [hb6]; cbv)
              obtain rfl := Option.some.inj h
              exact ARet.mk trivial hX.symm
            | false =>
              rw [br_false hb6] at h
              cbv
              try (rw [hb6]; cbv)
              try (rw [hb6]; cbv)
              try (rw [hb6]; cbv)
              obtain rfl := Option.some.inj h
              exact ARet.mk trivial hX.symm
          | false =>
            rw [br_false hb5] at h
            cbv
            try (rw [hb5]; cbv)
            try (rw [hb5]; cbv)
            try (rw [hb5]; cbv)
            obtain rfl := Option.some.inj h
            exact ARet.mk trivial hX.symm
        | false =>
          rw [br_false hb4] at h
          cbv
          try (rw [hb4]; cbv)
          try (rw [hb4]; cbv)
          try (rw [hb4]; cbv)
          obtain rfl := Option.some.inj h
          exact ARet.mk trivial hX.symm
    | false =>
      rw [br_false hb2] at h
      cbv
      try (rw [hb2]; cbv)
      try (rw [hb2]; cbv)
      try (rw [hb2]; cbv)
      try (rw [hb2]; cbv)
      try (rw [hb2]; cbv)
      obtain rfl := Option.some.inj h
      exact ARet.mk trivial hX.symm
  | false =>
    rw [br_false hb1] at h
    cbv
    try (rw [hb1]; cbv)
    try (rw [hb1]; cbv)
    try (rw [hb1]; cbv)
    obtain rfl := Option.some.inj h
    exact ARet.mk trivial hX.symm
end Go.Vs
namespace Go.Vs
set_option maxRecDepth 100000
def ir87 : J :=
  .seq (.reg none [⟨(some 1), none, .box (.t 0)⟩,
     ⟨(some 2), none, .mv (.k (V.b false))⟩] [1])
  (.seq (.seq (.reg none [⟨(some 7), none, .fa 0 (.t 1)⟩,
      ⟨(some 8), none, .ld false 1 (.t 7)⟩,
      ⟨(some 9), none, .len false (.t 8)⟩,
      ⟨(some 10), none, .mv (.k (V.i 0))⟩] [1, 8, 9, 10])
   (.bl 0 (.seq (.reg none [⟨(some 11), none, .bin .lss .i (.t 10) (.t 9)⟩] [1, 8, 9, 10, 11])
    (.seq (.cond (.t 11)
      (.skip)
      (.exit 0))
    (.seq (.block 1 (.seq (.reg none [⟨(some 12), none, .ia 6 (.t 8) (.t 10)⟩,
         ⟨(some 13), none, .ld true 6 (.t 12)⟩,
         ⟨(some 4), none, .alloc [.r (.v (.string .empty)), .r (.v (.string .empty)), .r (.v (.int .i64 0)), .r (.v (.int .i64 0)), .r (.v (.int .i64 0)), .r (.v (.int .i64 0))]⟩,
         ⟨none, none, .st 6 (.t 4) (.t 13)⟩] [1, 4, 8, 9, 10])
      (.seq (.reg none [⟨(some 14), none, .ld true 6 (.t 4)⟩,
         ⟨(some 15), none, .call 128 true [(.t 14)]⟩,
         ⟨(some 16), none, .not (.t 15)⟩] [1, 8, 9, 10, 16])
      (.cond (.t 16)
       (.seq (.reg none [⟨(some 2), none, .mv (.k (V.b false))⟩] [2])
        (.ret))
       (.skip)))))
    (.reg none [⟨(some 17), none, .bin .add .i (.t 10) (.k (V.i 1))⟩,
      ⟨(some 10), none, .mv (.t 17)⟩] [1, 8, 9, 10]))))))
  (.seq (.seq (.reg none [⟨(some 18), none, .fa 1 (.t 1)⟩,
      ⟨(some 19), none, .ld false 1 (.t 18)⟩,
      ⟨(some 20), none, .len false (.t 19)⟩,
      ⟨(some 21), none, .mv (.k (V.i 0))⟩] [1, 19, 20, 21])
   (.bl 2 (.seq (.reg none [⟨(some 22), none, .bin .lss .i (.t 21) (.t 20)⟩] [1, 19, 20, 21, 22])
    (.seq (.cond (.t 22)
      (.skip)
      (.exit 2))
    (.seq (.block 3 (.seq (.reg none [⟨(some 23), none, .mv (.t 21)⟩,
         ⟨(some 24), none, .ia 1 (.t 19) (.t 21)⟩,
         ⟨(some 25), none, .ld false 1 (.t 24)⟩,
         ⟨(some 5), none, .mv (.t 23)⟩,
         ⟨(some 6), none, .mv (.t 25)⟩] [1, 5, 6, 19, 20, 21])
      (.seq (.reg none [⟨(some 26), none, .mv (.t 6)⟩,
         ⟨(some 27), none, .call 88 true [(.t 26), (.k (V.i 0)), (.k (V.i 60))]⟩,
         ⟨(some 28), none, .not (.t 27)⟩,
         ⟨(some 29), none, .mv (.t 28)⟩,
         ⟨(some 30), (some (29, false)), .mv (.t 5)⟩,
         ⟨(some 31), (some (29, false)), .bin .gtr .i (.t 30) (.k (V.i 0))⟩,
         ⟨(some 32), (some (29, false)), .mv (.t 31)⟩,
         ⟨(some 33), (some (32, true)), .fa 1 (.t 1)⟩,
         ⟨(some 34), (some (32, true)), .ld false 1 (.t 33)⟩,
         ⟨(some 35), (some (32, true)), .mv (.t 5)⟩,
         ⟨(some 36), (some (32, true)), .bin .sub .i (.t 35) (.k (V.i 1))⟩,
         ⟨(some 37), (some (32, true)), .ia 1 (.t 34) (.t 36)⟩,
         ⟨(some 38), (some (32, true)), .ld false 1 (.t 37)⟩,
         ⟨(some 39), (some (32, true)), .mv (.t 6)⟩,
         ⟨(some 40), (some (32, true)), .bin .geq .i (.t 38) (.t 39)⟩,
         ⟨(some 41), (some (29, false)), .pick (.t 32) (.t 40) (.k (V.b false))⟩,
         ⟨(some 42), none, .pick (.t 29) (.k (V.b true)) (.t 41)⟩] [1, 19, 20, 21, 42])
      (.cond (.t 42)
       (.seq (.reg none [⟨(some 2), none, .mv (.k (V.b false))⟩] [2])
        (.ret))
       (.skip)))))
    (.reg none [⟨(some 43), none, .bin .add .i (.t 21) (.k (V.i 1))⟩,
      ⟨(some 21), none, .mv (.t 43)⟩] [1, 19, 20, 21]))))))
  (.seq (.reg none [⟨(some 44), none, .fa 0 (.t 1)⟩,
     ⟨(some 45), none, .ld false 1 (.t 44)⟩,
     ⟨(some 46), none, .len false (.t 45)⟩,
     ⟨(some 47), none, .bin .leq .i (.t 46) (.k (V.i 20))⟩,
     ⟨(some 48), none, .mv (.t 47)⟩,
     ⟨(some 49), (some (48, true)), .fa 1 (.t 1)⟩,
     ⟨(some 50), (some (48, true)), .ld false 1 (.t 49)⟩,
     ⟨(some 51), (some (48, true)), .len false (.t 50)⟩,
     ⟨(some 52), (some (48, true)), .bin .leq .i (.t 51) (.k (V.i 10))⟩,
     ⟨(some 53), none, .pick (.t 48) (.t 52) (.k (V.b false))⟩,
     ⟨(some 54), none, .mv (.t 53)⟩,
     ⟨(some 55), (some (54, true)), .fa 2 (.t 1)⟩,
     ⟨(some 56), (some (54, true)), .ld false 1 (.t 55)⟩,
     ⟨(some 57), (some (54, true)), .call 88 true [(.t 56), (.k (V.i 0)), (.k (V.i 240))]⟩,
     ⟨(some 58), none, .pick (.t 54) (.t 57) (.k (V.b false))⟩,
     ⟨(some 2), none, .mv (.t 58)⟩] [2])
  (.ret))))
def rv87 : List RV := [.t 2]
open Go.Proofs Go.IntWalk
set_option linter.unusedVariables false
set_option maxRecDepth 100000
set_option maxHeartbeats 4000000
def I_IsNetwork_l2 (g : G) (t : TE) (a0 : Network) : List Int → Int → Option (LR Bool Unit)
  | [], v2 =>
    some (LR.out ())
  | z2 :: ls2, v2 =>
    lP (I_within g t z2 0 60) fun x2 =>
    br x2
    (
     br (g.lt 0 v2)
     (
      gd ((0 ≤ (g.wrap .i64 (g.sub v2 1)))) <|
      gt a0.Off (g.nat (g.wrap .i64 (g.sub v2 1))) fun x3 =>
      br (g.le z2 x3)
      (
       some (LR.ret false))
      (
       I_IsNetwork_l2 g t a0 ls2 (g.wrap .i64 (g.add v2 1))))
     (
      I_IsNetwork_l2 g t a0 ls2 (g.wrap .i64 (g.add v2 1))))
    (
     some (LR.ret false))
def I_IsNetwork_l1 (g : G) (t : TE) : List Leg → Option (LR Bool Unit)
  | [] =>
    some (LR.out ())
  | z1 :: ls1 =>
    cl (I_IsLeg g t z1) fun x1 =>
    br x1
    (
     I_IsNetwork_l1 g t ls1)
    (
     some (LR.ret false))
def I_IsNetwork (g : G) (t : TE) (a0 : Network) : Option Bool :=
  cl (I_IsNetwork_l1 g t a0.Legs) fun o1 => lr o1 fun y1 =>
  cl (I_IsNetwork_l2 g t a0 a0.Off 0) fun o2 => lr o2 fun y2 =>
  br (g.le (g.llen (t.r_Leg a0.Legs)) 20)
  (
   br (g.le (g.llen (t.r_I64 a0.Off)) 10)
   (
    lP (I_within g t a0.Change 0 240) fun x4 =>
    some x4)
   (
    some false))
  (
   some false)
theorem fit87 : codeFit Try.prog Try.f87.ntmps (Try.f87.body.getD .skip) ir87 = true := by kernel_rfl
theorem c_I_IsNetwork {g : G} {t : TE} {a0 : Network} {r : Bool} (hg : g = G.real) (ht : t = TE.real) (h : I_IsNetwork g t a0 = some r) : Fn Try.prog 87 [.g (Network.rs t a0)] (.c (.r (.v (.bool r)))) := by
  obtain ⟨X, hX⟩ := hide (.c (.r (.v (.bool r))) : X)
  rw [← hX]
  refine fn_of (rvs := rv87) (j := ir87) Try.func87 rfl fit87 (Nat.le_of_ble_eq_true rfl) (by kernel_rfl) prog_mixed ?_
  intro g2 F hg2 hF
  obtain rfl : g2 = g := hg2.unique.trans hg.symm
  clear hg2
  obtain ⟨wrap, lt, le, eq, quo, rem, band, bor, bxor, shl, shr, nat, int, add, sub, mul, cat, seq, slt, sub3, byte, llen, nadd, nsub, dlen, dapp, dset, drep, rd, rda, up, rsub, dsub, all, sle, slen⟩ := g2
  obtain ⟨r_S, d_S, r_Trip, d_Trip, r_Leg, d_Leg, r_I64, d_I64, r_Order, d_Order, r_Booking, d_Booking, r_Scan, d_Scan, r_U8, d_U8, r_LI64, d_LI64⟩ := t
  obtain ⟨a0_Legs, a0_Off, a0_Change⟩ := a0
  unfold I_IsNetwork at h
  try dsimp only at h
  cbv
  obtain ⟨o1, ho1, h⟩ := of_cl h
  try dsimp only at h
  try rw [hg] at ho1
  try rw [ht] at ho1
  refine ABL.mk { p : Nat × Int // p.1 ≤ a0_Legs.length ∧ p.2 = ((p.1 : Nat) : Int) ∧ I_IsNetwork_l1 G.real TE.real (List.drop p.1 a0_Legs) = some o1 } (fun ⟨⟨k1, v1⟩, _⟩ => ({ sl := [(1, .c (.p 0 3 0 0)), (8, .c (.r (.s 6 (r_Leg a0_Legs)))), (9, .c (.r (.v (.int .i64 (llen (r_Leg a0_Legs)))))), (10, .c (.r (.v (.int .i64 v1))))], tab := [(0, some (.foc 3 [] [.r (.s 6 (r_Leg a0_Legs)), .r (.s 1 (r_I64 a0_Off)), .r (.v (.int .i64 a0_Change))] []))] } : St)) 1 (fun p => a0_Legs.length - p.1.1) ⟨(0, 0), Nat.zero_le _, rfl, ho1⟩ (Unit) (fun _ => ({ sl := [(1, .c (.p 0 3 0 0))], tab := [(0, some (.foc 3 [] [.r (.s 6 (r_Leg a0_Legs)), .r (.s 1 (r_I64 a0_Off)), .r (.v (.int .i64 a0_Change))] []))] } : St)) 1 (fun y => o1 = LR.out y) ?_ ?_ ?_
  · refine Wk.of [(0, some 0)] rfl rfl ?_ ?_
    · cbv
      all_goals exact ⟨⟨_, rfl, rfl⟩, ⟨_, rfl, rfl⟩, ⟨_, rfl, rfl⟩, ⟨_, rfl, rfl⟩, trivial⟩
    · cbv
      all_goals exact ⟨⟨_, rfl, _, rfl, rfl, rfl, rfl, trivial⟩, trivial⟩
  · rintro ⟨⟨k1, v1⟩, hk1, hi1, h_1⟩ hq1
    have hm1 := (hq1.1 8 _ _ rfl)
    try dsimp only at hk1 hi1 h_1
    clear hq1
    cbv
    by_cases hc1_ : k1 < a0_Legs.length
    · have hb1 : lt v1 (llen (r_Leg a0_Legs)) = true := ltL_true_Leg hg ht hi1 hc1_
      have hs1 := stepL_Leg hg ht hi1 hc1_ hm1
      obtain ⟨z1, hz1⟩ := some_of_lt hc1_
      rw [drop_of_some hz1] at h_1
      rw [I_IsNetwork_l1] at h_1
      obtain ⟨z1_From, z1_To, z1_Start, z1_Takes, z1_Days, z1_Room⟩ := z1
      try rw [← hg] at h_1
      try rw [← ht] at h_1
      try dsimp only at h_1
      rw [hb1]
      cbv
      refine AStep.mk (nn_L hi1) ?_
      cbv
      refine AGet.mk _ (r_getL_Leg hg ht hi1 hz1) ?_
      cbv
      obtain ⟨x1, hx1, h_1⟩ := of_cl h_1
      try dsimp only at h_1
      refine ACall.mk _ _ rfl (hF _ _ _ (c_I_IsLeg hg ht hx1)) (.inl rfl) (Nat.le_of_ble_eq_true rfl) ?_
      cbv
      cases hb2 : x1 with
      | true =>
        rw [br_true hb2] at h_1
        cbv
        try rw [hg] at h_1
        try rw [ht] at h_1
        refine ⟨⟨(k1 + 1, (wrap .i64 (add v1 1))), hc1_, hs1, h_1⟩, Wk.of [(0, some 0)] rfl rfl ?_ ?_, meas_L hc1_⟩
        · cbv
          all_goals exact ⟨⟨_, rfl, rfl⟩, ⟨_, rfl, rfl⟩, ⟨_, rfl, rfl⟩, ⟨_, rfl, rfl⟩, trivial⟩
        · cbv
          all_goals exact ⟨⟨_, rfl, _, rfl, rfl, rfl, rfl, trivial⟩, trivial⟩
      | false =>
        rw [br_false hb2] at h_1
        cbv
        obtain rfl := Option.some.inj h_1
        try dsimp only [lr, lrL, lrp, lrpL] at h
        obtain rfl := Option.some.inj h
        exact ARet.mk trivial hX.symm
    · have hb1 : lt v1 (llen (r_Leg a0_Legs)) = false := ltL_false_Leg hg ht hi1 hc1_
      rw [List.drop_of_length_le (Nat.le_of_not_lt hc1_)] at h_1
      rw [I_IsNetwork_l1] at h_1
      try rw [← hg] at h_1
      try rw [← ht] at h_1
      try dsimp only at h_1
      rw [hb1]
      cbv
      refine ⟨(), Wk.of [(0, some 0)] rfl rfl ?_ ?_, (Option.some.inj h_1).symm⟩
      · cbv
        all_goals exact ⟨⟨_, rfl, rfl⟩, trivial⟩
      · cbv
        all_goals exact ⟨⟨_, rfl, _, rfl, rfl, rfl, rfl, trivial⟩, trivial⟩
  · rintro _ hy1
    replace hy1 := hy1.symm
    subst hy1
    try dsimp only [lr, lrL, lrp, lrpL] at h
    cbv
    obtain ⟨o2, ho2, h⟩ := of_cl h
    try dsimp only at h
    try rw [hg] at ho2
    try rw [ht] at ho2
    refine ABL.mk { p : Nat × Int // p.1 ≤ a0_Off.length ∧ p.2 = ((p.1 : Nat) : Int) ∧ I_IsNetwork_l2 G.real TE.real (Network.mk a0_Legs a0_Off a0_Change) (List.drop p.1 a0_Off) p.2 = some o2 } (fun ⟨⟨k2, v2⟩, _⟩ => ({ sl := [(1, .c (.p 0 3 0 0)), (19, .c (.r (.s 1 (r_I64 a0_Off)))), (20, .c (.r (.v (.int .i64 (llen (r_I64 a0_Off)))))), (21, .c (.r (.v (.int .i64 v2))))], tab := [(0, some (.foc 3 [] [.r (.s 6 (r_Leg a0_Legs)), .r (.s 1 (r_I64 a0_Off)), .r (.v (.int .i64 a0_Change))] []))] } : St)) 1 (fun p => a0_Off.length - p.1.1) ⟨(0, 0), Nat.zero_le _, rfl, ho2⟩ (Unit) (fun _ => ({ sl := [(1, .c (.p 0 3 0 0))], tab := [(0, some (.foc 3 [] [.r (.s 6 (r_Leg a0_Legs)), .r (.s 1 (r_I64 a0_Off)), .r (.v (.int .i64 a0_Change))] []))] } : St)) 1 (fun y => o2 = LR.out y) ?_ ?_ ?_
    · refine Wk.of [(0, some 0)] rfl rfl ?_ ?_
      · cbv
        all_goals exact ⟨⟨_, rfl, rfl⟩, ⟨_, rfl, rfl⟩, ⟨_, rfl, rfl⟩, ⟨_, rfl, rfl⟩, trivial⟩
      · cbv
        all_goals exact ⟨⟨_, rfl, _, rfl, rfl, rfl, rfl, trivial⟩, trivial⟩
    · rintro ⟨⟨k2, v2⟩, hk2, hi2, h_2⟩ hq2
      have hm2 := (hq2.1 19 _ _ rfl)
      try dsimp only at hk2 hi2 h_2
      clear hq2
      cbv
      by_cases hc2_ : k2 < a0_Off.length
      · have hb3 : lt v2 (llen (r_I64 a0_Off)) = true := ltL_true_I64 hg ht hi2 hc2_
        have hs2 := stepL_I64 hg ht hi2 hc2_ hm2
        obtain ⟨z2, hz2⟩ := some_of_lt hc2_
        rw [drop_of_some hz2] at h_2
        rw [I_IsNetwork_l2] at h_2
        try rw [← hg] at h_2
        try rw [← ht] at h_2
        try dsimp only at h_2
        rw [hb3]
        cbv
        refine AStep.mk (nn_L hi2) ?_
        cbv
        refine AGet.mk _ (r_getL_I64 hg ht hi2 hz2) ?_
        cbv
        obtain ⟨x2, hx2, h_2⟩ := of_lP h_2
        try dsimp only at h_2
        refine ACall.mk _ _ rfl (hF _ _ _ (c_I_within hg ht hx2)) (.inl rfl) (Nat.le_of_ble_eq_true rfl) ?_
        cbv
        cases hb4 : x2 with
        | true =>
          rw [br_true hb4] at h_2
          cbv
          try (rw [hb4]; cbv)
          try (rw [hb4]; cbv)
          cases hb5 : (lt 0 v2) with
          | true =>
            rw [br_true hb5] at h_2
            cbv
            try (rw [hb5]; cbv)
            try (rw [hb5]; cbv)
            try (rw [hb5]; cbv)
            try (rw [hb5]; cbv)
            obtain ⟨hc1, h_2⟩ := of_gd h_2
            refine AStep.mk hc1 ?_
            cbv
            obtain ⟨x3, hx3, h_2⟩ := of_gt h_2
            try dsimp only at h_2
            refine AGet.mk _ (r_get_I64 hg ht hx3) ?_
            cbv
            try (rw [hb5]; cbv)
            try (rw [hb5]; cbv)
            try (rw [hb5]; cbv)
            try (rw [hb4]; cbv)
            try (rw [hb5]; cbv)
            try (rw [hb4]; cbv)
            cases hb6 : (le z2 x3) with
            | true =>
              rw [br_true hb6] at h_2
              cbv
              obtain rfl := Option.some.inj h_2
              try dsimp only [lr, lrL, lrp, lrpL] at h
              obtain rfl := Option.some.inj h
              exact ARet.mk trivial hX.symm
            | false =>
              rw [br_false hb6] at h_2
              cbv
              try rw [hg] at h_2
              try rw [ht] at h_2
              refine ⟨⟨(k2 + 1, (wrap .i64 (add v2 1))), hc2_, hs2, h_2⟩, Wk.of [(0, some 0)] rfl rfl ?_ ?_, meas_L hc2_⟩
              · cbv
                all_goals exact ⟨⟨_, rfl, rfl⟩, ⟨_, rfl, rfl⟩, ⟨_, rfl, rfl⟩, ⟨_, rfl, rfl⟩, trivial⟩
              · cbv
                all_goals exact ⟨⟨_, rfl, _, rfl, rfl, rfl, rfl, trivial⟩, trivial⟩
          | false =>
            rw [br_false hb5] at h_2
            cbv
            try (rw [hb5]; cbv)
            try (rw [hb5]; cbv)
            try (rw [hb5]; cbv)
            try (rw [hb5]; cbv)
            try (rw [hb5]; cbv)
            try (rw [hb5]; cbv)
            try (rw [hb5]; cbv)
            try (rw [hb4]; cbv)
            try (rw [hb5]; cbv)
            try (rw [hb4]; cbv)
            try rw [hg] at h_2
            try rw [ht] at h_2
            refine ⟨⟨(k2 + 1, (wrap .i64 (add v2 1))), hc2_, hs2, h_2⟩, Wk.of [(0, some 0)] rfl rfl ?_ ?_, meas_L hc2_⟩
            · cbv
              all_goals exact ⟨⟨_, rfl, rfl⟩, ⟨_, rfl, rfl⟩, ⟨_, rfl, rfl⟩, ⟨_, rfl, rfl⟩, trivial⟩
            · cbv
              all_goals exact ⟨⟨_, rfl, _, rfl, rfl, rfl, rfl, trivial⟩, trivial⟩
        | false =>
          rw [br_false hb4] at h_2
          cbv
          try (rw [hb4]; cbv)
          try (rw [hb4]; cbv)
          try (rw [hb4]; cbv)
          try (rw [hb4]; cbv)
          obtain rfl := Option.some.inj h_2
          try dsimp only [lr, lrL, lrp, lrpL] at h
          obtain rfl := Option.some.inj h
          exact ARet.mk trivial hX.symm
      · have hb3 : lt v2 (llen (r_I64 a0_Off)) = false := ltL_false_I64 hg ht hi2 hc2_
        rw [List.drop_of_length_le (Nat.le_of_not_lt hc2_)] at h_2
        rw [I_IsNetwork_l2] at h_2
        try rw [← hg] at h_2
        try rw [← ht] at h_2
        try dsimp only at h_2
        rw [hb3]
        cbv
        refine ⟨(), Wk.of [(0, some 0)] rfl rfl ?_ ?_, (Option.some.inj h_2).symm⟩
        · cbv
          all_goals exact ⟨⟨_, rfl, rfl⟩, trivial⟩
        · cbv
          all_goals exact ⟨⟨_, rfl, _, rfl, rfl, rfl, rfl, trivial⟩, trivial⟩
    · rintro _ hy2
      replace hy2 := hy2.symm
      subst hy2
      try dsimp only [lr, lrL, lrp, lrpL] at h
      cbv
      cases hb7 : (le (llen (r_Leg a0_Legs)) 20) with
      | true =>
        rw [br_true hb7] at h
        cbv
        try (rw [hb7]; cbv)
        try (rw [hb7]; cbv)
        try (rw [hb7]; cbv)
        try (rw [hb7]; cbv)
        cases hb8 : (le (llen (r_I64 a0_Off)) 10) with
        | true =>
          rw [br_true hb8] at h
          cbv
          try (rw [hb8]; cbv)
          try (rw [hb8]; cbv)
          obtain ⟨x4, hx4, h⟩ := of_lP h
          try dsimp only at h
          refine ACall.mk _ _ rfl (hF _ _ _ (c_I_within hg ht hx4)) (.inl rfl) (Nat.le_of_ble_eq_true rfl) ?_
          cbv
          try (rw [hb8]; cbv)
          obtain rfl := Option.some.inj h
          exact ARet.mk trivial hX.symm
        | false =>
          rw [br_false hb8] at h
          cbv
          try (rw [hb8]; cbv)
          try (rw [hb8]; cbv)
          try (rw [hb8]; cbv)
          obtain rfl := Option.some.inj h
          exact ARet.mk trivial hX.symm
      | false =>
        rw [br_false hb7] at h
        cbv
        try (rw [hb7]; cbv)
        try (rw [hb7]; cbv)
        try (rw [hb7]; cbv)
        try (rw [hb7]; cbv)
        obtain rfl := Option.some.inj h
        exact ARet.mk trivial hX.symm
end Go.Vs
namespace Go.Vs
set_option maxRecDepth 100000
def ir139 : J :=
  .seq (.reg none [⟨(some 6), none, .box (.t 0)⟩,
     ⟨(some 12), none, .mv (.k (V.i 0))⟩] [1, 2, 3, 4, 5, 6])
  (.seq (.seq (.reg none [⟨(some 13), none, .mv (.k (V.i 0))⟩] [1, 2, 3, 4, 5, 6, 13])
   (.bl 0 (.seq (.seq (.reg none [⟨(some 15), none, .mv (.t 13)⟩,
        ⟨(some 16), none, .bin .leq .i (.t 15) (.k (V.i 60))⟩] [1, 2, 3, 4, 5, 6, 13, 16])
     (.cond (.t 16)
      (.skip)
      (.exit 0)))
    (.seq (.block 1 (.seq (.reg none [⟨(some 19), none, .mv (.t 3)⟩,
         ⟨(some 20), none, .mv (.t 13)⟩,
         ⟨(some 21), none, .bld [.r (.v (.int .i64 0)), .r (.v (.int .i64 0))] [(0, 1, (.t 19)), (1, 1, (.t 20))]⟩,
         ⟨(some 14), none, .alloc [.r (.v (.int .i64 0)), .r (.v (.int .i64 0))]⟩,
         ⟨none, none, .st 2 (.t 14) (.t 21)⟩] [1, 2, 3, 4, 5, 6, 13, 14])
      (.seq (.reg (some [[], [], [], [0, 1, 2], [0, 1, 2, 3], [0, 1, 2, 3, 4], [0, 1, 2, 3, 4], [0, 1, 2, 3, 4, 5, 6], [0, 1, 2, 3, 4], [0, 1, 2, 3, 4, 5, 6, 7, 8], [0, 1, 2, 3, 4, 5, 6, 7, 8, 9], [0, 1, 2, 3, 4, 5, 6, 7, 8, 9, 10], [0, 1, 2, 3, 4, 5, 6, 7, 8, 9, 10, 11], [0, 1, 2, 3, 4, 5, 6, 7, 8, 9, 10, 11], [0, 1, 2, 3, 4, 5, 6, 7, 8, 9, 10, 11, 12, 13], [0, 1, 2, 3, 4, 5, 6, 7, 8, 9, 10, 11, 12, 13, 14], [0, 1, 2, 3, 4, 5, 6, 7, 8, 9, 10, 11, 12, 13, 14, 15], [0, 1, 2, 3, 4, 5, 6, 7, 8, 9, 10, 11, 12, 13, 14, 15, 16], [0, 1, 2, 3, 4, 5, 6, 7, 8, 9, 10, 11, 12, 13, 14, 15, 16, 17], [0, 1, 2, 3, 4, 5, 6, 7, 8, 9, 10, 11, 12, 13, 14, 15, 16, 17, 18], [0, 1, 2, 3, 4, 5, 6, 7, 8, 9, 10, 11, 12, 13, 14, 15, 16, 17], [0, 1, 2, 3, 4, 5, 6, 7, 8, 9, 10, 11, 12, 13, 14, 15, 16, 17, 18, 19, 20], [0, 1, 2, 3, 4, 5, 6, 7, 8, 9, 10, 11, 12, 13, 14, 15, 16, 17, 18, 19, 20, 21], [0, 1, 2, 3, 4, 5, 6, 7, 8, 9, 10, 11, 12, 13, 14, 15, 16, 17, 18, 19, 20, 21, 22], [0, 1, 2, 3, 4, 5, 6, 7, 8, 9, 10, 11, 12, 13, 14, 15, 16, 17], [0, 1, 2, 3, 4, 5, 6, 7, 8, 9, 10, 11, 12, 13, 14, 15, 16, 17], [0, 1, 2, 3, 4, 5, 6, 7, 8, 9, 10, 11, 12, 13, 14, 15, 16, 17, 24, 25], [0, 1, 2, 3, 4, 5, 6, 7, 8, 9, 10, 11, 12, 13, 14, 15, 16, 17, 18, 19, 20, 21, 22, 23, 24, 25, 26], [0, 1, 2, 3, 4, 5, 6, 7, 8, 9, 10, 11, 12, 13, 14, 15, 16, 17], [0, 1, 2, 3, 4, 5, 6, 7, 8, 9, 10, 11, 12, 13, 14, 15, 16, 17, 18, 19, 20, 21, 22, 23, 24, 25, 26, 27, 28], [0, 1, 2, 3, 4, 5, 6, 7, 8, 9, 10, 11, 12, 13, 14, 15, 16, 17, 18, 19, 20, 21, 22, 23, 24, 25, 26, 27, 28, 29]]) [⟨(some 22), none, .ld true 3 (.t 6)⟩,
         ⟨(some 23), none, .mv (.t 3)⟩,
         ⟨(some 24), none, .mv (.t 13)⟩,
         ⟨(some 25), none, .call 134 true [(.t 22), (.t 23), (.t 24)]⟩,
         ⟨(some 26), none, .mv (.t 25)⟩,
         ⟨(some 27), (some (26, true)), .ld true 3 (.t 6)⟩,
         ⟨(some 28), (some (26, true)), .ld true 2 (.t 14)⟩,
         ⟨(some 29), (some (26, true)), .call 84 true [(.t 27), (.t 28)]⟩,
         ⟨(some 30), (some (26, true)), .mv (.t 4)⟩,
         ⟨(some 31), (some (26, true)), .bin .geq .i (.t 29) (.t 30)⟩,
         ⟨(some 32), none, .pick (.t 26) (.t 31) (.k (V.b false))⟩,
         ⟨(some 33), none, .mv (.t 32)⟩,
         ⟨(some 34), (some (33, true)), .mv (.t 2)⟩,
         ⟨(some 35), (some (33, true)), .ld true 2 (.t 14)⟩,
         ⟨(some 36), (some (33, true)), .call 164 true [(.t 34), (.t 35)]⟩,
         ⟨(some 37), (some (33, true)), .not (.t 36)⟩,
         ⟨(some 38), none, .pick (.t 33) (.t 37) (.k (V.b false))⟩,
         ⟨(some 39), none, .mv (.t 38)⟩,
         ⟨(some 40), (some (39, true)), .fa 0 (.t 6)⟩,
         ⟨(some 41), (some (39, true)), .ld false 1 (.t 40)⟩,
         ⟨(some 42), (some (39, true)), .mv (.t 3)⟩,
         ⟨(some 43), (some (39, true)), .ia 6 (.t 41) (.t 42)⟩,
         ⟨(some 44), (some (39, true)), .fa 5 (.t 43)⟩,
         ⟨(some 45), (some (39, true)), .ld false 1 (.t 44)⟩,
         ⟨(some 46), (some (39, true)), .mv (.t 1)⟩,
         ⟨(some 47), (some (39, true)), .ld true 2 (.t 14)⟩,
         ⟨(some 48), (some (39, true)), .call 136 true [(.t 46), (.t 47)]⟩,
         ⟨(some 49), (some (39, true)), .bin .sub .i (.t 45) (.t 48)⟩,
         ⟨(some 50), (some (39, true)), .mv (.t 5)⟩,
         ⟨(some 51), (some (39, true)), .bin .geq .i (.t 49) (.t 50)⟩,
         ⟨(some 52), none, .pick (.t 39) (.t 51) (.k (V.b false))⟩] [1, 2, 3, 4, 5, 6, 13, 52])
      (.cond (.t 52)
       (.seq (.reg none [⟨(some 53), none, .mv (.t 13)⟩,
           ⟨(some 12), none, .mv (.t 53)⟩] [12])
        (.ret))
       (.skip)))))
    (.reg none [⟨(some 17), none, .mv (.t 13)⟩,
      ⟨(some 18), none, .bin .add .i (.t 17) (.k (V.i 1))⟩,
      ⟨(some 13), none, .mv (.t 18)⟩] [1, 2, 3, 4, 5, 6, 13])))))
  (.seq (.reg none [⟨(some 12), none, .mv (.k (V.i (-1)))⟩] [12])
  (.ret)))
def rv139 : List RV := [.t 12]
open Go.Proofs Go.IntWalk
set_option linter.unusedVariables false
set_option maxRecDepth 100000
set_option maxHeartbeats 4000000
def S_l6Next_l1 (g : G) (t : TE) (a0 : Network) (a1 : List Booking) (a2 : List Trip) (a3 : Int) (a4 : Int) (a5 : Int) : Nat → Int → Option (LR Int Unit)
  | 0, v1 =>
    some (LR.out ())
  | n1 + 1, v1 =>
    cl (S_l3Runs g t a0 a3 v1) fun x1 =>
    br x1
    (
     cl (S_l3Starts g t a0 (Trip.mk a3 v1)) fun x2 =>
     br (g.le a4 x2)
     (
      lP (S_l6Closed g t a2 (Trip.mk a3 v1)) fun x3 =>
      br x3
      (
       S_l6Next_l1 g t a0 a1 a2 a3 a4 a5 n1 (g.wrap .i64 (g.add v1 1)))
      (
       gd ((0 ≤ a3)) <|
       gt a0.Legs (g.nat a3) fun x4 =>
       lP (S_LoadOf g t a1 (Trip.mk a3 v1)) fun x5 =>
       br (g.le a5 (g.wrap .i64 (g.sub x4.Room x5)))
       (
        some (LR.ret v1))
       (
        S_l6Next_l1 g t a0 a1 a2 a3 a4 a5 n1 (g.wrap .i64 (g.add v1 1)))))
     (
      S_l6Next_l1 g t a0 a1 a2 a3 a4 a5 n1 (g.wrap .i64 (g.add v1 1))))
    (
     S_l6Next_l1 g t a0 a1 a2 a3 a4 a5 n1 (g.wrap .i64 (g.add v1 1)))
def S_l6Next (g : G) (t : TE) (a0 : Network) (a1 : List Booking) (a2 : List Trip) (a3 : Int) (a4 : Int) (a5 : Int) : Option Int :=
  cl (S_l6Next_l1 g t a0 a1 a2 a3 a4 a5 (cntLe 0 60) 0) fun o1 => lr o1 fun y1 =>
  some (-1)
theorem fit139 : codeFit Try.prog Try.f139.ntmps (Try.f139.body.getD .skip) ir139 = true := by kernel_rfl
theorem c_S_l6Next {g : G} {t : TE} {a0 : Network} {a1 : List Booking} {a2 : List Trip} {a3 : Int} {a4 : Int} {a5 : Int} {r : Int} (hg : g = G.real) (ht : t = TE.real) (h : S_l6Next g t a0 a1 a2 a3 a4 a5 = some r) : Fn Try.prog 139 [.g (Network.rs t a0), .c (.s 4 (t.r_Booking a1)), .c (.s 2 (t.r_Trip a2)), .c (.v (.int .i64 a3)), .c (.v (.int .i64 a4)), .c (.v (.int .i64 a5))] (.c (.r (.v (.int .i64 r)))) := by
  obtain ⟨X, hX⟩ := hide (.c (.r (.v (.int .i64 r))) : X)
  rw [← hX]
  refine fn_of (rvs := rv139) (j := ir139) Try.func139 rfl fit139 (Nat.le_of_ble_eq_true rfl) (by kernel_rfl) prog_mixed ?_
  intro g2 F hg2 hF
  obtain rfl : g2 = g := hg2.unique.trans hg.symm
  clear hg2
  obtain ⟨wrap, lt, le, eq, quo, rem, band, bor, bxor, shl, shr, nat, int, add, sub, mul, cat, seq, slt, sub3, byte, llen, nadd, nsub, dlen, dapp, dset, drep, rd, rda, up, rsub, dsub, all, sle, slen⟩ := g2
  obtain ⟨r_S, d_S, r_Trip, d_Trip, r_Leg, d_Leg, r_I64, d_I64, r_Order, d_Order, r_Booking, d_Booking, r_Scan, d_Scan, r_U8, d_U8, r_LI64, d_LI64⟩ := t
  obtain ⟨a0_Legs, a0_Off, a0_Change⟩ := a0
  unfold S_l6Next at h
  try dsimp only at h
  cbv
  obtain ⟨o1, ho1, h⟩ := of_cl h
  try dsimp only at h
  try rw [hg] at ho1
  try rw [ht] at ho1
  refine ABL.mk { p : Nat × Int // p.1 = cntLe p.2 60 ∧ 0 ≤ p.2 ∧ S_l6Next_l1 G.real TE.real (Network.mk a0_Legs a0_Off a0_Change) a1 a2 a3 a4 a5 p.1 p.2 = some o1 } (fun ⟨⟨n1, v1⟩, _⟩ => ({ sl := [(1, .c (.r (.s 4 (r_Booking a1)))), (2, .c (.r (.s 2 (r_Trip a2)))), (3, .c (.r (.v (.int .i64 a3)))), (4, .c (.r (.v (.int .i64 a4)))), (5, .c (.r (.v (.int .i64 a5)))), (6, .c (.p 0 3 0 0)), (13, .c (.r (.v (.int .i64 v1))))], tab := [(0, some (.foc 3 [] [.r (.s 6 (r_Leg a0_Legs)), .r (.s 1 (r_I64 a0_Off)), .r (.v (.int .i64 a0_Change))] []))] } : St)) 1 (fun p => p.1.1) ⟨(cntLe 0 60, 0), rfl, Int.le_refl _, ho1⟩ (Unit) (fun _ => ({ sl := [], tab := [] } : St)) 0 (fun y => o1 = LR.out y) ?_ ?_ ?_
  · refine Wk.of [(0, some 0)] rfl rfl ?_ ?_
    · cbv
      all_goals exact ⟨⟨_, rfl, rfl⟩, ⟨_, rfl, rfl⟩, ⟨_, rfl, rfl⟩, ⟨_, rfl, rfl⟩, ⟨_, rfl, rfl⟩, ⟨_, rfl, rfl⟩, ⟨_, rfl, rfl⟩, trivial⟩
    · cbv
      all_goals exact ⟨⟨_, rfl, _, rfl, rfl, rfl, rfl, trivial⟩, trivial⟩
  · rintro ⟨⟨n1, v1⟩, hn1, hi1, h_1⟩ hq1
    try dsimp only at hn1 hi1 h_1
    clear hq1
    cbv
    rcases n1 with _ | n1
    · have hb1 : le v1 60 = false := leC_false hg hn1
      rw [S_l6Next_l1] at h_1
      try rw [← hg] at h_1
      try rw [← ht] at h_1
      try dsimp only at h_1
      rw [hb1]
      cbv
      refine ⟨(), Wk.of [] rfl rfl ?_ ?_, (Option.some.inj h_1).symm⟩
      · cbv
        all_goals exact trivial
      · cbv
        all_goals exact trivial
    · have hb1 : le v1 60 = true := leC_true hg hn1
      have hl1 := leC_le hn1
      have hs1 := stepleC hg hn1 hi1 (by decide) (by decide)
      rw [S_l6Next_l1] at h_1
      try rw [← hg] at h_1
      try rw [← ht] at h_1
      try dsimp only at h_1
      rw [hb1]
      cbv
      obtain ⟨x1, hx1, h_1⟩ := of_cl h_1
      try dsimp only at h_1
      refine ACall.mk _ _ rfl (hF _ _ _ (c_S_l3Runs hg ht hx1)) (.inl rfl) (Nat.le_of_ble_eq_true rfl) ?_
      cbv
      cases hb2 : x1 with
      | true =>
        rw [br_true hb2] at h_1
        cbv
        try (rw [hb2]; cbv)
        try (rw [hb2]; cbv)
        obtain ⟨x2, hx2, h_1⟩ := of_cl h_1
        try dsimp only at h_1
        refine ACall.mk _ _ rfl (hF _ _ _ (c_S_l3Starts hg ht hx2)) (.inl rfl) (Nat.le_of_ble_eq_true rfl) ?_
        cbv
        try (rw [hb2]; cbv)
        try (rw [hb2]; cbv)
        try (rw [hb2]; cbv)
        cases hb3 : (le a4 x2) with
        | true =>
          rw [br_true hb3] at h_1
          cbv
          try (rw [hb3]; cbv)
          try (rw [hb3]; cbv)
          obtain ⟨x3, hx3, h_1⟩ := of_lP h_1
          try dsimp only at h_1
          refine ACall.mk _ _ rfl (hF _ _ _ (c_S_l6Closed hg ht hx3)) (.inl rfl) (Nat.le_of_ble_eq_true rfl) ?_
          cbv
          try (rw [hb3]; cbv)
          try (rw [hb3]; cbv)
          cases hb4 : x3 with
          | true =>
            rw [br_true hb4] at h_1
            cbv
            try (rw [hb4]; cbv)
            try (rw [hb4]; cbv)
            try (rw [hb4]; cbv)
            try (rw [hb4]; cbv)
            try (rw [hb4]; cbv)
            try (rw [hb4]; cbv)
            try (rw [hb4]; cbv)
            try (rw [hb4]; cbv)
            try (rw [hb4]; cbv)
            try (rw [hb4]; cbv)
            try (rw [hb4]; cbv)
            try (rw [hb4]; cbv)
            try rw [hg] at h_1
            try rw [ht] at h_1
            refine ⟨⟨(n1, (wrap .i64 (add v1 1))), hs1.1, hs1.2, h_1⟩, Wk.of [(0, some 0)] rfl rfl ?_ ?_, Nat.lt_succ_self _⟩
            · cbv
              all_goals exact ⟨⟨_, rfl, rfl⟩, ⟨_, rfl, rfl⟩, ⟨_, rfl, rfl⟩, ⟨_, rfl, rfl⟩, ⟨_, rfl, rfl⟩, ⟨_, rfl, rfl⟩, ⟨_, rfl, rfl⟩, trivial⟩
            · cbv
              all_goals exact ⟨⟨_, rfl, _, rfl, rfl, rfl, rfl, trivial⟩, trivial⟩
          | false =>
            rw [br_false hb4] at h_1
            cbv
            try (rw [hb4]; cbv)
            try (rw [hb4]; cbv)
            try (rw [hb4]; cbv)
            obtain ⟨hc1, h_1⟩ := of_gd h_1
            refine AStep.mk hc1 ?_
            cbv
            obtain ⟨x4, hx4, h_1⟩ := of_gt h_1
            obtain ⟨x4_From, x4_To, x4_Start, x4_Takes, x4_Days, x4_Room⟩ := x4
            try dsimp only at h_1
            refine AGet.mk _ (r_get_Leg hg ht hx4) ?_
            cbv
            try (rw [hb4]; cbv)
            try (rw [hb4]; cbv)
            try (rw [hb4]; cbv)
            try (rw [hb4]; cbv)
            try (rw [hb4]; cbv)
            obtain ⟨x5, hx5, h_1⟩ := of_lP h_1
            try dsimp only at h_1
            refine ACall.mk _ _ rfl (hF _ _ _ (c_S_LoadOf hg ht hx5)) (.inl rfl) (Nat.le_of_ble_eq_true rfl) ?_
            cbv
            try (rw [hb4]; cbv)
            try (rw [hb4]; cbv)
            try (rw [hb4]; cbv)
            try (rw [hb4]; cbv)
            cases hb5 : (le a5 (wrap .i64 (sub x4_Room x5))) with
            | true =>
              rw [br_true hb5] at h_1
              cbv
              obtain rfl := Option.some.inj h_1
              try dsimp only [lr, lrL, lrp, lrpL] at h
              obtain rfl := Option.some.inj h
              exact ARet.mk trivial hX.symm
            | false =>
              rw [br_false hb5] at h_1
              cbv
              try rw [hg] at h_1
              try rw [ht] at h_1
              refine ⟨⟨(n1, (wrap .i64 (add v1 1))), hs1.1, hs1.2, h_1⟩, Wk.of [(0, some 0)] rfl rfl ?_ ?_, Nat.lt_succ_self _⟩
              · cbv
                all_goals exact ⟨⟨_, rfl, rfl⟩, ⟨_, rfl, rfl⟩, ⟨_, rfl, rfl⟩, ⟨_, rfl, rfl⟩, ⟨_, rfl, rfl⟩, ⟨_, rfl, rfl⟩, ⟨_, rfl, rfl⟩, trivial⟩
              · cbv
                all_goals exact ⟨⟨_, rfl, _, rfl, rfl, rfl, rfl, trivial⟩, trivial⟩
        | false =>
          rw [br_false hb3] at h_1
          cbv
          try (rw [hb3]; cbv)
          try (rw [hb3]; cbv)
          try (rw [hb3]; cbv)
          try (rw [hb3]; cbv)
          try rw [hg] at h_1
          try rw [ht] at h_1
          refine ⟨⟨(n1, (wrap .i64 (add v1 1))), hs1.1, hs1.2, h_1⟩, Wk.of [(0, some 0)] rfl rfl ?_ ?_, Nat.lt_succ_self _⟩
          · cbv
            all_goals exact ⟨⟨_, rfl, rfl⟩, ⟨_, rfl, rfl⟩, ⟨_, rfl, rfl⟩, ⟨_, rfl, rfl⟩, ⟨_, rfl, rfl⟩, ⟨_, rfl, rfl⟩, ⟨_, rfl, rfl⟩, trivial⟩
          · cbv
            all_goals exact ⟨⟨_, rfl, _, rfl, rfl, rfl, rfl, trivial⟩, trivial⟩
      | false =>
        rw [br_false hb2] at h_1
        cbv
        try (rw [hb2]; cbv)
        try (rw [hb2]; cbv)
        try (rw [hb2]; cbv)
        try (rw [hb2]; cbv)
        try (rw [hb2]; cbv)
        try rw [hg] at h_1
        try rw [ht] at h_1
        refine ⟨⟨(n1, (wrap .i64 (add v1 1))), hs1.1, hs1.2, h_1⟩, Wk.of [(0, some 0)] rfl rfl ?_ ?_, Nat.lt_succ_self _⟩
        · cbv
          all_goals exact ⟨⟨_, rfl, rfl⟩, ⟨_, rfl, rfl⟩, ⟨_, rfl, rfl⟩, ⟨_, rfl, rfl⟩, ⟨_, rfl, rfl⟩, ⟨_, rfl, rfl⟩, ⟨_, rfl, rfl⟩, trivial⟩
        · cbv
          all_goals exact ⟨⟨_, rfl, _, rfl, rfl, rfl, rfl, trivial⟩, trivial⟩
  · rintro _ hy1
    replace hy1 := hy1.symm
    subst hy1
    try dsimp only [lr, lrL, lrp, lrpL] at h
    cbv
    obtain rfl := Option.some.inj h
    exact ARet.mk trivial hX.symm
end Go.Vs
namespace Go.Vs
set_option maxRecDepth 100000
def ir156 : J :=
  .seq (.reg none [⟨(some 3), none, .box (.t 0)⟩,
     ⟨(some 6), none, .alloc [.r (.v (.int .i64 0)), .r (.v (.int .i64 0))]⟩,
     ⟨(some 7), none, .mv (.k (V.b false))⟩] [1, 2, 3, 6])
  (.seq (.seq (.reg none [⟨(some 8), none, .mv (.k (V.i 0))⟩] [1, 2, 3, 6, 8])
   (.bl 0 (.seq (.seq (.reg none [⟨(some 10), none, .mv (.t 8)⟩,
        ⟨(some 11), none, .bin .leq .i (.t 10) (.k (V.i 60))⟩] [1, 2, 3, 6, 8, 11])
     (.cond (.t 11)
      (.skip)
      (.exit 0)))
    (.seq (.block 1 (.seq (.reg none [⟨(some 14), none, .mv (.t 1)⟩,
         ⟨(some 15), none, .mv (.t 8)⟩,
         ⟨(some 16), none, .bld [.r (.v (.int .i64 0)), .r (.v (.int .i64 0))] [(0, 1, (.t 14)), (1, 1, (.t 15))]⟩,
         ⟨(some 9), none, .alloc [.r (.v (.int .i64 0)), .r (.v (.int .i64 0))]⟩,
         ⟨none, none, .st 2 (.t 9) (.t 16)⟩] [1, 2, 3, 6, 8, 9])
      (.seq (.reg none [⟨(some 17), none, .ld true 3 (.t 3)⟩,
         ⟨(some 18), none, .mv (.t 1)⟩,
         ⟨(some 19), none, .mv (.t 8)⟩,
         ⟨(some 20), none, .call 145 true [(.t 17), (.t 18), (.t 19)]⟩,
         ⟨(some 21), none, .mv (.t 20)⟩,
         ⟨(some 22), (some (21, true)), .ld true 3 (.t 3)⟩,
         ⟨(some 23), (some (21, true)), .ld true 2 (.t 9)⟩,
         ⟨(some 24), (some (21, true)), .call 92 true [(.t 22), (.t 23)]⟩,
         ⟨(some 25), (some (21, true)), .mv (.t 2)⟩,
         ⟨(some 26), (some (21, true)), .bin .geq .i (.t 24) (.t 25)⟩,
         ⟨(some 27), none, .pick (.t 21) (.t 26) (.k (V.b false))⟩] [1, 2, 3, 6, 8, 9, 27])
      (.cond (.t 27)
       (.seq (.reg none [⟨(some 28), none, .ld true 2 (.t 9)⟩,
           ⟨none, none, .st 2 (.t 6) (.t 28)⟩,
           ⟨(some 7), none, .mv (.k (V.b true))⟩] [6, 7])
        (.ret))
       (.skip)))))
    (.reg none [⟨(some 12), none, .mv (.t 8)⟩,
      ⟨(some 13), none, .bin .add .i (.t 12) (.k (V.i 1))⟩,
      ⟨(some 8), none, .mv (.t 13)⟩] [1, 2, 3, 6, 8])))))
  (.seq (.reg none [⟨(some 29), none, .bld [.r (.v (.int .i64 0)), .r (.v (.int .i64 0))] []⟩,
     ⟨none, none, .st 2 (.t 6) (.t 29)⟩,
     ⟨(some 7), none, .mv (.k (V.b false))⟩] [6, 7])
  (.ret)))
def rv156 : List RV := [.c 6 true 2, .t 7]
open Go.Proofs Go.IntWalk
set_option linter.unusedVariables false
set_option maxRecDepth 100000
set_option maxHeartbeats 4000000
def I_next_l1 (g : G) (t : TE) (a0 : Network) (a1 : Int) (a2 : Int) : Nat → Int → Option (LR (Trip × Bool) Unit)
  | 0, v1 =>
    some (LR.out ())
  | n1 + 1, v1 =>
    cl (I_runs g t a0 a1 v1) fun x1 =>
    br x1
    (
     cl (I_starts g t a0 (Trip.mk a1 v1)) fun x2 =>
     br (g.le a2 x2)
     (
      some (LR.ret (((Trip.mk a1 v1), true))))
     (
      I_next_l1 g t a0 a1 a2 n1 (g.wrap .i64 (g.add v1 1))))
    (
     I_next_l1 g t a0 a1 a2 n1 (g.wrap .i64 (g.add v1 1)))
def I_next (g : G) (t : TE) (a0 : Network) (a1 : Int) (a2 : Int) : Option (Trip × Bool) :=
  cl (I_next_l1 g t a0 a1 a2 (cntLe 0 60) 0) fun o1 => lr o1 fun y1 =>
  some (((Trip.mk 0 0), false))
theorem fit156 : codeFit Try.prog Try.f156.ntmps (Try.f156.body.getD .skip) ir156 = true := by kernel_rfl
theorem c_I_next {g : G} {t : TE} {a0 : Network} {a1 : Int} {a2 : Int} {r : Trip × Bool} (hg : g = G.real) (ht : t = TE.real) (h : I_next g t a0 a1 a2 = some r) : Fn Try.prog 156 [.g (Network.rs t a0), .c (.v (.int .i64 a1)), .c (.v (.int .i64 a2))] (.u [.g (Trip.ds t r.1), .c (.r (.v (.bool r.2)))]) := by
  obtain ⟨X, hX⟩ := hide (.u [.g (Trip.ds t r.1), .c (.r (.v (.bool r.2)))] : X)
  rw [← hX]
  refine fn_of (rvs := rv156) (j := ir156) Try.func156 rfl fit156 (Nat.le_of_ble_eq_true rfl) (by kernel_rfl) prog_mixed ?_
  intro g2 F hg2 hF
  obtain rfl : g2 = g := hg2.unique.trans hg.symm
  clear hg2
  obtain ⟨wrap, lt, le, eq, quo, rem, band, bor, bxor, shl, shr, nat, int, add, sub, mul, cat, seq, slt, sub3, byte, llen, nadd, nsub, dlen, dapp, dset, drep, rd, rda, up, rsub, dsub, all, sle, slen⟩ := g2
  obtain ⟨r_S, d_S, r_Trip, d_Trip, r_Leg, d_Leg, r_I64, d_I64, r_Order, d_Order, r_Booking, d_Booking, r_Scan, d_Scan, r_U8, d_U8, r_LI64, d_LI64⟩ := t
  obtain ⟨a0_Legs, a0_Off, a0_Change⟩ := a0
  unfold I_next at h
  try dsimp only at h
  cbv
  obtain ⟨o1, ho1, h⟩ := of_cl h
  try dsimp only at h
  try rw [hg] at ho1
  try rw [ht] at ho1
  refine ABL.mk { p : Nat × Int // p.1 = cntLe p.2 60 ∧ 0 ≤ p.2 ∧ I_next_l1 G.real TE.real (Network.mk a0_Legs a0_Off a0_Change) a1 a2 p.1 p.2 = some o1 } (fun ⟨⟨n1, v1⟩, _⟩ => ({ sl := [(1, .c (.r (.v (.int .i64 a1)))), (2, .c (.r (.v (.int .i64 a2)))), (3, .c (.p 0 3 0 0)), (6, .c (.p 1 2 0 0)), (8, .c (.r (.v (.int .i64 v1))))], tab := [(0, some (.foc 3 [] [.r (.s 6 (r_Leg a0_Legs)), .r (.s 1 (r_I64 a0_Off)), .r (.v (.int .i64 a0_Change))] [])), (1, some (.foc 2 [] [.r (.v (.int .i64 0)), .r (.v (.int .i64 0))] []))] } : St)) 2 (fun p => p.1.1) ⟨(cntLe 0 60, 0), rfl, Int.le_refl _, ho1⟩ (Unit) (fun _ => ({ sl := [(6, .c (.p 0 2 0 0))], tab := [(0, some (.foc 2 [] [.r (.v (.int .i64 0)), .r (.v (.int .i64 0))] []))] } : St)) 1 (fun y => o1 = LR.out y) ?_ ?_ ?_
  · refine Wk.of [(0, some 0), (1, some 16)] rfl rfl ?_ ?_
    · cbv
      all_goals exact ⟨⟨_, rfl, rfl⟩, ⟨_, rfl, rfl⟩, ⟨_, rfl, rfl⟩, ⟨_, rfl, rfl⟩, ⟨_, rfl, rfl⟩, trivial⟩
    · cbv
      all_goals exact ⟨⟨_, rfl, _, rfl, rfl, rfl, rfl, trivial⟩, ⟨_, rfl, _, rfl, rfl, rfl, trivial⟩, trivial⟩
  · rintro ⟨⟨n1, v1⟩, hn1, hi1, h_1⟩ hq1
    try dsimp only at hn1 hi1 h_1
    clear hq1
    cbv
    rcases n1 with _ | n1
    · have hb1 : le v1 60 = false := leC_false hg hn1
      rw [I_next_l1] at h_1
      try rw [← hg] at h_1
      try rw [← ht] at h_1
      try dsimp only at h_1
      rw [hb1]
      cbv
      refine ⟨(), Wk.of [(0, some 1)] rfl rfl ?_ ?_, (Option.some.inj h_1).symm⟩
      · cbv
        all_goals exact ⟨⟨_, rfl, rfl⟩, trivial⟩
      · cbv
        all_goals exact ⟨⟨_, rfl, _, rfl, rfl, rfl, trivial⟩, trivial⟩
    · have hb1 : le v1 60 = true := leC_true hg hn1
      have hl1 := leC_le hn1
      have hs1 := stepleC hg hn1 hi1 (by decide) (by decide)
      rw [I_next_l1] at h_1
      try rw [← hg] at h_1
      try rw [← ht] at h_1
      try dsimp only at h_1
      rw [hb1]
      cbv
      obtain ⟨x1, hx1, h_1⟩ := of_cl h_1
      try dsimp only at h_1
      refine ACall.mk _ _ rfl (hF _ _ _ (c_I_runs hg ht hx1)) (.inl rfl) (Nat.le_of_ble_eq_true rfl) ?_
      cbv
      cases hb2 : x1 with
      | true =>
        rw [br_true hb2] at h_1
        cbv
        try (rw [hb2]; cbv)
        try (rw [hb2]; cbv)
        obtain ⟨x2, hx2, h_1⟩ := of_cl h_1
        try dsimp only at h_1
        refine ACall.mk _ _ rfl (hF _ _ _ (c_I_starts hg ht hx2)) (.inl rfl) (Nat.le_of_ble_eq_true rfl) ?_
        cbv
        try (rw [hb2]; cbv)
        try (rw [hb2]; cbv)
        try (rw [hb2]; cbv)
        cases hb3 : (le a2 x2) with
        | true =>
          rw [br_true hb3] at h_1
          cbv
          obtain rfl := Option.some.inj h_1
          try dsimp only [lr, lrL, lrp, lrpL] at h
          obtain rfl := Option.some.inj h
          exact ARet.mk trivial hX.symm
        | false =>
          rw [br_false hb3] at h_1
          cbv
          try rw [hg] at h_1
          try rw [ht] at h_1
          refine ⟨⟨(n1, (wrap .i64 (add v1 1))), hs1.1, hs1.2, h_1⟩, Wk.of [(0, some 0), (1, some 1)] rfl rfl ?_ ?_, Nat.lt_succ_self _⟩
          · cbv
            all_goals exact ⟨⟨_, rfl, rfl⟩, ⟨_, rfl, rfl⟩, ⟨_, rfl, rfl⟩, ⟨_, rfl, rfl⟩, ⟨_, rfl, rfl⟩, trivial⟩
          · cbv
            all_goals exact ⟨⟨_, rfl, _, rfl, rfl, rfl, rfl, trivial⟩, ⟨_, rfl, _, rfl, rfl, rfl, trivial⟩, trivial⟩
      | false =>
        rw [br_false hb2] at h_1
        cbv
        try (rw [hb2]; cbv)
        try (rw [hb2]; cbv)
        try (rw [hb2]; cbv)
        try (rw [hb2]; cbv)
        try (rw [hb2]; cbv)
        try rw [hg] at h_1
        try rw [ht] at h_1
        refine ⟨⟨(n1, (wrap .i64 (add v1 1))), hs1.1, hs1.2, h_1⟩, Wk.of [(0, some 0), (1, some 1)] rfl rfl ?_ ?_, Nat.lt_succ_self _⟩
        · cbv
          all_goals exact ⟨⟨_, rfl, rfl⟩, ⟨_, rfl, rfl⟩, ⟨_, rfl, rfl⟩, ⟨_, rfl, rfl⟩, ⟨_, rfl, rfl⟩, trivial⟩
        · cbv
          all_goals exact ⟨⟨_, rfl, _, rfl, rfl, rfl, rfl, trivial⟩, ⟨_, rfl, _, rfl, rfl, rfl, trivial⟩, trivial⟩
  · rintro _ hy1
    replace hy1 := hy1.symm
    subst hy1
    try dsimp only [lr, lrL, lrp, lrpL] at h
    cbv
    obtain rfl := Option.some.inj h
    exact ARet.mk trivial hX.symm
end Go.Vs
namespace Go.Vs
set_option maxRecDepth 100000
def ir169 : J :=
  .seq (.reg none [⟨(some 3), none, .box (.t 0)⟩,
     ⟨(some 6), none, .mv (.k (V.i 0))⟩] [1, 2, 3])
  (.seq (.seq (.reg none [⟨(some 7), none, .mv (.k (V.i 0))⟩] [1, 2, 3, 7])
   (.bl 0 (.seq (.seq (.reg none [⟨(some 8), none, .mv (.t 7)⟩,
        ⟨(some 9), none, .bin .leq .i (.t 8) (.k (V.i 60))⟩] [1, 2, 3, 7, 9])
     (.cond (.t 9)
      (.skip)
      (.exit 0)))
    (.seq (.block 1 (.seq (.reg none [⟨(some 12), none, .ld true 3 (.t 3)⟩,
         ⟨(some 13), none, .mv (.t 1)⟩,
         ⟨(some 14), none, .mv (.t 7)⟩,
         ⟨(some 15), none, .call 134 true [(.t 12), (.t 13), (.t 14)]⟩,
         ⟨(some 16), none, .mv (.t 15)⟩,
         ⟨(some 17), (some (16, true)), .ld true 3 (.t 3)⟩,
         ⟨(some 18), (some (16, true)), .mv (.t 1)⟩,
         ⟨(some 19), (some (16, true)), .mv (.t 7)⟩,
         ⟨(some 20), (some (16, true)), .bld [.r (.v (.int .i64 0)), .r (.v (.int .i64 0))] [(0, 1, (.t 18)), (1, 1, (.t 19))]⟩,
         ⟨(some 21), (some (16, true)), .call 84 true [(.t 17), (.t 20)]⟩,
         ⟨(some 22), (some (16, true)), .mv (.t 2)⟩,
         ⟨(some 23), (some (16, true)), .bin .geq .i (.t 21) (.t 22)⟩,
         ⟨(some 24), none, .pick (.t 16) (.t 23) (.k (V.b false))⟩] [1, 2, 3, 7, 24])
      (.cond (.t 24)
       (.seq (.reg none [⟨(some 25), none, .mv (.t 7)⟩,
           ⟨(some 6), none, .mv (.t 25)⟩] [6])
        (.ret))
       (.skip))))
    (.reg none [⟨(some 10), none, .mv (.t 7)⟩,
      ⟨(some 11), none, .bin .add .i (.t 10) (.k (V.i 1))⟩,
      ⟨(some 7), none, .mv (.t 11)⟩] [1, 2, 3, 7])))))
  (.seq (.reg none [⟨(some 6), none, .mv (.k (V.i (-1)))⟩] [6])
  (.ret)))
def rv169 : List RV := [.t 6]
open Go.Proofs Go.IntWalk
set_option linter.unusedVariables false
set_option maxRecDepth 100000
set_option maxHeartbeats 4000000
def S_l3Next_l1 (g : G) (t : TE) (a0 : Network) (a1 : Int) (a2 : Int) : Nat → Int → Option (LR Int Unit)
  | 0, v1 =>
    some (LR.out ())
  | n1 + 1, v1 =>
    cl (S_l3Runs g t a0 a1 v1) fun x1 =>
    br x1
    (
     cl (S_l3Starts g t a0 (Trip.mk a1 v1)) fun x2 =>
     br (g.le a2 x2)
     (
      some (LR.ret v1))
     (
      S_l3Next_l1 g t a0 a1 a2 n1 (g.wrap .i64 (g.add v1 1))))
    (
     S_l3Next_l1 g t a0 a1 a2 n1 (g.wrap .i64 (g.add v1 1)))
def S_l3Next (g : G) (t : TE) (a0 : Network) (a1 : Int) (a2 : Int) : Option Int :=
  cl (S_l3Next_l1 g t a0 a1 a2 (cntLe 0 60) 0) fun o1 => lr o1 fun y1 =>
  some (-1)
theorem fit169 : codeFit Try.prog Try.f169.ntmps (Try.f169.body.getD .skip) ir169 = true := by kernel_rfl
theorem c_S_l3Next {g : G} {t : TE} {a0 : Network} {a1 : Int} {a2 : Int} {r : Int} (hg : g = G.real) (ht : t = TE.real) (h : S_l3Next g t a0 a1 a2 = some r) : Fn Try.prog 169 [.g (Network.rs t a0), .c (.v (.int .i64 a1)), .c (.v (.int .i64 a2))] (.c (.r (.v (.int .i64 r)))) := by
  obtain ⟨X, hX⟩ := hide (.c (.r (.v (.int .i64 r))) : X)
  rw [← hX]
  refine fn_of (rvs := rv169) (j := ir169) Try.func169 rfl fit169 (Nat.le_of_ble_eq_true rfl) (by kernel_rfl) prog_mixed ?_
  intro g2 F hg2 hF
  obtain rfl : g2 = g := hg2.unique.trans hg.symm
  clear hg2
  obtain ⟨wrap, lt, le, eq, quo, rem, band, bor, bxor, shl, shr, nat, int, add, sub, mul, cat, seq, slt, sub3, byte, llen, nadd, nsub, dlen, dapp, dset, drep, rd, rda, up, rsub, dsub, all, sle, slen⟩ := g2
  obtain ⟨r_S, d_S, r_Trip, d_Trip, r_Leg, d_Leg, r_I64, d_I64, r_Order, d_Order, r_Booking, d_Booking, r_Scan, d_Scan, r_U8, d_U8, r_LI64, d_LI64⟩ := t
  obtain ⟨a0_Legs, a0_Off, a0_Change⟩ := a0
  unfold S_l3Next at h
  try dsimp only at h
  cbv
  obtain ⟨o1, ho1, h⟩ := of_cl h
  try dsimp only at h
  try rw [hg] at ho1
  try rw [ht] at ho1
  refine ABL.mk { p : Nat × Int // p.1 = cntLe p.2 60 ∧ 0 ≤ p.2 ∧ S_l3Next_l1 G.real TE.real (Network.mk a0_Legs a0_Off a0_Change) a1 a2 p.1 p.2 = some o1 } (fun ⟨⟨n1, v1⟩, _⟩ => ({ sl := [(1, .c (.r (.v (.int .i64 a1)))), (2, .c (.r (.v (.int .i64 a2)))), (3, .c (.p 0 3 0 0)), (7, .c (.r (.v (.int .i64 v1))))], tab := [(0, some (.foc 3 [] [.r (.s 6 (r_Leg a0_Legs)), .r (.s 1 (r_I64 a0_Off)), .r (.v (.int .i64 a0_Change))] []))] } : St)) 1 (fun p => p.1.1) ⟨(cntLe 0 60, 0), rfl, Int.le_refl _, ho1⟩ (Unit) (fun _ => ({ sl := [], tab := [] } : St)) 0 (fun y => o1 = LR.out y) ?_ ?_ ?_
  · refine Wk.of [(0, some 0)] rfl rfl ?_ ?_
    · cbv
      all_goals exact ⟨⟨_, rfl, rfl⟩, ⟨_, rfl, rfl⟩, ⟨_, rfl, rfl⟩, ⟨_, rfl, rfl⟩, trivial⟩
    · cbv
      all_goals exact ⟨⟨_, rfl, _, rfl, rfl, rfl, rfl, trivial⟩, trivial⟩
  · rintro ⟨⟨n1, v1⟩, hn1, hi1, h_1⟩ hq1
    try dsimp only at hn1 hi1 h_1
    clear hq1
    cbv
    rcases n1 with _ | n1
    · have hb1 : le v1 60 = false := leC_false hg hn1
      rw [S_l3Next_l1] at h_1
      try rw [← hg] at h_1
      try rw [← ht] at h_1
      try dsimp only at h_1
      rw [hb1]
      cbv
      refine ⟨(), Wk.of [] rfl rfl ?_ ?_, (Option.some.inj h_1).symm⟩
      · cbv
        all_goals exact trivial
      · cbv
        all_goals exact trivial
    · have hb1 : le v1 60 = true := leC_true hg hn1
      have hl1 := leC_le hn1
      have hs1 := stepleC hg hn1 hi1 (by decide) (by decide)
      rw [S_l3Next_l1] at h_1
      try rw [← hg] at h_1
      try rw [← ht] at h_1
      try dsimp only at h_1
      rw [hb1]
      cbv
      obtain ⟨x1, hx1, h_1⟩ := of_cl h_1
      try dsimp only at h_1
      refine ACall.mk _ _ rfl (hF _ _ _ (c_S_l3Runs hg ht hx1)) (.inl rfl) (Nat.le_of_ble_eq_true rfl) ?_
      cbv
      cases hb2 : x1 with
      | true =>
        rw [br_true hb2] at h_1
        cbv
        try (rw [hb2]; cbv)
        try (rw [hb2]; cbv)
        try (rw [hb2]; cbv)
        try (rw [hb2]; cbv)
        obtain ⟨x2, hx2, h_1⟩ := of_cl h_1
        try dsimp only at h_1
        refine ACall.mk _ _ rfl (hF _ _ _ (c_S_l3Starts hg ht hx2)) (.inl rfl) (Nat.le_of_ble_eq_true rfl) ?_
        cbv
        try (rw [hb2]; cbv)
        try (rw [hb2]; cbv)
        try (rw [hb2]; cbv)
        cases hb3 : (le a2 x2) with
        | true =>
          rw [br_true hb3] at h_1
          cbv
          obtain rfl := Option.some.inj h_1
          try dsimp only [lr, lrL, lrp, lrpL] at h
          obtain rfl := Option.some.inj h
          exact ARet.mk trivial hX.symm
        | false =>
          rw [br_false hb3] at h_1
          cbv
          try rw [hg] at h_1
          try rw [ht] at h_1
          refine ⟨⟨(n1, (wrap .i64 (add v1 1))), hs1.1, hs1.2, h_1⟩, Wk.of [(0, some 0)] rfl rfl ?_ ?_, Nat.lt_succ_self _⟩
          · cbv
            all_goals exact ⟨⟨_, rfl, rfl⟩, ⟨_, rfl, rfl⟩, ⟨_, rfl, rfl⟩, ⟨_, rfl, rfl⟩, trivial⟩
          · cbv
            all_goals exact ⟨⟨_, rfl, _, rfl, rfl, rfl, rfl, trivial⟩, trivial⟩
      | false =>
        rw [br_false hb2] at h_1
        cbv
        try (rw [hb2]; cbv)
        try (rw [hb2]; cbv)
        try (rw [hb2]; cbv)
        try (rw [hb2]; cbv)
        try (rw [hb2]; cbv)
        try (rw [hb2]; cbv)
        try (rw [hb2]; cbv)
        try rw [hg] at h_1
        try rw [ht] at h_1
        refine ⟨⟨(n1, (wrap .i64 (add v1 1))), hs1.1, hs1.2, h_1⟩, Wk.of [(0, some 0)] rfl rfl ?_ ?_, Nat.lt_succ_self _⟩
        · cbv
          all_goals exact ⟨⟨_, rfl, rfl⟩, ⟨_, rfl, rfl⟩, ⟨_, rfl, rfl⟩, ⟨_, rfl, rfl⟩, trivial⟩
        · cbv
          all_goals exact ⟨⟨_, rfl, _, rfl, rfl, rfl, rfl, trivial⟩, trivial⟩
  · rintro _ hy1
    replace hy1 := hy1.symm
    subst hy1
    try dsimp only [lr, lrL, lrp, lrpL] at h
    cbv
    obtain rfl := Option.some.inj h
    exact ARet.mk trivial hX.symm
end Go.Vs
