/- Part of the proofs of this seat's laws: Lah. No condition. -/
import Derived.Test.YtieeagobedjogaaTy
import Derived.Test.YtieeagobedjogaaTIRall
import Derived.Test.YtieeagobedjogaaLab
import Derived.Test.YtieeagobedjogaaLaa
set_option linter.unusedVariables false
set_option linter.unusedSimpArgs false
set_option linter.unusedSectionVars false
namespace Go.Vs
set_option maxRecDepth 100000
def ir42 : J :=
  .seq (.reg none [⟨(some 3), none, .box (.t 0)⟩,
     ⟨(some 6), none, .mv (.k (V.i 0))⟩] [1, 2, 3])
  (.seq (.seq (.reg none [⟨(some 8), none, .ld true 5 (.t 3)⟩,
      ⟨(some 9), none, .call 31 true [(.t 8)]⟩,
      ⟨(some 10), none, .not (.t 9)⟩,
      ⟨(some 11), none, .mv (.t 10)⟩,
      ⟨(some 12), (some (11, false)), .mv (.t 1)⟩,
      ⟨(some 13), (some (11, false)), .fa 0 (.t 3)⟩,
      ⟨(some 14), (some (11, false)), .ld false 1 (.t 13)⟩,
      ⟨(some 15), (some (11, false)), .len false (.t 14)⟩,
      ⟨(some 16), (some (11, false)), .bin .sub .i (.t 15) (.k (V.i 1))⟩,
      ⟨(some 17), (some (11, false)), .call 85 true [(.t 12), (.k (V.i 0)), (.t 16)]⟩,
      ⟨(some 18), (some (11, false)), .not (.t 17)⟩,
      ⟨(some 19), none, .pick (.t 11) (.k (V.b true)) (.t 18)⟩,
      ⟨(some 20), none, .mv (.t 19)⟩,
      ⟨(some 21), (some (20, false)), .mv (.t 2)⟩,
      ⟨(some 22), (some (20, false)), .fa 1 (.t 3)⟩,
      ⟨(some 23), (some (20, false)), .ld false 1 (.t 22)⟩,
      ⟨(some 24), (some (20, false)), .len false (.t 23)⟩,
      ⟨(some 25), (some (20, false)), .bin .sub .i (.t 24) (.k (V.i 1))⟩,
      ⟨(some 26), (some (20, false)), .call 85 true [(.t 21), (.k (V.i 0)), (.t 25)]⟩,
      ⟨(some 27), (some (20, false)), .not (.t 26)⟩,
      ⟨(some 28), none, .pick (.t 20) (.k (V.b true)) (.t 27)⟩] [1, 2, 3, 28])
   (.cond (.t 28)
    (.seq (.reg none [⟨(some 6), none, .mv (.k (V.i (-1)))⟩] [6])
     (.ret))
    (.skip)))
  (.seq (.reg none [⟨(some 29), none, .fa 1 (.t 3)⟩,
     ⟨(some 30), none, .ld false 1 (.t 29)⟩,
     ⟨(some 31), none, .mv (.t 2)⟩,
     ⟨(some 32), none, .ia 3 (.t 30) (.t 31)⟩,
     ⟨(some 33), none, .fa 0 (.t 32)⟩,
     ⟨(some 34), none, .ld false 1 (.t 33)⟩,
     ⟨(some 35), none, .mv (.t 1)⟩,
     ⟨(some 36), none, .bin .sub .i (.t 34) (.t 35)⟩,
     ⟨(some 7), none, .mv (.t 36)⟩] [3, 7])
  (.seq (.seq (.reg none [⟨(some 37), none, .mv (.t 7)⟩,
      ⟨(some 38), none, .bin .leq .i (.t 37) (.k (V.i 0))⟩] [3, 7, 38])
   (.cond (.t 38)
    (.seq (.reg none [⟨(some 39), none, .mv (.t 7)⟩,
        ⟨(some 40), none, .fa 0 (.t 3)⟩,
        ⟨(some 41), none, .ld false 1 (.t 40)⟩,
        ⟨(some 42), none, .len false (.t 41)⟩,
        ⟨(some 43), none, .bin .add .i (.t 39) (.t 42)⟩,
        ⟨(some 6), none, .mv (.t 43)⟩] [6])
     (.ret))
    (.skip)))
  (.seq (.reg none [⟨(some 44), none, .mv (.t 7)⟩,
     ⟨(some 6), none, .mv (.t 44)⟩] [6])
  (.ret)))))
def rv42 : List RV := [.t 6]
open Go.Proofs Go.IntWalk
set_option linter.unusedVariables false
set_option maxRecDepth 100000
set_option maxHeartbeats 4000000
def S_CellsTo (g : G) (t : TE) (a0 : Centre) (a1 : Int) (a2 : Int) : Option Int :=
  cl (S_IsCentre g t a0) fun x1 =>
  br x1
  (
   lP (S_l1In g t a1 0 (g.wrap .i64 (g.sub (g.llen (t.r_Item a0.Belt)) 1))) fun x2 =>
   br x2
   (
    lP (S_l1In g t a2 0 (g.wrap .i64 (g.sub (g.llen (t.r_Chute a0.Chutes)) 1))) fun x3 =>
    br x3
    (
     gd ((0 ≤ a2)) <|
     gt a0.Chutes (g.nat a2) fun x4 =>
     br (g.le (g.wrap .i64 (g.sub x4.Cell a1)) 0)
     (
      some (g.wrap .i64 (g.add (g.wrap .i64 (g.sub x4.Cell a1)) (g.llen (t.r_Item a0.Belt)))))
     (
      some (g.wrap .i64 (g.sub x4.Cell a1))))
    (
     some (-1)))
   (
    some (-1)))
  (
   some (-1))
theorem fit42 : codeFit Try.prog Try.f42.ntmps (Try.f42.body.getD .skip) ir42 = true := by kernel_rfl
theorem c_S_CellsTo {g : G} {t : TE} {a0 : Centre} {a1 : Int} {a2 : Int} {r : Int} (hg : g = G.real) (ht : t = TE.real) (h : S_CellsTo g t a0 a1 a2 = some r) : Fn Try.prog 42 [.g (Centre.rs t a0), .c (.v (.int .i64 a1)), .c (.v (.int .i64 a2))] (.c (.r (.v (.int .i64 r)))) := by
  obtain ⟨X, hX⟩ := hide (.c (.r (.v (.int .i64 r))) : X)
  rw [← hX]
  refine fn_of (rvs := rv42) (j := ir42) Try.func42 rfl fit42 (Nat.le_of_ble_eq_true rfl) (by kernel_rfl) prog_mixed ?_
  intro g2 F hg2 hF
  obtain rfl : g2 = g := hg2.unique.trans hg.symm
  clear hg2
  obtain ⟨wrap, lt, le, eq, quo, rem, band, bor, bxor, shl, shr, nat, int, add, sub, mul, cat, seq, slt, sub3, byte, llen, nadd, nsub, dlen, dapp, dset, drep, rd, rda, up, rsub, dsub, all, sle, slen, hasI, putI, hasS, putS, imin, imax, fzc⟩ := g2
  obtain ⟨r_Item, d_Item, r_Chute, d_Chute, r_Inlet, d_Inlet, r_I64, d_I64, r_U8, d_U8⟩ := t
  obtain ⟨a0_Belt, a0_Chutes, a0_Inlets, a0_Plan, a0_Now⟩ := a0
  unfold S_CellsTo at h
  try dsimp only at h
  cbv
  obtain ⟨x1, hx1, h⟩ := of_cl h
  try dsimp only at h
  refine ACall.mk _ _ rfl (hF _ _ _ (c_S_IsCentre hg ht hx1)) (.inl rfl) (Nat.le_of_ble_eq_true rfl) ?_
  cbv
  cases hb1 : x1 with
  | true =>
    rw [br_true hb1] at h
    cbv
    try (rw [hb1]; cbv)
    try (rw [hb1]; cbv)
    try (rw [hb1]; cbv)
    try (rw [hb1]; cbv)
    try (rw [hb1]; cbv)
    obtain ⟨x2, hx2, h⟩ := of_lP h
    try dsimp only at h
    refine ACall.mk _ _ rfl (hF _ _ _ (c_S_l1In hg ht hx2)) (.inl rfl) (Nat.le_of_ble_eq_true rfl) ?_
    cbv
    try (rw [hb1]; cbv)
    try (rw [hb1]; cbv)
    cases hb2 : x2 with
    | true =>
      rw [br_true hb2] at h
      cbv
      try (rw [hb2]; cbv)
      try (rw [hb2]; cbv)
      try (rw [hb2]; cbv)
      try (rw [hb2]; cbv)
      try (rw [hb2]; cbv)
      obtain ⟨x3, hx3, h⟩ := of_lP h
      try dsimp only at h
      refine ACall.mk _ _ rfl (hF _ _ _ (c_S_l1In hg ht hx3)) (.inl rfl) (Nat.le_of_ble_eq_true rfl) ?_
      cbv
      try (rw [hb2]; cbv)
      try (rw [hb2]; cbv)
      cases hb3 : x3 with
      | true =>
        rw [br_true hb3] at h
        cbv
        obtain ⟨hc1, h⟩ := of_gd h
        refine AStep.mk hc1 ?_
        cbv
        obtain ⟨x4, hx4, h⟩ := of_gt h
        obtain ⟨x4_Cell, x4_Room, x4_Held⟩ := x4
        try dsimp only at h
        refine AGet.mk _ (r_get_Chute hg ht hx4) ?_
        cbv
        cases hb4 : (le (wrap .i64 (sub x4_Cell a1)) 0) with
        | true =>
          rw [br_true hb4] at h
          cbv
          obtain rfl := Option.some.inj h
          exact ARet.mk trivial hX.symm
        | false =>
          rw [br_false hb4] at h
          cbv
          obtain rfl := Option.some.inj h
          exact ARet.mk trivial hX.symm
      | false =>
        rw [br_false hb3] at h
        cbv
        obtain rfl := Option.some.inj h
        exact ARet.mk trivial hX.symm
    | false =>
      rw [br_false hb2] at h
      cbv
      try (rw [hb2]; cbv)
      try (rw [hb2]; cbv)
      try (rw [hb2]; cbv)
      try (rw [hb2]; cbv)
      try (rw [hb2]; cbv)
      try (rw [hb2]; cbv)
      try (rw [hb2]; cbv)
      obtain rfl := Option.some.inj h
      exact ARet.mk trivial hX.symm
  | false =>
    rw [br_false hb1] at h
    cbv
    try (rw [hb1]; cbv)
    try (rw [hb1]; cbv)
    try (rw [hb1]; cbv)
    try (rw [hb1]; cbv)
    try (rw [hb1]; cbv)
    try (rw [hb1]; cbv)
    try (rw [hb1]; cbv)
    obtain rfl := Option.some.inj h
    exact ARet.mk trivial hX.symm
end Go.Vs
namespace Go.Vs
set_option maxRecDepth 100000
def ir43 : J :=
  .seq (.reg none [⟨(some 3), none, .box (.t 0)⟩,
     ⟨(some 6), none, .mv (.k (V.i 0))⟩] [1, 2, 3])
  (.seq (.reg none [⟨(some 9), none, .fa 0 (.t 3)⟩,
     ⟨(some 10), none, .ld false 1 (.t 9)⟩,
     ⟨(some 11), none, .len false (.t 10)⟩,
     ⟨(some 7), none, .mv (.t 11)⟩] [1, 2, 3, 7])
  (.seq (.seq (.reg none [⟨(some 12), none, .ld true 5 (.t 3)⟩,
      ⟨(some 13), none, .call 32 true [(.t 12)]⟩,
      ⟨(some 14), none, .not (.t 13)⟩,
      ⟨(some 15), none, .mv (.t 14)⟩,
      ⟨(some 16), (some (15, false)), .mv (.t 1)⟩,
      ⟨(some 17), (some (15, false)), .bin .lss .i (.t 16) (.k (V.i 0))⟩,
      ⟨(some 18), none, .pick (.t 15) (.k (V.b true)) (.t 17)⟩,
      ⟨(some 19), none, .mv (.t 18)⟩,
      ⟨(some 20), (some (19, false)), .mv (.t 1)⟩,
      ⟨(some 21), (some (19, false)), .mv (.t 7)⟩,
      ⟨(some 22), (some (19, false)), .bin .geq .i (.t 20) (.t 21)⟩,
      ⟨(some 23), none, .pick (.t 19) (.k (V.b true)) (.t 22)⟩,
      ⟨(some 24), none, .mv (.t 23)⟩,
      ⟨(some 25), (some (24, false)), .mv (.t 2)⟩,
      ⟨(some 26), (some (24, false)), .bin .lss .i (.t 25) (.k (V.i 0))⟩,
      ⟨(some 27), none, .pick (.t 24) (.k (V.b true)) (.t 26)⟩,
      ⟨(some 28), none, .mv (.t 27)⟩,
      ⟨(some 29), (some (28, false)), .mv (.t 2)⟩,
      ⟨(some 30), (some (28, false)), .fa 1 (.t 3)⟩,
      ⟨(some 31), (some (28, false)), .ld false 1 (.t 30)⟩,
      ⟨(some 32), (some (28, false)), .len false (.t 31)⟩,
      ⟨(some 33), (some (28, false)), .bin .geq .i (.t 29) (.t 32)⟩,
      ⟨(some 34), none, .pick (.t 28) (.k (V.b true)) (.t 33)⟩] [1, 2, 3, 7, 34])
   (.cond (.t 34)
    (.seq (.reg none [⟨(some 6), none, .mv (.k (V.i (-1)))⟩] [6])
     (.ret))
    (.skip)))
  (.seq (.reg none [⟨(some 35), none, .fa 1 (.t 3)⟩,
     ⟨(some 36), none, .ld false 1 (.t 35)⟩,
     ⟨(some 37), none, .mv (.t 2)⟩,
     ⟨(some 38), none, .ia 3 (.t 36) (.t 37)⟩,
     ⟨(some 39), none, .fa 0 (.t 38)⟩,
     ⟨(some 40), none, .ld false 1 (.t 39)⟩,
     ⟨(some 41), none, .mv (.t 1)⟩,
     ⟨(some 42), none, .bin .sub .i (.t 40) (.t 41)⟩,
     ⟨(some 43), none, .mv (.t 7)⟩,
     ⟨(some 44), none, .bin .add .i (.t 42) (.t 43)⟩,
     ⟨(some 45), none, .mv (.t 7)⟩,
     ⟨(some 46), none, .bin .rem .i (.t 44) (.t 45)⟩,
     ⟨(some 8), none, .mv (.t 46)⟩] [7, 8])
  (.seq (.seq (.reg none [⟨(some 47), none, .mv (.t 8)⟩,
      ⟨(some 48), none, .bin .eql .i (.t 47) (.k (V.i 0))⟩] [7, 8, 48])
   (.cond (.t 48)
    (.seq (.reg none [⟨(some 49), none, .mv (.t 7)⟩,
        ⟨(some 6), none, .mv (.t 49)⟩] [6])
     (.ret))
    (.skip)))
  (.seq (.reg none [⟨(some 50), none, .mv (.t 8)⟩,
     ⟨(some 6), none, .mv (.t 50)⟩] [6])
  (.ret))))))
def rv43 : List RV := [.t 6]
open Go.Proofs Go.IntWalk
set_option linter.unusedVariables false
set_option maxRecDepth 100000
set_option maxHeartbeats 4000000
def I_CellsTo (g : G) (t : TE) (a0 : Centre) (a1 : Int) (a2 : Int) : Option Int :=
  cl (I_IsCentre g t a0) fun x1 =>
  br x1
  (
   br (g.lt a1 0)
   (
    some (-1))
   (
    br (g.le (g.llen (t.r_Item a0.Belt)) a1)
    (
     some (-1))
    (
     br (g.lt a2 0)
     (
      some (-1))
     (
      br (g.le (g.llen (t.r_Chute a0.Chutes)) a2)
      (
       some (-1))
      (
       gd ((0 ≤ a2)) <|
       gt a0.Chutes (g.nat a2) fun x2 =>
       gd (((g.llen (t.r_Item a0.Belt)) ≠ 0)) <|
       br (g.eq (g.rem (g.wrap .i64 (g.add (g.wrap .i64 (g.sub x2.Cell a1)) (g.llen (t.r_Item a0.Belt)))) (g.llen (t.r_Item a0.Belt))) 0)
       (
        some (g.llen (t.r_Item a0.Belt)))
       (
        some (g.rem (g.wrap .i64 (g.add (g.wrap .i64 (g.sub x2.Cell a1)) (g.llen (t.r_Item a0.Belt)))) (g.llen (t.r_Item a0.Belt)))))))))
  (
   some (-1))
theorem fit43 : codeFit Try.prog Try.f43.ntmps (Try.f43.body.getD .skip) ir43 = true := by kernel_rfl
theorem c_I_CellsTo {g : G} {t : TE} {a0 : Centre} {a1 : Int} {a2 : Int} {r : Int} (hg : g = G.real) (ht : t = TE.real) (h : I_CellsTo g t a0 a1 a2 = some r) : Fn Try.prog 43 [.g (Centre.rs t a0), .c (.v (.int .i64 a1)), .c (.v (.int .i64 a2))] (.c (.r (.v (.int .i64 r)))) := by
  obtain ⟨X, hX⟩ := hide (.c (.r (.v (.int .i64 r))) : X)
  rw [← hX]
  refine fn_of (rvs := rv43) (j := ir43) Try.func43 rfl fit43 (Nat.le_of_ble_eq_true rfl) (by kernel_rfl) prog_mixed ?_
  intro g2 F hg2 hF
  obtain rfl : g2 = g := hg2.unique.trans hg.symm
  clear hg2
  obtain ⟨wrap, lt, le, eq, quo, rem, band, bor, bxor, shl, shr, nat, int, add, sub, mul, cat, seq, slt, sub3, byte, llen, nadd, nsub, dlen, dapp, dset, drep, rd, rda, up, rsub, dsub, all, sle, slen, hasI, putI, hasS, putS, imin, imax, fzc⟩ := g2
  obtain ⟨r_Item, d_Item, r_Chute, d_Chute, r_Inlet, d_Inlet, r_I64, d_I64, r_U8, d_U8⟩ := t
  obtain ⟨a0_Belt, a0_Chutes, a0_Inlets, a0_Plan, a0_Now⟩ := a0
  unfold I_CellsTo at h
  try dsimp only at h
  cbv
  obtain ⟨x1, hx1, h⟩ := of_cl h
  try dsimp only at h
  refine ACall.mk _ _ rfl (hF _ _ _ (c_I_IsCentre hg ht hx1)) (.inl rfl) (Nat.le_of_ble_eq_true rfl) ?_
  cbv
  cases hb1 : x1 with
  | true =>
    rw [br_true hb1] at h
    cbv
    try (rw [hb1]; cbv)
    try (rw [hb1]; cbv)
    cases hb2 : (lt a1 0) with
    | true =>
      rw [br_true hb2] at h
      cbv
      try (rw [hb2]; cbv)
      try (rw [hb2]; cbv)
      try (rw [hb2]; cbv)
      obtain rfl := Option.some.inj h
      exact ARet.mk trivial hX.symm
    | false =>
      rw [br_false hb2] at h
      cbv
      try (rw [hb2]; cbv)
      try (rw [hb2]; cbv)
      try (rw [hb2]; cbv)
      cases hb3 : (le (llen (r_Item a0_Belt)) a1) with
      | true =>
        rw [br_true hb3] at h
        cbv
        try (rw [hb3]; cbv)
        try (rw [hb3]; cbv)
        obtain rfl := Option.some.inj h
        exact ARet.mk trivial hX.symm
      | false =>
        rw [br_false hb3] at h
        cbv
        try (rw [hb3]; cbv)
        try (rw [hb3]; cbv)
        cases hb4 : (lt a2 0) with
        | true =>
          rw [br_true hb4] at h
          cbv
          try (rw [hb4]; cbv)
          try (rw [hb4]; cbv)
          try (rw [hb4]; cbv)
          try (rw [hb4]; cbv)
          try (rw [hb4]; cbv)
          obtain rfl := Option.some.inj h
          exact ARet.mk trivial hX.symm
        | false =>
          rw [br_false hb4] at h
          cbv
          try (rw [hb4]; cbv)
          try (rw [hb4]; cbv)
          try (rw [hb4]; cbv)
          try (rw [hb4]; cbv)
          try (rw [hb4]; cbv)
          cases hb5 : (le (llen (r_Chute a0_Chutes)) a2) with
          | true =>
            rw [br_true hb5] at h
            cbv
            obtain rfl := Option.some.inj h
            exact ARet.mk trivial hX.symm
          | false =>
            rw [br_false hb5] at h
            cbv
            obtain ⟨hc1, h⟩ := of_gd h
            refine AStep.mk hc1 ?_
            cbv
            obtain ⟨x2, hx2, h⟩ := of_gt h
            obtain ⟨x2_Cell, x2_Room, x2_Held⟩ := x2
            try dsimp only at h
            refine AGet.mk _ (r_get_Chute hg ht hx2) ?_
            cbv
            obtain ⟨hc2, h⟩ := of_gd h
            refine AStep.mk hc2 ?_
            cbv
            cases hb6 : (eq (rem (wrap .i64 (add (wrap .i64 (sub x2_Cell a1)) (llen (r_Item a0_Belt)))) (llen (r_Item a0_Belt))) 0) with
            | true =>
              rw [br_true hb6] at h
              cbv
              obtain rfl := Option.some.inj h
              exact ARet.mk trivial hX.symm
            | false =>
              rw [br_false hb6] at h
              cbv
              obtain rfl := Option.some.inj h
              exact ARet.mk trivial hX.symm
  | false =>
    rw [br_false hb1] at h
    cbv
    try (rw [hb1]; cbv)
    try (rw [hb1]; cbv)
    obtain rfl := Option.some.inj h
    exact ARet.mk trivial hX.symm
end Go.Vs
namespace Go.Vs
set_option maxRecDepth 100000
def ir8 : J :=
  .seq (.reg none [⟨(some 3), none, .box (.t 0)⟩,
     ⟨(some 6), none, .mv (.k (V.b false))⟩] [1, 2, 3])
  (.seq (.reg none [⟨(some 7), none, .mv (.k (V.i 1048576))⟩] [1, 2, 3, 7])
  (.seq (.reg none [⟨(some 11), none, .ld true 5 (.t 3)⟩,
     ⟨(some 12), none, .mv (.t 7)⟩,
     ⟨(some 13), none, .call 24 true [(.t 11), (.t 12)]⟩,
     ⟨(some 7), none, .mv (.t 13)⟩] [1, 2, 3, 7])
  (.seq (.seq (.reg none [⟨(some 14), none, .mv (.t 7)⟩,
      ⟨(some 15), none, .bin .lss .i (.t 14) (.k (V.i 0))⟩] [1, 2, 3, 15])
   (.cond (.t 15)
    (.seq (.reg none [⟨(some 6), none, .mv (.k (V.b true))⟩] [6])
     (.ret))
    (.skip)))
  (.seq (.reg none [⟨(some 16), none, .ld true 5 (.t 3)⟩,
     ⟨(some 17), none, .call 26 true [(.t 16)]⟩,
     ⟨(some 18), none, .mv (.t 1)⟩,
     ⟨(some 19), none, .mv (.t 2)⟩,
     ⟨(some 20), none, .call 42 true [(.t 17), (.t 18), (.t 19)]⟩,
     ⟨(some 8), none, .mv (.t 20)⟩] [1, 2, 3, 8])
  (.seq (.reg none [⟨(some 21), none, .ld true 5 (.t 3)⟩,
     ⟨(some 22), none, .call 26 true [(.t 21)]⟩,
     ⟨(some 9), none, .alloc [.n 2, .n 3, .n 2, .n 1, .r (.v (.int .i64 0))]⟩,
     ⟨none, none, .st 5 (.t 9) (.t 22)⟩] [1, 2, 3, 8, 9])
  (.seq (.reg none [⟨(some 23), none, .ld true 5 (.t 9)⟩,
     ⟨(some 24), none, .mv (.t 1)⟩,
     ⟨(some 25), none, .mv (.t 2)⟩,
     ⟨(some 26), none, .call 43 true [(.t 23), (.t 24), (.t 25)]⟩,
     ⟨(some 10), none, .mv (.t 26)⟩] [3, 8, 9, 10])
  (.seq (.seq (.reg none [⟨(some 27), none, .mv (.t 10)⟩,
      ⟨(some 28), none, .mv (.t 8)⟩,
      ⟨(some 29), none, .bin .neq .i (.t 27) (.t 28)⟩] [3, 9, 29])
   (.cond (.t 29)
    (.seq (.reg none [⟨(some 6), none, .mv (.k (V.b false))⟩] [6])
     (.ret))
    (.skip)))
  (.seq (.seq (.reg (some [[], [], [1], [0, 1, 2], [0, 1, 2, 3]]) [⟨(some 30), none, .ld true 5 (.t 9)⟩,
      ⟨(some 31), none, .ld true 5 (.t 3)⟩,
      ⟨(some 32), none, .call 26 true [(.t 31)]⟩,
      ⟨(some 33), none, .call 28 true [(.t 30), (.t 32)]⟩,
      ⟨(some 34), none, .not (.t 33)⟩] [34])
   (.cond (.t 34)
    (.seq (.reg none [⟨(some 6), none, .mv (.k (V.b false))⟩] [6])
     (.ret))
    (.skip)))
  (.seq (.reg none [⟨(some 6), none, .mv (.k (V.b true))⟩] [6])
  (.ret))))))))))
def rv8 : List RV := [.t 6]
open Go.Proofs Go.IntWalk
set_option linter.unusedVariables false
set_option maxRecDepth 100000
set_option maxHeartbeats 4000000
def L_FnExactCellsTo (g : G) (t : TE) (a0 : Centre) (a1 : Int) (a2 : Int) : Option Bool :=
  lP (L_szCentre g t a0 1048576) fun x1 =>
  br (g.lt x1 0)
  (
   some true)
  (
   cl (L_toCentre g t a0) fun x2 =>
   cl (S_CellsTo g t x2 a1 a2) fun x3 =>
   cl (L_toCentre g t a0) fun x4 =>
   cl (I_CellsTo g t x4 a1 a2) fun x5 =>
   br (g.eq x5 x3)
   (
    cl (L_toCentre g t a0) fun x6 =>
    cl (L_eqCentre g t x4 x6) fun x7 =>
    br x7
    (
     some true)
    (
     some false))
   (
    some false))
theorem fit8 : codeFit Try.prog Try.f8.ntmps (Try.f8.body.getD .skip) ir8 = true := by kernel_rfl
theorem c_L_FnExactCellsTo {g : G} {t : TE} {a0 : Centre} {a1 : Int} {a2 : Int} {r : Bool} (hg : g = G.real) (ht : t = TE.real) (h : L_FnExactCellsTo g t a0 a1 a2 = some r) : Fn Try.prog 8 [.g (Centre.rs t a0), .c (.v (.int .i64 a1)), .c (.v (.int .i64 a2))] (.c (.r (.v (.bool r)))) := by
  obtain ⟨X, hX⟩ := hide (.c (.r (.v (.bool r))) : X)
  rw [← hX]
  refine fn_of (rvs := rv8) (j := ir8) Try.func8 rfl fit8 (Nat.le_of_ble_eq_true rfl) (by kernel_rfl) prog_mixed ?_
  intro g2 F hg2 hF
  obtain rfl : g2 = g := hg2.unique.trans hg.symm
  clear hg2
  obtain ⟨wrap, lt, le, eq, quo, rem, band, bor, bxor, shl, shr, nat, int, add, sub, mul, cat, seq, slt, sub3, byte, llen, nadd, nsub, dlen, dapp, dset, drep, rd, rda, up, rsub, dsub, all, sle, slen, hasI, putI, hasS, putS, imin, imax, fzc⟩ := g2
  obtain ⟨r_Item, d_Item, r_Chute, d_Chute, r_Inlet, d_Inlet, r_I64, d_I64, r_U8, d_U8⟩ := t
  obtain ⟨a0_Belt, a0_Chutes, a0_Inlets, a0_Plan, a0_Now⟩ := a0
  unfold L_FnExactCellsTo at h
  try dsimp only at h
  cbv
  obtain ⟨x1, hx1, h⟩ := of_lP h
  try dsimp only at h
  refine ACall.mk _ _ rfl (hF _ _ _ (c_L_szCentre hg ht hx1)) (.inl rfl) (Nat.le_of_ble_eq_true rfl) ?_
  cbv
  cases hb1 : (lt x1 0) with
  | true =>
    rw [br_true hb1] at h
    cbv
    obtain rfl := Option.some.inj h
    exact ARet.mk trivial hX.symm
  | false =>
    rw [br_false hb1] at h
    cbv
    obtain ⟨x2, hx2, h⟩ := of_cl h
    obtain ⟨x2_Belt, x2_Chutes, x2_Inlets, x2_Plan, x2_Now⟩ := x2
    try dsimp only at h
    refine ACall.mk _ _ rfl (hF _ _ _ (c_L_toCentre hg ht hx2)) (.inl rfl) (Nat.le_of_ble_eq_true rfl) ?_
    cbv
    refine AStep.mk ⟨(lend_Item ht (dlen_Item hg ht _)), ⟨(lend_Chute ht (dlen_Chute hg ht _)), ⟨(lend_Inlet ht (dlen_Inlet hg ht _)), (lend_I64 ht (dlen_I64 hg ht _))⟩⟩⟩ ?_
    cbv
    obtain ⟨x3, hx3, h⟩ := of_cl h
    try dsimp only at h
    refine ACall.mk _ _ (by rw [show rd (d_Item x2_Belt) 0 (dlen (d_Item x2_Belt)) = r_Item x2_Belt from rdw_Item hg ht (dlen_Item hg ht _), show rd (d_Chute x2_Chutes) 0 (dlen (d_Chute x2_Chutes)) = r_Chute x2_Chutes from rdw_Chute hg ht (dlen_Chute hg ht _), show rd (d_Inlet x2_Inlets) 0 (dlen (d_Inlet x2_Inlets)) = r_Inlet x2_Inlets from rdw_Inlet hg ht (dlen_Inlet hg ht _), show rd (d_I64 x2_Plan) 0 (dlen (d_I64 x2_Plan)) = r_I64 x2_Plan from rdw_I64 hg ht (dlen_I64 hg ht _)]; try rfl) (hF _ _ _ (c_S_CellsTo hg ht hx3)) (.inr rfl) (Nat.le_of_ble_eq_true rfl) ?_
    cbv
    obtain ⟨x4, hx4, h⟩ := of_cl h
    obtain ⟨x4_Belt, x4_Chutes, x4_Inlets, x4_Plan, x4_Now⟩ := x4
    try dsimp only at h
    refine ACall.mk _ _ rfl (hF _ _ _ (c_L_toCentre hg ht hx4)) (.inl rfl) (Nat.le_of_ble_eq_true rfl) ?_
    cbv
    refine AStep.mk ⟨(lend_Item ht (dlen_Item hg ht _)), ⟨(lend_Chute ht (dlen_Chute hg ht _)), ⟨(lend_Inlet ht (dlen_Inlet hg ht _)), (lend_I64 ht (dlen_I64 hg ht _))⟩⟩⟩ ?_
    cbv
    obtain ⟨x5, hx5, h⟩ := of_cl h
    try dsimp only at h
    refine ACall.mk _ _ (by rw [show rd (d_Item x4_Belt) 0 (dlen (d_Item x4_Belt)) = r_Item x4_Belt from rdw_Item hg ht (dlen_Item hg ht _), show rd (d_Chute x4_Chutes) 0 (dlen (d_Chute x4_Chutes)) = r_Chute x4_Chutes from rdw_Chute hg ht (dlen_Chute hg ht _), show rd (d_Inlet x4_Inlets) 0 (dlen (d_Inlet x4_Inlets)) = r_Inlet x4_Inlets from rdw_Inlet hg ht (dlen_Inlet hg ht _), show rd (d_I64 x4_Plan) 0 (dlen (d_I64 x4_Plan)) = r_I64 x4_Plan from rdw_I64 hg ht (dlen_I64 hg ht _)]; try rfl) (hF _ _ _ (c_I_CellsTo hg ht hx5)) (.inr rfl) (Nat.le_of_ble_eq_true rfl) ?_
    cbv
    cases hb2 : (eq x5 x3) with
    | true =>
      rw [br_true hb2] at h
      cbv
      obtain ⟨x6, hx6, h⟩ := of_cl h
      obtain ⟨x6_Belt, x6_Chutes, x6_Inlets, x6_Plan, x6_Now⟩ := x6
      try dsimp only at h
      refine ACall.mk _ _ rfl (hF _ _ _ (c_L_toCentre hg ht hx6)) (.inl rfl) (Nat.le_of_ble_eq_true rfl) ?_
      cbv
      refine AStep.mk ⟨⟨(lend_Item ht (dlen_Item hg ht _)), ⟨(lend_Chute ht (dlen_Chute hg ht _)), ⟨(lend_Inlet ht (dlen_Inlet hg ht _)), (lend_I64 ht (dlen_I64 hg ht _))⟩⟩⟩, ⟨(lend_Item ht (dlen_Item hg ht _)), ⟨(lend_Chute ht (dlen_Chute hg ht _)), ⟨(lend_Inlet ht (dlen_Inlet hg ht _)), (lend_I64 ht (dlen_I64 hg ht _))⟩⟩⟩⟩ ?_
      cbv
      obtain ⟨x7, hx7, h⟩ := of_cl h
      try dsimp only at h
      refine ACall.mk _ _ (by rw [show rd (d_Item x4_Belt) 0 (dlen (d_Item x4_Belt)) = r_Item x4_Belt from rdw_Item hg ht (dlen_Item hg ht _), show rd (d_Chute x4_Chutes) 0 (dlen (d_Chute x4_Chutes)) = r_Chute x4_Chutes from rdw_Chute hg ht (dlen_Chute hg ht _), show rd (d_Inlet x4_Inlets) 0 (dlen (d_Inlet x4_Inlets)) = r_Inlet x4_Inlets from rdw_Inlet hg ht (dlen_Inlet hg ht _), show rd (d_I64 x4_Plan) 0 (dlen (d_I64 x4_Plan)) = r_I64 x4_Plan from rdw_I64 hg ht (dlen_I64 hg ht _), show rd (d_Item x6_Belt) 0 (dlen (d_Item x6_Belt)) = r_Item x6_Belt from rdw_Item hg ht (dlen_Item hg ht _), show rd (d_Chute x6_Chutes) 0 (dlen (d_Chute x6_Chutes)) = r_Chute x6_Chutes from rdw_Chute hg ht (dlen_Chute hg ht _), show rd (d_Inlet x6_Inlets) 0 (dlen (d_Inlet x6_Inlets)) = r_Inlet x6_Inlets from rdw_Inlet hg ht (dlen_Inlet hg ht _), show rd (d_I64 x6_Plan) 0 (dlen (d_I64 x6_Plan)) = r_I64 x6_Plan from rdw_I64 hg ht (dlen_I64 hg ht _)]; try rfl) (hF _ _ _ (c_L_eqCentre hg ht hx7)) (.inr rfl) (Nat.le_of_ble_eq_true rfl) ?_
      cbv
      cases hb3 : x7 with
      | true =>
        rw [br_true hb3] at h
        cbv
        obtain rfl := Option.some.inj h
        exact ARet.mk trivial hX.symm
      | false =>
        rw [br_false hb3] at h
        cbv
        obtain rfl := Option.some.inj h
        exact ARet.mk trivial hX.symm
    | false =>
      rw [br_false hb2] at h
      cbv
      obtain rfl := Option.some.inj h
      exact ARet.mk trivial hX.symm
end Go.Vs
