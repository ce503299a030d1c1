/- Part of the proofs of this seat's laws: Lae. No condition. -/
import Derived.Test.YtieeagobedjogaaTy
import Derived.Test.YtieeagobedjogaaTIRall
import Derived.Test.YtieeagobedjogaaLaa
import Derived.Test.YtieeagobedjogaaLab
import Derived.Test.YtieeagobedjogaaLac
set_option linter.unusedVariables false
set_option linter.unusedSimpArgs false
set_option linter.unusedSectionVars false
namespace Go.Vs
set_option maxRecDepth 100000
def ir43 : J :=
  .seq (.reg none [⟨(some 3), none, .box (.t 0)⟩,
     ⟨(some 6), none, .mv (.k (V.i 0))⟩] [1, 2, 3])
  (.seq (.reg none [⟨(some 9), none, .fa 0 (.t 3)⟩,
     ⟨(some 10), none, .ld false 1 (.t 9)⟩,
     ⟨(some 11), none, .len false (.t 10)⟩,
     ⟨(some 7), none, .mv (.t 11)⟩] [1, 2, 3, 7])
  (.seq (.seq (.reg none [⟨(some 12), none, .ld true 5 (.t 3)⟩,
      ⟨(some 13), none, .call 32 true [(.t 12)]⟩,
      ⟨(some 14), none, .not (.t 13)⟩,
      ⟨(some 15), none, .mv (.t 14)⟩,
      ⟨(some 16), (some (15, false)), .mv (.t 1)⟩,
      ⟨(some 17), (some (15, false)), .bin .lss .i (.t 16) (.k (V.i 0))⟩,
      ⟨(some 18), none, .pick (.t 15) (.k (V.b true)) (.t 17)⟩,
      ⟨(some 19), none, .mv (.t 18)⟩,
      ⟨(some 20), (some (19, false)), .mv (.t 1)⟩,
      ⟨(some 21), (some (19, false)), .mv (.t 7)⟩,
      ⟨(some 22), (some (19, false)), .bin .geq .i (.t 20) (.t 21)⟩,
      ⟨(some 23), none, .pick (.t 19) (.k (V.b true)) (.t 22)⟩,
      ⟨(some 24), none, .mv (.t 23)⟩,
      ⟨(some 25), (some (24, false)), .mv (.t 2)⟩,
      ⟨(some 26), (some (24, false)), .bin .lss .i (.t 25) (.k (V.i 0))⟩,
      ⟨(some 27), none, .pick (.t 24) (.k (V.b true)) (.t 26)⟩,
      ⟨(some 28), none, .mv (.t 27)⟩,
      ⟨(some 29), (some (28, false)), .mv (.t 2)⟩,
      ⟨(some 30), (some (28, false)), .fa 1 (.t 3)⟩,
      ⟨(some 31), (some (28, false)), .ld false 1 (.t 30)⟩,
      ⟨(some 32), (some (28, false)), .len false (.t 31)⟩,
      ⟨(some 33), (some (28, false)), .bin .geq .i (.t 29) (.t 32)⟩,
      ⟨(some 34), none, .pick (.t 28) (.k (V.b true)) (.t 33)⟩] [1, 2, 3, 7, 34])
   (.cond (.t 34)
    (.seq (.reg none [⟨(some 6), none, .mv (.k (V.i (-1)))⟩] [6])
     (.ret))
    (.skip)))
  (.seq (.reg none [⟨(some 35), none, .fa 1 (.t 3)⟩,
     ⟨(some 36), none, .ld false 1 (.t 35)⟩,
     ⟨(some 37), none, .mv (.t 2)⟩,
     ⟨(some 38), none, .ia 3 (.t 36) (.t 37)⟩,
     ⟨(some 39), none, .fa 0 (.t 38)⟩,
     ⟨(some 40), none, .ld false 1 (.t 39)⟩,
     ⟨(some 41), none, .mv (.t 1)⟩,
     ⟨(some 42), none, .bin .sub .i (.t 40) (.t 41)⟩,
     ⟨(some 43), none, .mv (.t 7)⟩,
     ⟨(some 44), none, .bin .add .i (.t 42) (.t 43)⟩,
     ⟨(some 45), none, .mv (.t 7)⟩,
     ⟨(some 46), none, .bin .rem .i (.t 44) (.t 45)⟩,
     ⟨(some 8), none, .mv (.t 46)⟩] [7, 8])
  (.seq (.seq (.reg none [⟨(some 47), none, .mv (.t 8)⟩,
      ⟨(some 48), none, .bin .eql .i (.t 47) (.k (V.i 0))⟩] [7, 8, 48])
   (.cond (.t 48)
    (.seq (.reg none [⟨(some 49), none, .mv (.t 7)⟩,
        ⟨(some 6), none, .mv (.t 49)⟩] [6])
     (.ret))
    (.skip)))
  (.seq (.reg none [⟨(some 50), none, .mv (.t 8)⟩,
     ⟨(some 6), none, .mv (.t 50)⟩] [6])
  (.ret))))))
def rv43 : List RV := [.t 6]
open Go.Proofs Go.IntWalk
set_option linter.unusedVariables false
set_option maxRecDepth 100000
set_option maxHeartbeats 4000000
def I_CellsTo (g : G) (t : TE) (a0 : Centre) (a1 : Int) (a2 : Int) : Option Int :=
  cl (I_IsCentre g t a0) fun x1 =>
  br x1
  (
   br (g.lt a1 0)
   (
    some (-1))
   (
    br (g.le (g.llen (t.r_Item a0.Belt)) a1)
    (
     some (-1))
    (
     br (g.lt a2 0)
     (
      some (-1))
     (
      br (g.le (g.llen (t.r_Chute a0.Chutes)) a2)
      (
       some (-1))
      (
       gd (((0 : Int) ≤ a2)) <|
       gt a0.Chutes (g.nat a2) fun x2 =>
       gd (((g.llen (t.r_Item a0.Belt)) ≠ 0)) <|
       br (g.eq (g.rem (g.wrap .i64 (g.add (g.wrap .i64 (g.sub x2.Cell a1)) (g.llen (t.r_Item a0.Belt)))) (g.llen (t.r_Item a0.Belt))) 0)
       (
        some (g.llen (t.r_Item a0.Belt)))
       (
        some (g.rem (g.wrap .i64 (g.add (g.wrap .i64 (g.sub x2.Cell a1)) (g.llen (t.r_Item a0.Belt)))) (g.llen (t.r_Item a0.Belt)))))))))
  (
   some (-1))
theorem fit43 : codeFit Try.prog Try.f43.ntmps (Try.f43.body.getD .skip) ir43 = true := by kernel_rfl
theorem c_I_CellsTo {g : G} {t : TE} {a0 : Centre} {a1 : Int} {a2 : Int} {r : Int} (hg : g = G.real) (ht : t = TE.real) (h : I_CellsTo g t a0 a1 a2 = some r) : Fn Try.prog 43 [.g (Centre.rs t a0), .c (.v (.int .i64 a1)), .c (.v (.int .i64 a2))] (.c (.r (.v (.int .i64 r)))) := by
  obtain ⟨X, hX⟩ := hide (.c (.r (.v (.int .i64 r))) : X)
  rw [← hX]
  refine fn_of (rvs := rv43) (j := ir43) Try.func43 rfl fit43 (Nat.le_of_ble_eq_true rfl) (by kernel_rfl) prog_mixed ?_
  intro g2 F hg2 hF
  obtain rfl : g2 = g := hg2.unique.trans hg.symm
  clear hg2
  obtain ⟨wrap, lt, le, eq, quo, rem, band, bor, bxor, shl, shr, nat, int, add, sub, mul, cat, seq, slt, sub3, byte, llen, nadd, nsub, dlen, dapp, dset, drep, rd, rda, up, rsub, dsub, all, sle, slen, hasI, putI, hasS, putS, imin, imax, fzc⟩ := g2
  obtain ⟨r_Item, d_Item, r_Chute, d_Chute, r_Inlet, d_Inlet, r_I64, d_I64, r_U8, d_U8, d_InletF⟩ := t
  obtain ⟨a0_Belt, a0_Chutes, a0_Inlets, a0_Plan, a0_Now⟩ := a0
  unfold I_CellsTo at h
  try dsimp only at h
  cbv
  obtain ⟨x1, hx1, h⟩ := of_cl h
  try dsimp only at h
  refine ACall.mk _ _ rfl (hF _ _ _ (c_I_IsCentre hg ht hx1)) (.inl rfl) (Nat.le_of_ble_eq_true rfl) ?_
  cbv
  cases hb1 : x1 with
  | true =>
    rw [br_true hb1] at h
    cbv
    try (rw [hb1]; cbv)
    try (rw [hb1]; cbv)
    cases hb2 : (lt a1 0) with
    | true =>
      rw [br_true hb2] at h
      cbv
      try (rw [hb2]; cbv)
      try (rw [hb2]; cbv)
      try (rw [hb2]; cbv)
      obtain rfl := Option.some.inj h
      exact ARet.mk trivial hX.symm
    | false =>
      rw [br_false hb2] at h
      cbv
      try (rw [hb2]; cbv)
      try (rw [hb2]; cbv)
      try (rw [hb2]; cbv)
      cases hb3 : (le (llen (r_Item a0_Belt)) a1) with
      | true =>
        rw [br_true hb3] at h
        cbv
        try (rw [hb3]; cbv)
        try (rw [hb3]; cbv)
        obtain rfl := Option.some.inj h
        exact ARet.mk trivial hX.symm
      | false =>
        rw [br_false hb3] at h
        cbv
        try (rw [hb3]; cbv)
        try (rw [hb3]; cbv)
        cases hb4 : (lt a2 0) with
        | true =>
          rw [br_true hb4] at h
          cbv
          try (rw [hb4]; cbv)
          try (rw [hb4]; cbv)
          try (rw [hb4]; cbv)
          try (rw [hb4]; cbv)
          try (rw [hb4]; cbv)
          obtain rfl := Option.some.inj h
          exact ARet.mk trivial hX.symm
        | false =>
          rw [br_false hb4] at h
          cbv
          try (rw [hb4]; cbv)
          try (rw [hb4]; cbv)
          try (rw [hb4]; cbv)
          try (rw [hb4]; cbv)
          try (rw [hb4]; cbv)
          cases hb5 : (le (llen (r_Chute a0_Chutes)) a2) with
          | true =>
            rw [br_true hb5] at h
            cbv
            obtain rfl := Option.some.inj h
            exact ARet.mk trivial hX.symm
          | false =>
            rw [br_false hb5] at h
            cbv
            obtain ⟨hc1, h⟩ := of_gd h
            refine AStep.mk hc1 ?_
            cbv
            obtain ⟨x2, hx2, h⟩ := of_gt h
            obtain ⟨x2_Cell, x2_Room, x2_Held⟩ := x2
            try dsimp only at h
            refine AGet.mk _ (r_get_Chute hg ht hx2) ?_
            cbv
            obtain ⟨hc2, h⟩ := of_gd h
            refine AStep.mk hc2 ?_
            cbv
            cases hb6 : (eq (rem (wrap .i64 (add (wrap .i64 (sub x2_Cell a1)) (llen (r_Item a0_Belt)))) (llen (r_Item a0_Belt))) 0) with
            | true =>
              rw [br_true hb6] at h
              cbv
              obtain rfl := Option.some.inj h
              exact ARet.mk trivial hX.symm
            | false =>
              rw [br_false hb6] at h
              cbv
              obtain rfl := Option.some.inj h
              exact ARet.mk trivial hX.symm
  | false =>
    rw [br_false hb1] at h
    cbv
    try (rw [hb1]; cbv)
    try (rw [hb1]; cbv)
    obtain rfl := Option.some.inj h
    exact ARet.mk trivial hX.symm
end Go.Vs
namespace Go.Vs
set_option maxRecDepth 100000
def ir51 : J :=
  .seq (.reg none [⟨(some 2), none, .alloc [.n 2, .n 3, .n 2, .n 1, .r (.v (.int .i64 0))]⟩,
     ⟨(some 3), none, .mv (.k (V.i 0))⟩,
     ⟨(some 4), none, .mv (.k (V.i 0))⟩] [0, 2])
  (.seq (.reg none [⟨(some 7), none, .mv (.t 0)⟩,
     ⟨(some 8), none, .call 91 true [(.t 7)]⟩,
     ⟨(some 5), none, .mv (.t 8)⟩] [2, 5])
  (.seq (.reg none [⟨(some 9), none, .mv (.t 5)⟩,
     ⟨(some 10), none, .callm 92 (.t 9) []⟩,
     ⟨(some 6), none, .alloc [.n 2, .n 3, .n 2, .n 1, .r (.v (.int .i64 0))]⟩,
     ⟨none, none, .st 5 (.t 6) (.t 10)⟩] [2, 5, 6])
  (.seq (.reg (some [[], [], [], [2], [2, 3], [2, 3, 4], [1, 2, 3, 4, 5], [1, 2, 3, 4, 5, 6], [], [], [9], [9, 10], [9, 10, 11], [1, 2, 3, 4, 5, 6, 8, 9, 10, 11, 12], [1, 2, 3, 4, 5, 6, 8, 9, 10, 11, 12, 13], [0, 1, 2, 3, 4, 5, 6, 8, 9, 10, 11, 12, 13], [0, 1, 2, 3, 4, 5, 6, 7, 8, 9, 10, 11, 12, 13, 15], [0, 1, 2, 3, 4, 5, 6, 7, 8, 9, 10, 11, 12, 13, 14, 15, 16]]) [⟨(some 11), none, .ld true 5 (.t 6)⟩,
     ⟨(some 12), none, .mv (.t 5)⟩,
     ⟨(some 13), none, .fa 0 (.t 6)⟩,
     ⟨(some 14), none, .ld false 1 (.t 13)⟩,
     ⟨(some 15), none, .len false (.t 14)⟩,
     ⟨(some 16), none, .bin .add .i (.t 15) (.k (V.i 2))⟩,
     ⟨(some 17), none, .callm 101 (.t 12) [(.t 16)]⟩,
     ⟨(some 18), none, .bin .sub .i (.t 17) (.k (V.i 1))⟩,
     ⟨(some 19), none, .mv (.t 5)⟩,
     ⟨(some 20), none, .fa 1 (.t 6)⟩,
     ⟨(some 21), none, .ld false 1 (.t 20)⟩,
     ⟨(some 22), none, .len false (.t 21)⟩,
     ⟨(some 23), none, .bin .add .i (.t 22) (.k (V.i 2))⟩,
     ⟨(some 24), none, .callm 101 (.t 19) [(.t 23)]⟩,
     ⟨(some 25), none, .bin .sub .i (.t 24) (.k (V.i 1))⟩,
     ⟨none, none, .st 5 (.t 2) (.t 11)⟩,
     ⟨(some 3), none, .mv (.t 18)⟩,
     ⟨(some 4), none, .mv (.t 25)⟩] [2, 3, 4])
  (.ret))))
def rv51 : List RV := [.c 2 true 5, .t 3, .t 4]
open Go.Proofs Go.IntWalk
set_option linter.unusedVariables false
set_option maxRecDepth 100000
set_option maxHeartbeats 4000000
def S_DrawCellsTo (g : G) (t : TE) (a0 : List Int) : Option (Centre × Int × Int) :=
  lP (S_l1New g t a0) fun x1 =>
  cl (S_l7Any g t x1) fun x2 =>
  cl (S_l1Below g t (Cur.mk x2.2.b x2.2.i x2.2.h) (g.wrap .i64 (g.add (g.int (g.dlen (t.d_Item x2.1.Belt))) 2))) fun x3 =>
  cl (S_l1Below g t (Cur.mk x3.2.b x3.2.i x3.2.h) (g.wrap .i64 (g.add (g.int (g.dlen (t.d_Chute x2.1.Chutes))) 2))) fun x4 =>
  some (((Centre.mk x2.1.Belt x2.1.Chutes x2.1.Inlets x2.1.Plan x2.1.Now), (g.wrap .i64 (g.sub x3.1 1)), (g.wrap .i64 (g.sub x4.1 1))))
theorem fit51 : codeFit Try.prog Try.f51.ntmps (Try.f51.body.getD .skip) ir51 = true := by kernel_rfl
theorem c_S_DrawCellsTo {g : G} {t : TE} {a0 : List Int} {r : Centre × Int × Int} (hg : g = G.real) (ht : t = TE.real) (h : S_DrawCellsTo g t a0 = some r) : Fn Try.prog 51 [.c (.s 1 (t.r_U8 a0))] (.u [.g (Centre.ds t r.1), .c (.r (.v (.int .i64 r.2.1))), .c (.r (.v (.int .i64 r.2.2)))]) := by
  obtain ⟨X, hX⟩ := hide (.u [.g (Centre.ds t r.1), .c (.r (.v (.int .i64 r.2.1))), .c (.r (.v (.int .i64 r.2.2)))] : X)
  rw [← hX]
  refine fn_of (rvs := rv51) (j := ir51) Try.func51 rfl fit51 (Nat.le_of_ble_eq_true rfl) (by kernel_rfl) prog_mixed ?_
  intro g2 F hg2 hF
  obtain rfl : g2 = g := hg2.unique.trans hg.symm
  clear hg2
  obtain ⟨wrap, lt, le, eq, quo, rem, band, bor, bxor, shl, shr, nat, int, add, sub, mul, cat, seq, slt, sub3, byte, llen, nadd, nsub, dlen, dapp, dset, drep, rd, rda, up, rsub, dsub, all, sle, slen, hasI, putI, hasS, putS, imin, imax, fzc⟩ := g2
  obtain ⟨r_Item, d_Item, r_Chute, d_Chute, r_Inlet, d_Inlet, r_I64, d_I64, r_U8, d_U8, d_InletF⟩ := t
  unfold S_DrawCellsTo at h
  try dsimp only at h
  cbv
  obtain ⟨x1, hx1, h⟩ := of_lP h
  obtain ⟨x1_b, x1_i, x1_h⟩ := x1
  try dsimp only at h
  refine ACall.mk _ _ rfl (hF _ _ _ (c_S_l1New hg ht hx1)) (.inl rfl) (Nat.le_of_ble_eq_true rfl) ?_
  cbv
  obtain ⟨x2, hx2, h⟩ := of_cl h
  obtain ⟨⟨x2_1_Belt, x2_1_Chutes, x2_1_Inlets, x2_1_Plan, x2_1_Now⟩, ⟨x2_2_b, x2_2_i, x2_2_h⟩⟩ := x2
  try dsimp only at h
  refine ACallM.mk _ _ _ _ rfl rfl (hF _ _ _ (c_S_l7Any hg ht hx2)) rfl (Nat.le_of_ble_eq_true rfl) (Nat.le_of_ble_eq_true rfl) ?_
  cbv
  obtain ⟨x3, hx3, h⟩ := of_cl h
  obtain ⟨x3_1, ⟨x3_2_b, x3_2_i, x3_2_h⟩⟩ := x3
  try dsimp only at h
  refine ACallM.mk _ _ _ _ rfl rfl (hF _ _ _ (c_S_l1Below hg ht hx3)) rfl (Nat.le_of_ble_eq_true rfl) (Nat.le_of_ble_eq_true rfl) ?_
  cbv
  obtain ⟨x4, hx4, h⟩ := of_cl h
  obtain ⟨x4_1, ⟨x4_2_b, x4_2_i, x4_2_h⟩⟩ := x4
  try dsimp only at h
  refine ACallM.mk _ _ _ _ rfl rfl (hF _ _ _ (c_S_l1Below hg ht hx4)) rfl (Nat.le_of_ble_eq_true rfl) (Nat.le_of_ble_eq_true rfl) ?_
  cbv
  obtain rfl := Option.some.inj h
  exact ARet.mk ⟨⟨rfl, (dlen_Item hg ht _)⟩, ⟨⟨rfl, (dlen_Chute hg ht _)⟩, ⟨⟨rfl, (dlen_Inlet hg ht _)⟩, ⟨rfl, (dlen_I64 hg ht _)⟩⟩⟩⟩ hX.symm
end Go.Vs
namespace Go.Vs
set_option maxRecDepth 100000
def ir102 : J :=
  .seq (.reg none [⟨(some 4), none, .mv (.k (V.b false))⟩] [0, 1])
  (.seq (.seq (.reg none [⟨(some 7), none, .mv (.t 0)⟩,
      ⟨(some 8), none, .len false (.t 7)⟩,
      ⟨(some 9), none, .mv (.k (V.i 0))⟩] [1, 7, 8, 9])
   (.bl 0 (.seq (.reg none [⟨(some 10), none, .bin .lss .i (.t 9) (.t 8)⟩] [1, 7, 8, 9, 10])
    (.seq (.cond (.t 10)
      (.skip)
      (.exit 0))
    (.seq (.block 1 (.seq (.reg none [⟨(some 11), none, .ia 2 (.t 7) (.t 9)⟩,
         ⟨(some 12), none, .ld true 2 (.t 11)⟩,
         ⟨(some 6), none, .alloc [.r (.v (.int .i64 0)), .r (.v (.int .i64 0))]⟩,
         ⟨none, none, .st 2 (.t 6) (.t 12)⟩] [1, 6, 7, 8, 9])
      (.seq (.reg none [⟨(some 13), none, .fa 0 (.t 6)⟩,
         ⟨(some 14), none, .ld false 1 (.t 13)⟩,
         ⟨(some 15), none, .mv (.t 1)⟩,
         ⟨(some 16), none, .bin .eql .i (.t 14) (.t 15)⟩] [1, 7, 8, 9, 16])
      (.cond (.t 16)
       (.seq (.reg none [⟨(some 4), none, .mv (.k (V.b true))⟩] [4])
        (.ret))
       (.skip)))))
    (.reg none [⟨(some 17), none, .bin .add .i (.t 9) (.k (V.i 1))⟩,
      ⟨(some 9), none, .mv (.t 17)⟩] [1, 7, 8, 9]))))))
  (.seq (.reg none [⟨(some 4), none, .mv (.k (V.b false))⟩] [4])
  (.ret)))
def rv102 : List RV := [.t 4]
open Go.Proofs Go.IntWalk
set_option linter.unusedVariables false
set_option maxRecDepth 100000
set_option maxHeartbeats 4000000
def I_hasItem_l1 (g : G) (t : TE) (a1 : Int) : List Item → LR Bool Unit
  | [] =>
    (LR.out ())
  | z1 :: ls1 =>
    br (g.eq z1.Id a1)
    (
     (LR.ret true))
    (
     I_hasItem_l1 g t a1 ls1)
def I_hasItem (g : G) (t : TE) (a0 : List Item) (a1 : Int) : Bool :=
  lP (I_hasItem_l1 g t a1 a0) fun o1 => lrp o1 fun y1 =>
  false
theorem fit102 : codeFit Try.prog Try.f102.ntmps (Try.f102.body.getD .skip) ir102 = true := by kernel_rfl
theorem c_I_hasItem {g : G} {t : TE} {a0 : List Item} {a1 : Int} {r : Bool} (hg : g = G.real) (ht : t = TE.real) (h : I_hasItem g t a0 a1 = r) : Fn Try.prog 102 [.c (.s 2 (t.r_Item a0)), .c (.v (.int .i64 a1))] (.c (.r (.v (.bool r)))) := by
  obtain ⟨X, hX⟩ := hide (.c (.r (.v (.bool r))) : X)
  rw [← hX]
  refine fn_of (rvs := rv102) (j := ir102) Try.func102 rfl fit102 (Nat.le_of_ble_eq_true rfl) (by kernel_rfl) prog_mixed ?_
  intro g2 F hg2 hF
  obtain rfl : g2 = g := hg2.unique.trans hg.symm
  clear hg2
  obtain ⟨wrap, lt, le, eq, quo, rem, band, bor, bxor, shl, shr, nat, int, add, sub, mul, cat, seq, slt, sub3, byte, llen, nadd, nsub, dlen, dapp, dset, drep, rd, rda, up, rsub, dsub, all, sle, slen, hasI, putI, hasS, putS, imin, imax, fzc⟩ := g2
  obtain ⟨r_Item, d_Item, r_Chute, d_Chute, r_Inlet, d_Inlet, r_I64, d_I64, r_U8, d_U8, d_InletF⟩ := t
  unfold I_hasItem at h
  try dsimp only at h
  cbv
  obtain ⟨o1, ho1, h⟩ := of_lP h
  try dsimp only at h
  try rw [hg] at ho1
  try rw [ht] at ho1
  refine ABL.mk { p : Nat × Int // p.1 ≤ a0.length ∧ p.2 = ((p.1 : Nat) : Int) ∧ I_hasItem_l1 G.real TE.real a1 (List.drop p.1 a0) = o1 } (fun ⟨⟨k1, v1⟩, _⟩ => ({ sl := [(1, .c (.r (.v (.int .i64 a1)))), (7, .c (.r (.s 2 (r_Item a0)))), (8, .c (.r (.v (.int .i64 (llen (r_Item a0)))))), (9, .c (.r (.v (.int .i64 v1))))], tab := [] } : St)) 0 (fun p => a0.length - p.1.1) ⟨(0, 0), Nat.zero_le _, rfl, ho1⟩ (Unit) (fun _ => ({ sl := [], tab := [] } : St)) 0 (fun y => o1 = LR.out y) ?_ ?_ ?_
  · refine Wk.of [] rfl rfl ?_ ?_
    · cbv
      all_goals exact ⟨⟨_, rfl, rfl⟩, ⟨_, rfl, rfl⟩, ⟨_, rfl, rfl⟩, ⟨_, rfl, rfl⟩, trivial⟩
    · cbv
      all_goals exact trivial
  · rintro ⟨⟨k1, v1⟩, hk1, hi1, h_1⟩ hq1
    have hm1 := (hq1.1 7 _ _ rfl)
    try dsimp only at hk1 hi1 h_1
    clear hq1
    cbv
    by_cases hc1_ : k1 < a0.length
    · have hb1 : lt v1 (llen (r_Item a0)) = true := ltL_true_Item hg ht hi1 hc1_
      have hs1 := stepL_Item hg ht hi1 hc1_ hm1
      obtain ⟨z1, hz1⟩ := some_of_lt hc1_
      rw [drop_of_some hz1] at h_1
      rw [I_hasItem_l1] at h_1
      obtain ⟨z1_Id, z1_Dest⟩ := z1
      try rw [← hg] at h_1
      try rw [← ht] at h_1
      try dsimp only at h_1
      rw [hb1]
      cbv
      refine AStep.mk (nn_L hi1) ?_
      cbv
      refine AGet.mk _ (r_getL_Item hg ht hi1 hz1) ?_
      cbv
      cases hb2 : (eq z1_Id a1) with
      | true =>
        rw [br_true hb2] at h_1
        cbv
        subst h_1
        try dsimp only [lr, lrL, lrp, lrpL] at h
        subst h
        exact ARet.mk trivial hX.symm
      | false =>
        rw [br_false hb2] at h_1
        cbv
        try rw [hg] at h_1
        try rw [ht] at h_1
        refine ⟨⟨(k1 + 1, (wrap .i64 (add v1 1))), hc1_, hs1, h_1⟩, Wk.of [] rfl rfl ?_ ?_, meas_L hc1_⟩
        · cbv
          all_goals exact ⟨⟨_, rfl, rfl⟩, ⟨_, rfl, rfl⟩, ⟨_, rfl, rfl⟩, ⟨_, rfl, rfl⟩, trivial⟩
        · cbv
          all_goals exact trivial
    · have hb1 : lt v1 (llen (r_Item a0)) = false := ltL_false_Item hg ht hi1 hc1_
      rw [List.drop_of_length_le (Nat.le_of_not_lt hc1_)] at h_1
      rw [I_hasItem_l1] at h_1
      try rw [← hg] at h_1
      try rw [← ht] at h_1
      try dsimp only at h_1
      rw [hb1]
      cbv
      refine ⟨(), Wk.of [] rfl rfl ?_ ?_, h_1.symm⟩
      · cbv
        all_goals exact trivial
      · cbv
        all_goals exact trivial
  · rintro _ hy1
    replace hy1 := hy1.symm
    subst hy1
    try dsimp only [lr, lrL, lrp, lrpL] at h
    cbv
    subst h
    exact ARet.mk trivial hX.symm
end Go.Vs
namespace Go.Vs
set_option maxRecDepth 100000
def ir52 : J :=
  .seq (.reg none [⟨(some 2), none, .box (.t 0)⟩,
     ⟨(some 4), none, .mv (.k (V.i 0))⟩,
     ⟨(some 5), none, .mv (.k (V.i 0))⟩] [1, 2])
  (.seq (.seq (.reg none [⟨(some 12), none, .ld true 5 (.t 2)⟩,
      ⟨(some 13), none, .call 32 true [(.t 12)]⟩,
      ⟨(some 14), none, .not (.t 13)⟩,
      ⟨(some 15), none, .mv (.t 14)⟩,
      ⟨(some 16), (some (15, false)), .mv (.t 1)⟩,
      ⟨(some 17), (some (15, false)), .bin .eql .i (.t 16) (.k (V.i 0))⟩,
      ⟨(some 18), none, .pick (.t 15) (.k (V.b true)) (.t 17)⟩] [1, 2, 18])
   (.cond (.t 18)
    (.seq (.reg none [⟨(some 4), none, .mv (.k (V.i 0))⟩,
        ⟨(some 5), none, .mv (.k (V.i 0))⟩] [4, 5])
     (.ret))
    (.skip)))
  (.seq (.seq (.reg none [⟨(some 19), none, .fa 0 (.t 2)⟩,
      ⟨(some 20), none, .ld false 1 (.t 19)⟩,
      ⟨(some 21), none, .len false (.t 20)⟩,
      ⟨(some 22), none, .mv (.k (V.i 0))⟩] [1, 2, 20, 21, 22])
   (.bl 0 (.seq (.reg none [⟨(some 23), none, .bin .lss .i (.t 22) (.t 21)⟩] [1, 2, 20, 21, 22, 23])
    (.seq (.cond (.t 23)
      (.skip)
      (.exit 0))
    (.seq (.block 1 (.seq (.reg none [⟨(some 24), none, .mv (.t 22)⟩,
         ⟨(some 25), none, .ia 2 (.t 20) (.t 22)⟩,
         ⟨(some 26), none, .ld true 2 (.t 25)⟩,
         ⟨(some 7), none, .alloc [.r (.v (.int .i64 0)), .r (.v (.int .i64 0))]⟩,
         ⟨(some 6), none, .mv (.t 24)⟩,
         ⟨none, none, .st 2 (.t 7) (.t 26)⟩] [1, 2, 6, 7, 20, 21, 22])
      (.seq (.reg none [⟨(some 27), none, .fa 0 (.t 7)⟩,
         ⟨(some 28), none, .ld false 1 (.t 27)⟩,
         ⟨(some 29), none, .mv (.t 1)⟩,
         ⟨(some 30), none, .bin .eql .i (.t 28) (.t 29)⟩] [1, 2, 6, 20, 21, 22, 30])
      (.cond (.t 30)
       (.seq (.reg none [⟨(some 31), none, .mv (.t 6)⟩,
           ⟨(some 4), none, .mv (.k (V.i 1))⟩,
           ⟨(some 5), none, .mv (.t 31)⟩] [4, 5])
        (.ret))
       (.skip)))))
    (.reg none [⟨(some 32), none, .bin .add .i (.t 22) (.k (V.i 1))⟩,
      ⟨(some 22), none, .mv (.t 32)⟩] [1, 2, 20, 21, 22]))))))
  (.seq (.seq (.reg none [⟨(some 33), none, .fa 1 (.t 2)⟩,
      ⟨(some 34), none, .ld false 1 (.t 33)⟩,
      ⟨(some 35), none, .len false (.t 34)⟩,
      ⟨(some 36), none, .mv (.k (V.i 0))⟩] [1, 2, 34, 35, 36])
   (.bl 2 (.seq (.reg none [⟨(some 37), none, .bin .lss .i (.t 36) (.t 35)⟩] [1, 2, 34, 35, 36, 37])
    (.seq (.cond (.t 37)
      (.skip)
      (.exit 2))
    (.seq (.block 3 (.seq (.reg none [⟨(some 38), none, .mv (.t 36)⟩,
         ⟨(some 39), none, .ia 3 (.t 34) (.t 36)⟩,
         ⟨(some 40), none, .ld true 3 (.t 39)⟩,
         ⟨(some 9), none, .alloc [.r (.v (.int .i64 0)), .r (.v (.int .i64 0)), .n 2]⟩,
         ⟨(some 8), none, .mv (.t 38)⟩,
         ⟨none, none, .st 3 (.t 9) (.t 40)⟩] [1, 2, 8, 9, 34, 35, 36])
      (.seq (.reg none [⟨(some 41), none, .fa 2 (.t 9)⟩,
         ⟨(some 42), none, .ld false 1 (.t 41)⟩,
         ⟨(some 43), none, .mv (.t 1)⟩,
         ⟨(some 44), none, .call 102 true [(.t 42), (.t 43)]⟩] [1, 2, 8, 34, 35, 36, 44])
      (.cond (.t 44)
       (.seq (.reg none [⟨(some 45), none, .mv (.t 8)⟩,
           ⟨(some 4), none, .mv (.k (V.i 2))⟩,
           ⟨(some 5), none, .mv (.t 45)⟩] [4, 5])
        (.ret))
       (.skip)))))
    (.reg none [⟨(some 46), none, .bin .add .i (.t 36) (.k (V.i 1))⟩,
      ⟨(some 36), none, .mv (.t 46)⟩] [1, 2, 34, 35, 36]))))))
  (.seq (.seq (.reg none [⟨(some 47), none, .fa 2 (.t 2)⟩,
      ⟨(some 48), none, .ld false 1 (.t 47)⟩,
      ⟨(some 49), none, .len false (.t 48)⟩,
      ⟨(some 50), none, .mv (.k (V.i 0))⟩] [1, 48, 49, 50])
   (.bl 4 (.seq (.reg none [⟨(some 51), none, .bin .lss .i (.t 50) (.t 49)⟩] [1, 48, 49, 50, 51])
    (.seq (.cond (.t 51)
      (.skip)
      (.exit 4))
    (.seq (.block 5 (.seq (.reg none [⟨(some 52), none, .mv (.t 50)⟩,
         ⟨(some 53), none, .ia 2 (.t 48) (.t 50)⟩,
         ⟨(some 54), none, .ld true 2 (.t 53)⟩,
         ⟨(some 11), none, .alloc [.r (.v (.int .i64 0)), .n 2]⟩,
         ⟨(some 10), none, .mv (.t 52)⟩,
         ⟨none, none, .st 2 (.t 11) (.t 54)⟩] [1, 10, 11, 48, 49, 50])
      (.seq (.reg none [⟨(some 55), none, .fa 1 (.t 11)⟩,
         ⟨(some 56), none, .ld false 1 (.t 55)⟩,
         ⟨(some 57), none, .mv (.t 1)⟩,
         ⟨(some 58), none, .call 102 true [(.t 56), (.t 57)]⟩] [1, 10, 48, 49, 50, 58])
      (.cond (.t 58)
       (.seq (.reg none [⟨(some 59), none, .mv (.t 10)⟩,
           ⟨(some 4), none, .mv (.k (V.i 3))⟩,
           ⟨(some 5), none, .mv (.t 59)⟩] [4, 5])
        (.ret))
       (.skip)))))
    (.reg none [⟨(some 60), none, .bin .add .i (.t 50) (.k (V.i 1))⟩,
      ⟨(some 50), none, .mv (.t 60)⟩] [1, 48, 49, 50]))))))
  (.seq (.reg none [⟨(some 4), none, .mv (.k (V.i 0))⟩,
     ⟨(some 5), none, .mv (.k (V.i 0))⟩] [4, 5])
  (.ret))))))
def rv52 : List RV := [.t 4, .t 5]
open Go.Proofs Go.IntWalk
set_option linter.unusedVariables false
set_option maxRecDepth 100000
set_option maxHeartbeats 4000000
def I_WhereIs_l3 (g : G) (t : TE) (a1 : Int) : List Inlet → Int → LR (Int × Int) Unit
  | [], v3 =>
    (LR.out ())
  | z3 :: ls3, v3 =>
    lP (I_hasItem g t z3.Wait a1) fun x3 =>
    br x3
    (
     (LR.ret ((3, v3))))
    (
     I_WhereIs_l3 g t a1 ls3 (g.wrap .i64 (g.add v3 1)))
def I_WhereIs_l2 (g : G) (t : TE) (a1 : Int) : List Chute → Int → LR (Int × Int) Unit
  | [], v2 =>
    (LR.out ())
  | z2 :: ls2, v2 =>
    lP (I_hasItem g t z2.Held a1) fun x2 =>
    br x2
    (
     (LR.ret ((2, v2))))
    (
     I_WhereIs_l2 g t a1 ls2 (g.wrap .i64 (g.add v2 1)))
def I_WhereIs_l1 (g : G) (t : TE) (a1 : Int) : List Item → Int → LR (Int × Int) Unit
  | [], v1 =>
    (LR.out ())
  | z1 :: ls1, v1 =>
    br (g.eq z1.Id a1)
    (
     (LR.ret ((1, v1))))
    (
     I_WhereIs_l1 g t a1 ls1 (g.wrap .i64 (g.add v1 1)))
def I_WhereIs (g : G) (t : TE) (a0 : Centre) (a1 : Int) : Option (Int × Int) :=
  cl (I_IsCentre g t a0) fun x1 =>
  br x1
  (
   br (g.eq a1 0)
   (
    some ((0, 0)))
   (
    lP (I_WhereIs_l1 g t a1 a0.Belt 0) fun o1 => lr o1 fun y1 =>
    lP (I_WhereIs_l2 g t a1 a0.Chutes 0) fun o2 => lr o2 fun y2 =>
    lP (I_WhereIs_l3 g t a1 a0.Inlets 0) fun o3 => lr o3 fun y3 =>
    some ((0, 0))))
  (
   some ((0, 0)))
theorem fit52 : codeFit Try.prog Try.f52.ntmps (Try.f52.body.getD .skip) ir52 = true := by kernel_rfl
theorem c_I_WhereIs {g : G} {t : TE} {a0 : Centre} {a1 : Int} {r : Int × Int} (hg : g = G.real) (ht : t = TE.real) (h : I_WhereIs g t a0 a1 = some r) : Fn Try.prog 52 [.g (Centre.rs t a0), .c (.v (.int .i64 a1))] (.u [.c (.r (.v (.int .i64 r.1))), .c (.r (.v (.int .i64 r.2)))]) := by
  obtain ⟨X, hX⟩ := hide (.u [.c (.r (.v (.int .i64 r.1))), .c (.r (.v (.int .i64 r.2)))] : X)
  rw [← hX]
  refine fn_of (rvs := rv52) (j := ir52) Try.func52 rfl fit52 (Nat.le_of_ble_eq_true rfl) (by kernel_rfl) prog_mixed ?_
  intro g2 F hg2 hF
  obtain rfl : g2 = g := hg2.unique.trans hg.symm
  clear hg2
  obtain ⟨wrap, lt, le, eq, quo, rem, band, bor, bxor, shl, shr, nat, int, add, sub, mul, cat, seq, slt, sub3, byte, llen, nadd, nsub, dlen, dapp, dset, drep, rd, rda, up, rsub, dsub, all, sle, slen, hasI, putI, hasS, putS, imin, imax, fzc⟩ := g2
  obtain ⟨r_Item, d_Item, r_Chute, d_Chute, r_Inlet, d_Inlet, r_I64, d_I64, r_U8, d_U8, d_InletF⟩ := t
  obtain ⟨a0_Belt, a0_Chutes, a0_Inlets, a0_Plan, a0_Now⟩ := a0
  unfold I_WhereIs at h
  try dsimp only at h
  cbv
  obtain ⟨x1, hx1, h⟩ := of_cl h
  try dsimp only at h
  refine ACall.mk _ _ rfl (hF _ _ _ (c_I_IsCentre hg ht hx1)) (.inl rfl) (Nat.le_of_ble_eq_true rfl) ?_
  cbv
  cases hb1 : x1 with
  | true =>
    rw [br_true hb1] at h
    cbv
    try (rw [hb1]; cbv)
    try (rw [hb1]; cbv)
    cases hb2 : (eq a1 0) with
    | true =>
      rw [br_true hb2] at h
      cbv
      obtain rfl := Option.some.inj h
      exact ARet.mk trivial hX.symm
    | false =>
      rw [br_false hb2] at h
      cbv
      obtain ⟨o1, ho1, h⟩ := of_lP h
      try dsimp only at h
      try rw [hg] at ho1
      try rw [ht] at ho1
      refine ABL.mk { p : Nat × Int // p.1 ≤ a0_Belt.length ∧ p.2 = ((p.1 : Nat) : Int) ∧ I_WhereIs_l1 G.real TE.real a1 (List.drop p.1 a0_Belt) p.2 = o1 } (fun ⟨⟨k1, v1⟩, _⟩ => ({ sl := [(1, .c (.r (.v (.int .i64 a1)))), (2, .c (.p 0 5 0 0)), (20, .c (.r (.s 2 (r_Item a0_Belt)))), (21, .c (.r (.v (.int .i64 (llen (r_Item a0_Belt)))))), (22, .c (.r (.v (.int .i64 v1))))], tab := [(0, some (.foc 5 [] [.r (.s 2 (r_Item a0_Belt)), .r (.s 3 (r_Chute a0_Chutes)), .r (.s 2 (r_Inlet a0_Inlets)), .r (.s 1 (r_I64 a0_Plan)), .r (.v (.int .i64 a0_Now))] []))] } : St)) 1 (fun p => a0_Belt.length - p.1.1) ⟨(0, 0), Nat.zero_le _, rfl, ho1⟩ (Unit) (fun _ => ({ sl := [(1, .c (.r (.v (.int .i64 a1)))), (2, .c (.p 0 5 0 0))], tab := [(0, some (.foc 5 [] [.r (.s 2 (r_Item a0_Belt)), .r (.s 3 (r_Chute a0_Chutes)), .r (.s 2 (r_Inlet a0_Inlets)), .r (.s 1 (r_I64 a0_Plan)), .r (.v (.int .i64 a0_Now))] []))] } : St)) 1 (fun y => o1 = LR.out y) ?_ ?_ ?_
      · refine Wk.of [(0, some 0)] rfl rfl ?_ ?_
        · cbv
          all_goals exact ⟨⟨_, rfl, rfl⟩, ⟨_, rfl, rfl⟩, ⟨_, rfl, rfl⟩, ⟨_, rfl, rfl⟩, ⟨_, rfl, rfl⟩, trivial⟩
        · cbv
          all_goals exact ⟨⟨_, rfl, _, rfl, rfl, rfl, rfl, rfl, rfl, trivial⟩, trivial⟩
      · rintro ⟨⟨k1, v1⟩, hk1, hi1, h_1⟩ hq1
        have hm1 := (hq1.1 20 _ _ rfl)
        try dsimp only at hk1 hi1 h_1
        clear hq1
        cbv
        by_cases hc1_ : k1 < a0_Belt.length
        · have hb3 : lt v1 (llen (r_Item a0_Belt)) = true := ltL_true_Item hg ht hi1 hc1_
          have hs1 := stepL_Item hg ht hi1 hc1_ hm1
          obtain ⟨z1, hz1⟩ := some_of_lt hc1_
          rw [drop_of_some hz1] at h_1
          rw [I_WhereIs_l1] at h_1
          obtain ⟨z1_Id, z1_Dest⟩ := z1
          try rw [← hg] at h_1
          try rw [← ht] at h_1
          try dsimp only at h_1
          rw [hb3]
          cbv
          refine AStep.mk (nn_L hi1) ?_
          cbv
          refine AGet.mk _ (r_getL_Item hg ht hi1 hz1) ?_
          cbv
          cases hb4 : (eq z1_Id a1) with
          | true =>
            rw [br_true hb4] at h_1
            cbv
            subst h_1
            try dsimp only [lr, lrL, lrp, lrpL] at h
            obtain rfl := Option.some.inj h
            exact ARet.mk trivial hX.symm
          | false =>
            rw [br_false hb4] at h_1
            cbv
            try rw [hg] at h_1
            try rw [ht] at h_1
            refine ⟨⟨(k1 + 1, (wrap .i64 (add v1 1))), hc1_, hs1, h_1⟩, Wk.of [(0, some 0)] rfl rfl ?_ ?_, meas_L hc1_⟩
            · cbv
              all_goals exact ⟨⟨_, rfl, rfl⟩, ⟨_, rfl, rfl⟩, ⟨_, rfl, rfl⟩, ⟨_, rfl, rfl⟩, ⟨_, rfl, rfl⟩, trivial⟩
            · cbv
              all_goals exact ⟨⟨_, rfl, _, rfl, rfl, rfl, rfl, rfl, rfl, trivial⟩, trivial⟩
        · have hb3 : lt v1 (llen (r_Item a0_Belt)) = false := ltL_false_Item hg ht hi1 hc1_
          rw [List.drop_of_length_le (Nat.le_of_not_lt hc1_)] at h_1
          rw [I_WhereIs_l1] at h_1
          try rw [← hg] at h_1
          try rw [← ht] at h_1
          try dsimp only at h_1
          rw [hb3]
          cbv
          refine ⟨(), Wk.of [(0, some 0)] rfl rfl ?_ ?_, h_1.symm⟩
          · cbv
            all_goals exact ⟨⟨_, rfl, rfl⟩, ⟨_, rfl, rfl⟩, trivial⟩
          · cbv
            all_goals exact ⟨⟨_, rfl, _, rfl, rfl, rfl, rfl, rfl, rfl, trivial⟩, trivial⟩
      · rintro _ hy1
        replace hy1 := hy1.symm
        subst hy1
        try dsimp only [lr, lrL, lrp, lrpL] at h
        cbv
        obtain ⟨o2, ho2, h⟩ := of_lP h
        try dsimp only at h
        try rw [hg] at ho2
        try rw [ht] at ho2
        refine ABL.mk { p : Nat × Int // p.1 ≤ a0_Chutes.length ∧ p.2 = ((p.1 : Nat) : Int) ∧ I_WhereIs_l2 G.real TE.real a1 (List.drop p.1 a0_Chutes) p.2 = o2 } (fun ⟨⟨k2, v2⟩, _⟩ => ({ sl := [(1, .c (.r (.v (.int .i64 a1)))), (2, .c (.p 0 5 0 0)), (34, .c (.r (.s 3 (r_Chute a0_Chutes)))), (35, .c (.r (.v (.int .i64 (llen (r_Chute a0_Chutes)))))), (36, .c (.r (.v (.int .i64 v2))))], tab := [(0, some (.foc 5 [] [.r (.s 2 (r_Item a0_Belt)), .r (.s 3 (r_Chute a0_Chutes)), .r (.s 2 (r_Inlet a0_Inlets)), .r (.s 1 (r_I64 a0_Plan)), .r (.v (.int .i64 a0_Now))] []))] } : St)) 1 (fun p => a0_Chutes.length - p.1.1) ⟨(0, 0), Nat.zero_le _, rfl, ho2⟩ (Unit) (fun _ => ({ sl := [(1, .c (.r (.v (.int .i64 a1)))), (2, .c (.p 0 5 0 0))], tab := [(0, some (.foc 5 [] [.r (.s 2 (r_Item a0_Belt)), .r (.s 3 (r_Chute a0_Chutes)), .r (.s 2 (r_Inlet a0_Inlets)), .r (.s 1 (r_I64 a0_Plan)), .r (.v (.int .i64 a0_Now))] []))] } : St)) 1 (fun y => o2 = LR.out y) ?_ ?_ ?_
        · refine Wk.of [(0, some 0)] rfl rfl ?_ ?_
          · cbv
            all_goals exact ⟨⟨_, rfl, rfl⟩, ⟨_, rfl, rfl⟩, ⟨_, rfl, rfl⟩, ⟨_, rfl, rfl⟩, ⟨_, rfl, rfl⟩, trivial⟩
          · cbv
            all_goals exact ⟨⟨_, rfl, _, rfl, rfl, rfl, rfl, rfl, rfl, trivial⟩, trivial⟩
        · rintro ⟨⟨k2, v2⟩, hk2, hi2, h_2⟩ hq2
          have hm2 := (hq2.1 34 _ _ rfl)
          try dsimp only at hk2 hi2 h_2
          clear hq2
          cbv
          by_cases hc2_ : k2 < a0_Chutes.length
          · have hb5 : lt v2 (llen (r_Chute a0_Chutes)) = true := ltL_true_Chute hg ht hi2 hc2_
            have hs2 := stepL_Chute hg ht hi2 hc2_ hm2
            obtain ⟨z2, hz2⟩ := some_of_lt hc2_
            rw [drop_of_some hz2] at h_2
            rw [I_WhereIs_l2] at h_2
            obtain ⟨z2_Cell, z2_Room, z2_Held⟩ := z2
            try rw [← hg] at h_2
            try rw [← ht] at h_2
            try dsimp only at h_2
            rw [hb5]
            cbv
            refine AStep.mk (nn_L hi2) ?_
            cbv
            refine AGet.mk _ (r_getL_Chute hg ht hi2 hz2) ?_
            cbv
            obtain ⟨x2, hx2, h_2⟩ := of_lP h_2
            try dsimp only at h_2
            refine ACall.mk _ _ rfl (hF _ _ _ (c_I_hasItem hg ht hx2)) (.inl rfl) (Nat.le_of_ble_eq_true rfl) ?_
            cbv
            cases hb6 : x2 with
            | true =>
              rw [br_true hb6] at h_2
              cbv
              subst h_2
              try dsimp only [lr, lrL, lrp, lrpL] at h
              obtain rfl := Option.some.inj h
              exact ARet.mk trivial hX.symm
            | false =>
              rw [br_false hb6] at h_2
              cbv
              try rw [hg] at h_2
              try rw [ht] at h_2
              refine ⟨⟨(k2 + 1, (wrap .i64 (add v2 1))), hc2_, hs2, h_2⟩, Wk.of [(0, some 0)] rfl rfl ?_ ?_, meas_L hc2_⟩
              · cbv
                all_goals exact ⟨⟨_, rfl, rfl⟩, ⟨_, rfl, rfl⟩, ⟨_, rfl, rfl⟩, ⟨_, rfl, rfl⟩, ⟨_, rfl, rfl⟩, trivial⟩
              · cbv
                all_goals exact ⟨⟨_, rfl, _, rfl, rfl, rfl, rfl, rfl, rfl, trivial⟩, trivial⟩
          · have hb5 : lt v2 (llen (r_Chute a0_Chutes)) = false := ltL_false_Chute hg ht hi2 hc2_
            rw [List.drop_of_length_le (Nat.le_of_not_lt hc2_)] at h_2
            rw [I_WhereIs_l2] at h_2
            try rw [← hg] at h_2
            try rw [← ht] at h_2
            try dsimp only at h_2
            rw [hb5]
            cbv
            refine ⟨(), Wk.of [(0, some 0)] rfl rfl ?_ ?_, h_2.symm⟩
            · cbv
              all_goals exact ⟨⟨_, rfl, rfl⟩, ⟨_, rfl, rfl⟩, trivial⟩
            · cbv
              all_goals exact ⟨⟨_, rfl, _, rfl, rfl, rfl, rfl, rfl, rfl, trivial⟩, trivial⟩
        · rintro _ hy2
          replace hy2 := hy2.symm
          subst hy2
          try dsimp only [lr, lrL, lrp, lrpL] at h
          cbv
          obtain ⟨o3, ho3, h⟩ := of_lP h
          try dsimp only at h
          try rw [hg] at ho3
          try rw [ht] at ho3
          refine ABL.mk { p : Nat × Int // p.1 ≤ a0_Inlets.length ∧ p.2 = ((p.1 : Nat) : Int) ∧ I_WhereIs_l3 G.real TE.real a1 (List.drop p.1 a0_Inlets) p.2 = o3 } (fun ⟨⟨k3, v3⟩, _⟩ => ({ sl := [(1, .c (.r (.v (.int .i64 a1)))), (48, .c (.r (.s 2 (r_Inlet a0_Inlets)))), (49, .c (.r (.v (.int .i64 (llen (r_Inlet a0_Inlets)))))), (50, .c (.r (.v (.int .i64 v3))))], tab := [] } : St)) 0 (fun p => a0_Inlets.length - p.1.1) ⟨(0, 0), Nat.zero_le _, rfl, ho3⟩ (Unit) (fun _ => ({ sl := [], tab := [] } : St)) 0 (fun y => o3 = LR.out y) ?_ ?_ ?_
          · refine Wk.of [] rfl rfl ?_ ?_
            · cbv
              all_goals exact ⟨⟨_, rfl, rfl⟩, ⟨_, rfl, rfl⟩, ⟨_, rfl, rfl⟩, ⟨_, rfl, rfl⟩, trivial⟩
            · cbv
              all_goals exact trivial
          · rintro ⟨⟨k3, v3⟩, hk3, hi3, h_3⟩ hq3
            have hm3 := (hq3.1 48 _ _ rfl)
            try dsimp only at hk3 hi3 h_3
            clear hq3
            cbv
            by_cases hc3_ : k3 < a0_Inlets.length
            · have hb7 : lt v3 (llen (r_Inlet a0_Inlets)) = true := ltL_true_Inlet hg ht hi3 hc3_
              have hs3 := stepL_Inlet hg ht hi3 hc3_ hm3
              obtain ⟨z3, hz3⟩ := some_of_lt hc3_
              rw [drop_of_some hz3] at h_3
              rw [I_WhereIs_l3] at h_3
              obtain ⟨z3_Cell, z3_Wait⟩ := z3
              try rw [← hg] at h_3
              try rw [← ht] at h_3
              try dsimp only at h_3
              rw [hb7]
              cbv
              refine AStep.mk (nn_L hi3) ?_
              cbv
              refine AGet.mk _ (r_getL_Inlet hg ht hi3 hz3) ?_
              cbv
              obtain ⟨x3, hx3, h_3⟩ := of_lP h_3
              try dsimp only at h_3
              refine ACall.mk _ _ rfl (hF _ _ _ (c_I_hasItem hg ht hx3)) (.inl rfl) (Nat.le_of_ble_eq_true rfl) ?_
              cbv
              cases hb8 : x3 with
              | true =>
                rw [br_true hb8] at h_3
                cbv
                subst h_3
                try dsimp only [lr, lrL, lrp, lrpL] at h
                obtain rfl := Option.some.inj h
                exact ARet.mk trivial hX.symm
              | false =>
                rw [br_false hb8] at h_3
                cbv
                try rw [hg] at h_3
                try rw [ht] at h_3
                refine ⟨⟨(k3 + 1, (wrap .i64 (add v3 1))), hc3_, hs3, h_3⟩, Wk.of [] rfl rfl ?_ ?_, meas_L hc3_⟩
                · cbv
                  all_goals exact ⟨⟨_, rfl, rfl⟩, ⟨_, rfl, rfl⟩, ⟨_, rfl, rfl⟩, ⟨_, rfl, rfl⟩, trivial⟩
                · cbv
                  all_goals exact trivial
            · have hb7 : lt v3 (llen (r_Inlet a0_Inlets)) = false := ltL_false_Inlet hg ht hi3 hc3_
              rw [List.drop_of_length_le (Nat.le_of_not_lt hc3_)] at h_3
              rw [I_WhereIs_l3] at h_3
              try rw [← hg] at h_3
              try rw [← ht] at h_3
              try dsimp only at h_3
              rw [hb7]
              cbv
              refine ⟨(), Wk.of [] rfl rfl ?_ ?_, h_3.symm⟩
              · cbv
                all_goals exact trivial
              · cbv
                all_goals exact trivial
          · rintro _ hy3
            replace hy3 := hy3.symm
            subst hy3
            try dsimp only [lr, lrL, lrp, lrpL] at h
            cbv
            obtain rfl := Option.some.inj h
            exact ARet.mk trivial hX.symm
  | false =>
    rw [br_false hb1] at h
    cbv
    try (rw [hb1]; cbv)
    try (rw [hb1]; cbv)
    obtain rfl := Option.some.inj h
    exact ARet.mk trivial hX.symm
end Go.Vs
namespace Go.Vs
set_option maxRecDepth 100000
def ir10 : J :=
  .seq (.reg none [⟨(some 2), none, .mv (.k (V.b false))⟩] [0])
  (.seq (.seq (.reg none [⟨(some 13), none, .mv (.t 0)⟩,
      ⟨(some 14), none, .call 33 true [(.t 13)]⟩] [0, 14])
   (.cond (.t 14)
    (.seq (.reg none [⟨(some 2), none, .mv (.k (V.b true))⟩] [2])
     (.ret))
    (.skip)))
  (.seq (.reg none [⟨(some 16), none, .mv (.t 0)⟩,
     ⟨(some 17), none, .call 51 false [(.t 16)]⟩,
     ⟨(some 15), none, .mv (.t 17)⟩,
     ⟨(some 18), none, .ext 0 (.t 15)⟩,
     ⟨(some 19), none, .ext 1 (.t 15)⟩,
     ⟨(some 20), none, .ext 2 (.t 15)⟩,
     ⟨(some 3), none, .alloc [.n 2, .n 3, .n 2, .n 1, .r (.v (.int .i64 0))]⟩,
     ⟨none, none, .st 5 (.t 3) (.t 18)⟩,
     ⟨(some 4), none, .mv (.t 19)⟩,
     ⟨(some 5), none, .mv (.t 20)⟩] [3, 4, 5])
  (.seq (.reg none [⟨(some 21), none, .ld true 5 (.t 3)⟩,
     ⟨(some 22), none, .mv (.t 4)⟩,
     ⟨(some 23), none, .mv (.t 5)⟩,
     ⟨(some 24), none, .call 43 true [(.t 21), (.t 22), (.t 23)]⟩,
     ⟨(some 6), none, .mv (.t 24)⟩] [3, 4, 5, 6])
  (.seq (.seq (.reg none [⟨(some 25), none, .mv (.t 6)⟩,
      ⟨(some 26), none, .bin .eql .i (.t 25) (.k (V.i (-1)))⟩,
      ⟨(some 27), none, .mv (.t 26)⟩,
      ⟨(some 28), (some (27, false)), .fa 4 (.t 3)⟩,
      ⟨(some 29), (some (27, false)), .ld false 1 (.t 28)⟩,
      ⟨(some 30), (some (27, false)), .bin .gtr .i (.t 29) (.k (V.i 90000))⟩,
      ⟨(some 31), none, .pick (.t 27) (.k (V.b true)) (.t 30)⟩] [3, 4, 5, 6, 31])
   (.cond (.t 31)
    (.seq (.reg none [⟨(some 32), none, .mv (.t 6)⟩,
        ⟨(some 33), none, .bin .eql .i (.t 32) (.k (V.i (-1)))⟩,
        ⟨(some 34), none, .mv (.t 33)⟩,
        ⟨(some 35), (some (34, false)), .mv (.t 6)⟩,
        ⟨(some 36), (some (34, false)), .bin .geq .i (.t 35) (.k (V.i 1))⟩,
        ⟨(some 37), none, .pick (.t 34) (.k (V.b true)) (.t 36)⟩,
        ⟨(some 2), none, .mv (.t 37)⟩] [2])
     (.ret))
    (.skip)))
  (.seq (.reg (some [[], [0], [0, 1], [], [3], [], [3, 4, 5], [3, 4, 5, 6], [3, 4, 5, 6, 7], [3, 4, 5, 6, 7, 8], [], [], [0, 1, 2, 3, 4, 5, 6, 7, 8, 9, 10, 11], [0, 1, 2, 3, 4, 5, 6, 7, 8, 9, 10, 11, 12], [0, 1, 2, 3, 4, 5, 6, 7, 8, 9, 10, 11, 12, 13], [0, 1, 2, 3, 4, 5, 6, 7, 8, 9, 10, 11, 12, 13], [], [0, 1, 2, 3, 4, 5, 6, 7, 8, 9, 10, 11, 12, 13, 14, 16], [0, 1, 2, 3, 4, 5, 6, 7, 8, 9, 10, 11, 12, 13, 14, 15, 16, 17]]) [⟨(some 39), none, .fa 0 (.t 3)⟩,
     ⟨(some 40), none, .ld false 1 (.t 39)⟩,
     ⟨(some 41), none, .len false (.t 40)⟩,
     ⟨(some 42), none, .fa 1 (.t 3)⟩,
     ⟨(some 43), none, .ld false 1 (.t 42)⟩,
     ⟨(some 44), none, .mv (.t 5)⟩,
     ⟨(some 45), none, .ia 3 (.t 43) (.t 44)⟩,
     ⟨(some 46), none, .fa 0 (.t 45)⟩,
     ⟨(some 47), none, .ld false 1 (.t 46)⟩,
     ⟨(some 48), none, .bsl 1 [(.t 47)]⟩,
     ⟨(some 49), none, .bsl 1 [(.k (V.i 0))]⟩,
     ⟨(some 50), none, .bsl 1 [(.k (V.i 0))]⟩,
     ⟨(some 51), none, .call 46 true [(.t 41), (.t 48), (.k (V.i 1)), (.t 49), (.t 50)]⟩,
     ⟨(some 38), none, .mv (.t 51)⟩,
     ⟨(some 52), none, .ext 0 (.t 38)⟩,
     ⟨(some 53), none, .ext 1 (.t 38)⟩,
     ⟨(some 7), none, .alloc [.n 2, .n 3, .n 2, .n 1, .r (.v (.int .i64 0))]⟩,
     ⟨none, none, .st 5 (.t 7) (.t 52)⟩,
     ⟨(some 8), none, .mv (.t 53)⟩] [3, 4, 6, 7, 8])
  (.seq (.seq (.reg none [⟨(some 54), none, .mv (.t 8)⟩,
      ⟨(some 55), none, .not (.t 54)⟩] [3, 4, 6, 7, 55])
   (.cond (.t 55)
    (.seq (.reg none [⟨(some 2), none, .mv (.k (V.b false))⟩] [2])
     (.ret))
    (.skip)))
  (.seq (.reg none [⟨(some 56), none, .fa 0 (.t 7)⟩,
     ⟨(some 57), none, .ld false 1 (.t 56)⟩,
     ⟨(some 58), none, .mv (.t 4)⟩,
     ⟨(some 59), none, .bld [.r (.v (.int .i64 0)), .r (.v (.int .i64 0))] [(0, 1, (.k (V.i 7)))]⟩,
     ⟨(some 60), none, .ia 2 (.t 57) (.t 58)⟩,
     ⟨none, none, .st 2 (.t 60) (.t 59)⟩] [3, 6, 7])
  (.seq (.reg none [⟨(some 62), none, .ld true 5 (.t 7)⟩,
     ⟨(some 63), none, .mv (.t 6)⟩,
     ⟨(some 64), none, .bin .sub .i (.t 63) (.k (V.i 1))⟩,
     ⟨(some 65), none, .call 36 false [(.t 62), (.t 64)]⟩,
     ⟨(some 66), none, .call 52 true [(.t 65), (.k (V.i 7))]⟩,
     ⟨(some 61), none, .mv (.t 66)⟩,
     ⟨(some 67), none, .ext 0 (.t 61)⟩,
     ⟨(some 68), none, .ext 1 (.t 61)⟩,
     ⟨(some 9), none, .mv (.t 67)⟩,
     ⟨(some 10), none, .mv (.t 68)⟩] [3, 6, 7, 9])
  (.seq (.reg none [⟨(some 70), none, .ld true 5 (.t 7)⟩,
     ⟨(some 71), none, .mv (.t 6)⟩,
     ⟨(some 72), none, .call 36 false [(.t 70), (.t 71)]⟩,
     ⟨(some 73), none, .call 52 true [(.t 72), (.k (V.i 7))]⟩,
     ⟨(some 69), none, .mv (.t 73)⟩,
     ⟨(some 74), none, .ext 0 (.t 69)⟩,
     ⟨(some 75), none, .ext 1 (.t 69)⟩,
     ⟨(some 11), none, .mv (.t 74)⟩,
     ⟨(some 12), none, .mv (.t 75)⟩] [3, 6, 9, 11, 12])
  (.seq (.reg none [⟨(some 76), none, .mv (.t 9)⟩,
     ⟨(some 77), none, .bin .eql .i (.t 76) (.k (V.i 1))⟩,
     ⟨(some 78), none, .mv (.t 77)⟩,
     ⟨(some 79), (some (78, true)), .mv (.t 11)⟩,
     ⟨(some 80), (some (78, true)), .bin .eql .i (.t 79) (.k (V.i 2))⟩,
     ⟨(some 81), none, .pick (.t 78) (.t 80) (.k (V.b false))⟩,
     ⟨(some 82), none, .mv (.t 81)⟩,
     ⟨(some 83), (some (82, true)), .mv (.t 12)⟩,
     ⟨(some 84), (some (82, true)), .bin .eql .i (.t 83) (.k (V.i 0))⟩,
     ⟨(some 85), none, .pick (.t 82) (.t 84) (.k (V.b false))⟩,
     ⟨(some 86), none, .mv (.t 85)⟩,
     ⟨(some 87), (some (86, true)), .mv (.t 6)⟩,
     ⟨(some 88), (some (86, true)), .fa 0 (.t 3)⟩,
     ⟨(some 89), (some (86, true)), .ld false 1 (.t 88)⟩,
     ⟨(some 90), (some (86, true)), .len false (.t 89)⟩,
     ⟨(some 91), (some (86, true)), .bin .leq .i (.t 87) (.t 90)⟩,
     ⟨(some 92), none, .pick (.t 86) (.t 91) (.k (V.b false))⟩,
     ⟨(some 2), none, .mv (.t 92)⟩] [2])
  (.ret)))))))))))
def rv10 : List RV := [.t 2]
open Go.Proofs Go.IntWalk
set_option linter.unusedVariables false
set_option maxRecDepth 100000
set_option maxHeartbeats 4000000
def L_FnCells (g : G) (t : TE) (a0 : List Int) : Option Bool :=
  lP (L_big g t a0) fun x1 =>
  br x1
  (
   some true)
  (
   cl (S_DrawCellsTo g t a0) fun x2 =>
   cl (I_CellsTo g t (Centre.mk x2.1.Belt x2.1.Chutes x2.1.Inlets x2.1.Plan x2.1.Now) x2.2.1 x2.2.2) fun x3 =>
   br (g.eq x3 (-1))
   (
    some true)
   (
    br (g.lt 90000 x2.1.Now)
    (
     some (g.le 1 x3))
    (
     gd (((0 : Int) ≤ x2.2.2)) <|
     gt x2.1.Chutes (g.nat x2.2.2) fun x4 =>
     lP ([x4.Cell]) fun (l1 : List Int) =>
     lP ([0]) fun (l2 : List Int) =>
     lP ([0]) fun (l3 : List Int) =>
     cl (I_NewCentre g t (g.llen (t.r_Item x2.1.Belt)) l1 1 l2 l3) fun x5 =>
     br x5.2
     (
      gd (((0 : Int) ≤ x2.2.1 ∧ x2.2.1 < (((g.dlen (t.d_Item x5.1.Belt)) : Nat) : Int))) <|
      gt x5.1.Belt (g.nat x2.2.1) fun x6 =>
      lP (List.set x5.1.Belt (g.nat x2.2.1) (Item.mk 7 0)) fun (l4 : List Item) =>
      cl (I_RunCentre g t (Centre.mk l4 x5.1.Chutes x5.1.Inlets x5.1.Plan x5.1.Now) (g.wrap .i64 (g.sub x3 1))) fun x7 =>
      cl (I_WhereIs g t x7 7) fun x8 =>
      cl (I_RunCentre g t (Centre.mk l4 x5.1.Chutes x5.1.Inlets x5.1.Plan x5.1.Now) x3) fun x9 =>
      cl (I_WhereIs g t x9 7) fun x10 =>
      br (g.eq x8.1 1)
      (
       br (g.eq x10.1 2)
       (
        br (g.eq x10.2 0)
        (
         some (g.le x3 (g.llen (t.r_Item x2.1.Belt))))
        (
         some false))
       (
        some false))
      (
       some false))
     (
      some false))))
theorem fit10 : codeFit Try.prog Try.f10.ntmps (Try.f10.body.getD .skip) ir10 = true := by kernel_rfl
theorem c_L_FnCells {g : G} {t : TE} {a0 : List Int} {r : Bool} (hg : g = G.real) (ht : t = TE.real) (h : L_FnCells g t a0 = some r) : Fn Try.prog 10 [.c (.s 1 (t.r_U8 a0))] (.c (.r (.v (.bool r)))) := by
  obtain ⟨X, hX⟩ := hide (.c (.r (.v (.bool r))) : X)
  rw [← hX]
  refine fn_of (rvs := rv10) (j := ir10) Try.func10 rfl fit10 (Nat.le_of_ble_eq_true rfl) (by kernel_rfl) prog_mixed ?_
  intro g2 F hg2 hF
  obtain rfl : g2 = g := hg2.unique.trans hg.symm
  clear hg2
  obtain ⟨wrap, lt, le, eq, quo, rem, band, bor, bxor, shl, shr, nat, int, add, sub, mul, cat, seq, slt, sub3, byte, llen, nadd, nsub, dlen, dapp, dset, drep, rd, rda, up, rsub, dsub, all, sle, slen, hasI, putI, hasS, putS, imin, imax, fzc⟩ := g2
  obtain ⟨r_Item, d_Item, r_Chute, d_Chute, r_Inlet, d_Inlet, r_I64, d_I64, r_U8, d_U8, d_InletF⟩ := t
  have hfr_Item : ∀ l, freshDss (d_Item l) = true := fresh_Item ht
  have hrda_Item : ∀ l, rda (d_Item l) = r_Item l := rda_Item hg ht
  have hfr_Chute : ∀ l, freshDss (d_Chute l) = true := fresh_Chute ht
  have hrda_Chute : ∀ l, rda (d_Chute l) = r_Chute l := rda_Chute hg ht
  have hfr_Inlet : ∀ l, freshDss (d_Inlet l) = true := fresh_Inlet ht
  have hrda_Inlet : ∀ l, rda (d_Inlet l) = r_Inlet l := rda_Inlet hg ht
  have hfr_I64 : ∀ l, freshDss (d_I64 l) = true := fresh_I64 ht
  have hrda_I64 : ∀ l, rda (d_I64 l) = r_I64 l := rda_I64 hg ht
  unfold L_FnCells at h
  try dsimp only at h
  cbv
  obtain ⟨x1, hx1, h⟩ := of_lP h
  try dsimp only at h
  refine ACall.mk _ _ rfl (hF _ _ _ (c_L_big hg ht hx1)) (.inl rfl) (Nat.le_of_ble_eq_true rfl) ?_
  cbv
  cases hb1 : x1 with
  | true =>
    rw [br_true hb1] at h
    cbv
    obtain rfl := Option.some.inj h
    exact ARet.mk trivial hX.symm
  | false =>
    rw [br_false hb1] at h
    cbv
    obtain ⟨x2, hx2, h⟩ := of_cl h
    obtain ⟨⟨x2_1_Belt, x2_1_Chutes, x2_1_Inlets, x2_1_Plan, x2_1_Now⟩, x2_2_1, x2_2_2⟩ := x2
    try dsimp only at h
    refine ACallR.mk _ _ (.u [.g [.r (.s 2 (r_Item x2_1_Belt)), .r (.s 3 (r_Chute x2_1_Chutes)), .r (.s 2 (r_Inlet x2_1_Inlets)), .r (.s 1 (r_I64 x2_1_Plan)), .r (.v (.int .i64 x2_1_Now))], .c (.r (.v (.int .i64 x2_2_1))), .c (.r (.v (.int .i64 x2_2_2)))]) rfl (hF _ _ _ (c_S_DrawCellsTo hg ht hx2)) (.inl rfl) (Nat.le_of_ble_eq_true rfl) (by cbv; (try simp only [hrda_Chute, hrda_I64, hrda_Inlet, hrda_Item])) ?_
    cbv
    obtain ⟨x3, hx3, h⟩ := of_cl h
    try dsimp only at h
    refine ACall.mk _ _ rfl (hF _ _ _ (c_I_CellsTo hg ht hx3)) (.inl rfl) (Nat.le_of_ble_eq_true rfl) ?_
    cbv
    cases hb2 : (eq x3 (-1)) with
    | true =>
      rw [br_true hb2] at h
      cbv
      try (rw [hb2]; cbv)
      try (rw [hb2]; cbv)
      try (rw [hb2]; cbv)
      try (rw [hb2]; cbv)
      try (rw [hb2]; cbv)
      try (rw [hb2]; cbv)
      obtain rfl := Option.some.inj h
      exact ARet.mk trivial hX.symm
    | false =>
      rw [br_false hb2] at h
      cbv
      try (rw [hb2]; cbv)
      try (rw [hb2]; cbv)
      try (rw [hb2]; cbv)
      cases hb3 : (lt 90000 x2_1_Now) with
      | true =>
        rw [br_true hb3] at h
        cbv
        try (rw [hb2]; cbv)
        try (rw [hb2]; cbv)
        try (rw [hb2]; cbv)
        obtain rfl := Option.some.inj h
        exact ARet.mk trivial hX.symm
      | false =>
        rw [br_false hb3] at h
        cbv
        obtain ⟨hc1, h⟩ := of_gd h
        refine AStep.mk hc1 ?_
        cbv
        obtain ⟨x4, hx4, h⟩ := of_gt h
        obtain ⟨x4_Cell, x4_Room, x4_Held⟩ := x4
        try dsimp only at h
        refine AGet.mk _ (r_get_Chute hg ht hx4) ?_
        cbv
        obtain ⟨l1, hl1, h⟩ := of_lP h
        try dsimp only at h
        refine ANew.mk (d_I64 l1) (dlen (d_I64 l1)) (by rw [← hl1]; exact lit_I64 hg ht [x4_Cell]) (by rw [← hl1]; exact litn_I64 hg ht [x4_Cell]) ?_
        cbv
        obtain ⟨l2, hl2, h⟩ := of_lP h
        try dsimp only at h
        refine ANew.mk (d_I64 l2) (dlen (d_I64 l2)) (by rw [← hl2]; exact lit_I64 hg ht [0]) (by rw [← hl2]; exact litn_I64 hg ht [0]) ?_
        cbv
        obtain ⟨l3, hl3, h⟩ := of_lP h
        try dsimp only at h
        refine ANew.mk (d_I64 l3) (dlen (d_I64 l3)) (by rw [← hl3]; exact lit_I64 hg ht [0]) (by rw [← hl3]; exact litn_I64 hg ht [0]) ?_
        cbv
        refine AStep.mk ⟨(lend_I64 ht (dlen_I64 hg ht _)), ⟨(lend_I64 ht (dlen_I64 hg ht _)), (lend_I64 ht (dlen_I64 hg ht _))⟩⟩ ?_
        cbv
        obtain ⟨x5, hx5, h⟩ := of_cl h
        obtain ⟨⟨x5_1_Belt, x5_1_Chutes, x5_1_Inlets, x5_1_Plan, x5_1_Now⟩, x5_2⟩ := x5
        try dsimp only at h
        refine ACall.mk _ _ (by rw [show rd (d_I64 l1) 0 (dlen (d_I64 l1)) = r_I64 l1 from rdw_I64 hg ht (dlen_I64 hg ht _), show rd (d_I64 l2) 0 (dlen (d_I64 l2)) = r_I64 l2 from rdw_I64 hg ht (dlen_I64 hg ht _), show rd (d_I64 l3) 0 (dlen (d_I64 l3)) = r_I64 l3 from rdw_I64 hg ht (dlen_I64 hg ht _)]; try rfl) (hF _ _ _ (c_I_NewCentre hg ht hx5)) (.inr (by simp only [Go.Vs.X.fresh, Go.Vs.X.freshs, freshD, freshDs, Bool.and_self, Centre.ds, hfr_Chute, hfr_I64, hfr_Inlet, hfr_Item])) (Nat.le_of_ble_eq_true rfl) ?_
        cbv
        cases hb4 : x5_2 with
        | true =>
          rw [br_true hb4] at h
          cbv
          obtain ⟨hc2, h⟩ := of_gd h
          refine AStep.mk hc2 ?_
          cbv
          obtain ⟨x6, hx6, h⟩ := of_gt h
          obtain ⟨x6_Id, x6_Dest⟩ := x6
          try dsimp only at h
          refine AGet.mk _ (d_get_Item hg ht hx6) ?_
          cbv
          obtain ⟨l4, hl4, h⟩ := of_lP h
          try dsimp only at h
          refine ANew.mk (d_Item l4) _ (by rw [← hl4]; exact dset_Item hg ht _ _ (Item.mk 7 0)) rfl ?_
          have hnl4 : (dlen (d_Item x5_1_Belt)) = (d_Item l4).length := (by rw [← hl4, dsetl_Item ht]; exact (dlen_Item hg ht _))
          cbv
          refine AStep.mk ⟨(lend_Item ht hnl4), ⟨(lend_Chute ht (dlen_Chute hg ht _)), ⟨(lend_Inlet ht (dlen_Inlet hg ht _)), (lend_I64 ht (dlen_I64 hg ht _))⟩⟩⟩ ?_
          cbv
          obtain ⟨x7, hx7, h⟩ := of_cl h
          obtain ⟨x7_Belt, x7_Chutes, x7_Inlets, x7_Plan, x7_Now⟩ := x7
          try dsimp only at h
          refine ACallR.mk _ _ (.g [.r (.s 2 (r_Item x7_Belt)), .r (.s 3 (r_Chute x7_Chutes)), .r (.s 2 (r_Inlet x7_Inlets)), .r (.s 1 (r_I64 x7_Plan)), .r (.v (.int .i64 x7_Now))]) (by rw [show rd (d_Item l4) 0 (dlen (d_Item x5_1_Belt)) = r_Item l4 from rdw_Item hg ht hnl4, show rd (d_Chute x5_1_Chutes) 0 (dlen (d_Chute x5_1_Chutes)) = r_Chute x5_1_Chutes from rdw_Chute hg ht (dlen_Chute hg ht _), show rd (d_Inlet x5_1_Inlets) 0 (dlen (d_Inlet x5_1_Inlets)) = r_Inlet x5_1_Inlets from rdw_Inlet hg ht (dlen_Inlet hg ht _), show rd (d_I64 x5_1_Plan) 0 (dlen (d_I64 x5_1_Plan)) = r_I64 x5_1_Plan from rdw_I64 hg ht (dlen_I64 hg ht _)]; try rfl) (hF _ _ _ (c_I_RunCentre hg ht hx7)) (.inr (by simp only [Go.Vs.X.fresh, Go.Vs.X.freshs, freshD, freshDs, Bool.and_self, Centre.ds, hfr_Chute, hfr_I64, hfr_Inlet, hfr_Item])) (Nat.le_of_ble_eq_true rfl) (by cbv; (try simp only [hrda_Chute, hrda_I64, hrda_Inlet, hrda_Item])) ?_
          cbv
          obtain ⟨x8, hx8, h⟩ := of_cl h
          obtain ⟨x8_1, x8_2⟩ := x8
          try dsimp only at h
          refine ACall.mk _ _ rfl (hF _ _ _ (c_I_WhereIs hg ht hx8)) (.inl rfl) (Nat.le_of_ble_eq_true rfl) ?_
          cbv
          refine AStep.mk ⟨(lend_Item ht hnl4), ⟨(lend_Chute ht (dlen_Chute hg ht _)), ⟨(lend_Inlet ht (dlen_Inlet hg ht _)), (lend_I64 ht (dlen_I64 hg ht _))⟩⟩⟩ ?_
          cbv
          obtain ⟨x9, hx9, h⟩ := of_cl h
          obtain ⟨x9_Belt, x9_Chutes, x9_Inlets, x9_Plan, x9_Now⟩ := x9
          try dsimp only at h
          refine ACallR.mk _ _ (.g [.r (.s 2 (r_Item x9_Belt)), .r (.s 3 (r_Chute x9_Chutes)), .r (.s 2 (r_Inlet x9_Inlets)), .r (.s 1 (r_I64 x9_Plan)), .r (.v (.int .i64 x9_Now))]) (by rw [show rd (d_Item l4) 0 (dlen (d_Item x5_1_Belt)) = r_Item l4 from rdw_Item hg ht hnl4, show rd (d_Chute x5_1_Chutes) 0 (dlen (d_Chute x5_1_Chutes)) = r_Chute x5_1_Chutes from rdw_Chute hg ht (dlen_Chute hg ht _), show rd (d_Inlet x5_1_Inlets) 0 (dlen (d_Inlet x5_1_Inlets)) = r_Inlet x5_1_Inlets from rdw_Inlet hg ht (dlen_Inlet hg ht _), show rd (d_I64 x5_1_Plan) 0 (dlen (d_I64 x5_1_Plan)) = r_I64 x5_1_Plan from rdw_I64 hg ht (dlen_I64 hg ht _)]; try rfl) (hF _ _ _ (c_I_RunCentre hg ht hx9)) (.inr (by simp only [Go.Vs.X.fresh, Go.Vs.X.freshs, freshD, freshDs, Bool.and_self, Centre.ds, hfr_Chute, hfr_I64, hfr_Inlet, hfr_Item])) (Nat.le_of_ble_eq_true rfl) (by cbv; (try simp only [hrda_Chute, hrda_I64, hrda_Inlet, hrda_Item])) ?_
          cbv
          obtain ⟨x10, hx10, h⟩ := of_cl h
          obtain ⟨x10_1, x10_2⟩ := x10
          try dsimp only at h
          refine ACall.mk _ _ rfl (hF _ _ _ (c_I_WhereIs hg ht hx10)) (.inl rfl) (Nat.le_of_ble_eq_true rfl) ?_
          cbv
          cases hb5 : (eq x8_1 1) with
          | true =>
            rw [br_true hb5] at h
            cbv
            try (rw [hb5]; cbv)
            try (rw [hb5]; cbv)
            cases hb6 : (eq x10_1 2) with
            | true =>
              rw [br_true hb6] at h
              cbv
              try (rw [hb6]; cbv)
              try (rw [hb6]; cbv)
              cases hb7 : (eq x10_2 0) with
              | true =>
                rw [br_true hb7] at h
                cbv
                try (rw [hb7]; cbv)
                try (rw [hb7]; cbv)
                try (rw [hb7]; cbv)
                try (rw [hb7]; cbv)
                try (rw [hb7]; cbv)
                obtain rfl := Option.some.inj h
                exact ARet.mk trivial hX.symm
              | false =>
                rw [br_false hb7] at h
                cbv
                try (rw [hb7]; cbv)
                try (rw [hb7]; cbv)
                try (rw [hb7]; cbv)
                try (rw [hb7]; cbv)
                try (rw [hb7]; cbv)
                obtain rfl := Option.some.inj h
                exact ARet.mk trivial hX.symm
            | false =>
              rw [br_false hb6] at h
              cbv
              try (rw [hb6]; cbv)
              try (rw [hb6]; cbv)
              obtain rfl := Option.some.inj h
              exact ARet.mk trivial hX.symm
          | false =>
            rw [br_false hb5] at h
            cbv
            try (rw [hb5]; cbv)
            try (rw [hb5]; cbv)
            obtain rfl := Option.some.inj h
            exact ARet.mk trivial hX.symm
        | false =>
          rw [br_false hb4] at h
          cbv
          obtain rfl := Option.some.inj h
          exact ARet.mk trivial hX.symm
end Go.Vs
