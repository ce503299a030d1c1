/- Part of the proofs of this seat's laws: Lae. No condition. -/
import Derived.Test.YtieeagobedjogaaTy
import Derived.Test.YtieeagobedjogaaTIRall
import Derived.Test.YtieeagobedjogaaLaa
import Derived.Test.YtieeagobedjogaaLac
import Derived.Test.YtieeagobedjogaaLad
set_option linter.unusedVariables false
set_option linter.unusedSimpArgs false
set_option linter.unusedSectionVars false
namespace Go.Vs
set_option maxRecDepth 100000
def ir6 : J :=
  .seq (.reg none [⟨(some 2), none, .mv (.k (V.b false))⟩] [0])
  (.seq (.seq (.reg none [⟨(some 10), none, .mv (.t 0)⟩,
      ⟨(some 11), none, .call 33 true [(.t 10)]⟩] [0, 11])
   (.cond (.t 11)
    (.seq (.reg none [⟨(some 2), none, .mv (.k (V.b true))⟩] [2])
     (.ret))
    (.skip)))
  (.seq (.reg none [⟨(some 13), none, .mv (.t 0)⟩,
     ⟨(some 14), none, .call 34 false [(.t 13)]⟩,
     ⟨(some 12), none, .mv (.t 14)⟩,
     ⟨(some 15), none, .ext 0 (.t 12)⟩,
     ⟨(some 16), none, .ext 1 (.t 12)⟩,
     ⟨(some 3), none, .alloc [.n 2, .n 3, .n 2, .n 1, .r (.v (.int .i64 0))]⟩,
     ⟨none, none, .st 5 (.t 3) (.t 15)⟩,
     ⟨(some 4), none, .mv (.t 16)⟩] [3, 4])
  (.seq (.seq (.reg none [⟨(some 17), none, .ld true 5 (.t 3)⟩,
      ⟨(some 18), none, .call 31 true [(.t 17)]⟩,
      ⟨(some 19), none, .not (.t 18)⟩] [3, 4, 19])
   (.cond (.t 19)
    (.seq (.reg (some [[], [], [0, 1], [], [0, 1, 2, 3], [0, 1, 2, 3, 4]]) [⟨(some 20), none, .ld true 5 (.t 3)⟩,
        ⟨(some 21), none, .mv (.t 4)⟩,
        ⟨(some 22), none, .call 36 false [(.t 20), (.t 21)]⟩,
        ⟨(some 23), none, .ld true 5 (.t 3)⟩,
        ⟨(some 24), none, .call 35 true [(.t 22), (.t 23)]⟩,
        ⟨(some 2), none, .mv (.t 24)⟩] [2])
     (.ret))
    (.skip)))
  (.seq (.reg none [⟨(some 25), none, .ld true 5 (.t 3)⟩,
     ⟨(some 26), none, .mv (.t 4)⟩,
     ⟨(some 27), none, .call 36 false [(.t 25), (.t 26)]⟩,
     ⟨(some 5), none, .alloc [.n 2, .n 3, .n 2, .n 1, .r (.v (.int .i64 0))]⟩,
     ⟨none, none, .st 5 (.t 5) (.t 27)⟩] [3, 5])
  (.seq (.seq (.reg none [⟨(some 6), none, .mv (.k (V.i 0))⟩] [3, 5, 6])
   (.bl 0 (.seq (.seq (.reg none [⟨(some 28), none, .mv (.t 6)⟩,
        ⟨(some 29), none, .fa 1 (.t 5)⟩,
        ⟨(some 30), none, .ld false 1 (.t 29)⟩,
        ⟨(some 31), none, .len false (.t 30)⟩,
        ⟨(some 32), none, .bin .lss .i (.t 28) (.t 31)⟩] [3, 5, 6, 32])
     (.cond (.t 32)
      (.skip)
      (.exit 0)))
    (.seq (.block 1 (.seq (.gh (.ga (.reg none [⟨(some 35), none, .fa 1 (.t 3)⟩,
          ⟨(some 36), none, .ld false 1 (.t 35)⟩,
          ⟨(some 37), none, .mv (.t 6)⟩,
          ⟨(some 38), none, .ia 3 (.t 36) (.t 37)⟩,
          ⟨(some 39), none, .fa 2 (.t 38)⟩,
          ⟨(some 40), none, .ld false 1 (.t 39)⟩,
          ⟨(some 7), none, .mv (.t 40)⟩] [3, 5, 6, 7])))
      (.seq (.gh (.ga (.reg none [⟨(some 41), none, .fa 1 (.t 5)⟩,
          ⟨(some 42), none, .ld false 1 (.t 41)⟩,
          ⟨(some 43), none, .mv (.t 6)⟩,
          ⟨(some 44), none, .ia 3 (.t 42) (.t 43)⟩,
          ⟨(some 45), none, .fa 2 (.t 44)⟩,
          ⟨(some 46), none, .ld false 1 (.t 45)⟩,
          ⟨(some 8), none, .mv (.t 46)⟩] [3, 5, 6, 7, 8])))
      (.seq (.seq (.reg none [⟨(some 47), none, .mv (.t 8)⟩,
          ⟨(some 48), none, .len false (.t 47)⟩,
          ⟨(some 49), none, .mv (.t 7)⟩,
          ⟨(some 50), none, .len false (.t 49)⟩,
          ⟨(some 51), none, .bin .lss .i (.t 48) (.t 50)⟩,
          ⟨(some 52), none, .mv (.t 51)⟩,
          ⟨(some 53), (some (52, false)), .mv (.t 8)⟩,
          ⟨(some 54), (some (52, false)), .mv (.t 7)⟩,
          ⟨(some 55), (some (52, false)), .len false (.t 54)⟩,
          ⟨(some 56), (some (52, false)), .sl 2 (.t 53) none (some (.t 55))⟩,
          ⟨(some 57), (some (52, false)), .mv (.t 7)⟩,
          ⟨(some 58), (some (52, false)), .call 37 true [(.t 56), (.t 57)]⟩,
          ⟨(some 59), (some (52, false)), .not (.t 58)⟩,
          ⟨(some 60), none, .pick (.t 52) (.k (V.b true)) (.t 59)⟩,
          ⟨(some 61), none, .mv (.t 60)⟩,
          ⟨(some 62), (some (61, false)), .mv (.t 8)⟩,
          ⟨(some 63), (some (61, false)), .len false (.t 62)⟩,
          ⟨(some 64), (some (61, false)), .fa 1 (.t 5)⟩,
          ⟨(some 65), (some (61, false)), .ld false 1 (.t 64)⟩,
          ⟨(some 66), (some (61, false)), .mv (.t 6)⟩,
          ⟨(some 67), (some (61, false)), .ia 3 (.t 65) (.t 66)⟩,
          ⟨(some 68), (some (61, false)), .fa 1 (.t 67)⟩,
          ⟨(some 69), (some (61, false)), .ld false 1 (.t 68)⟩,
          ⟨(some 70), (some (61, false)), .bin .gtr .i (.t 63) (.t 69)⟩,
          ⟨(some 71), none, .pick (.t 61) (.k (V.b true)) (.t 70)⟩] [3, 5, 6, 7, 8, 71])
       (.cond (.t 71)
        (.seq (.reg none [⟨(some 2), none, .mv (.k (V.b false))⟩] [2])
         (.ret))
        (.skip)))
      (.seq (.reg none [⟨(some 72), none, .mv (.t 7)⟩,
         ⟨(some 73), none, .len false (.t 72)⟩,
         ⟨(some 9), none, .mv (.t 73)⟩] [3, 5, 6, 8, 9])
      (.bl 2 (.seq (.seq (.reg none [⟨(some 74), none, .mv (.t 9)⟩,
           ⟨(some 75), none, .mv (.t 8)⟩,
           ⟨(some 76), none, .len false (.t 75)⟩,
           ⟨(some 77), none, .bin .lss .i (.t 74) (.t 76)⟩] [3, 5, 6, 8, 9, 77])
        (.cond (.t 77)
         (.skip)
         (.exit 2)))
       (.seq (.block 3 (.seq (.reg (some [[], [0], [], [], [2, 3], [2, 3, 4], [2, 3, 4, 5], [0, 1, 2, 3, 4, 5, 6], [0, 1, 2, 3, 4, 5, 6, 7], [], [0, 1, 2, 3, 4, 5, 6, 7, 8, 9]]) [⟨(some 80), none, .fa 3 (.t 5)⟩,
            ⟨(some 81), none, .ld false 1 (.t 80)⟩,
            ⟨(some 82), none, .mv (.t 8)⟩,
            ⟨(some 83), none, .mv (.t 9)⟩,
            ⟨(some 84), none, .ia 2 (.t 82) (.t 83)⟩,
            ⟨(some 85), none, .fa 1 (.t 84)⟩,
            ⟨(some 86), none, .ld false 1 (.t 85)⟩,
            ⟨(some 87), none, .ia 1 (.t 81) (.t 86)⟩,
            ⟨(some 88), none, .ld false 1 (.t 87)⟩,
            ⟨(some 89), none, .mv (.t 6)⟩,
            ⟨(some 90), none, .bin .neq .i (.t 88) (.t 89)⟩] [3, 5, 6, 8, 9, 90])
         (.cond (.t 90)
          (.seq (.reg none [⟨(some 2), none, .mv (.k (V.b false))⟩] [2])
           (.ret))
          (.skip))))
       (.reg none [⟨(some 78), none, .mv (.t 9)⟩,
         ⟨(some 79), none, .bin .add .i (.t 78) (.k (V.i 1))⟩,
         ⟨(some 9), none, .mv (.t 79)⟩] [3, 5, 6, 8, 9])))))))))
    (.reg none [⟨(some 33), none, .mv (.t 6)⟩,
      ⟨(some 34), none, .bin .add .i (.t 33) (.k (V.i 1))⟩,
      ⟨(some 6), none, .mv (.t 34)⟩] [3, 5, 6])))))
  (.seq (.reg none [⟨(some 91), none, .fa 3 (.t 5)⟩,
     ⟨(some 92), none, .ld false 1 (.t 91)⟩,
     ⟨(some 93), none, .fa 3 (.t 3)⟩,
     ⟨(some 94), none, .ld false 1 (.t 93)⟩,
     ⟨(some 95), none, .call 38 true [(.t 92), (.t 94)]⟩,
     ⟨(some 2), none, .mv (.t 95)⟩] [2])
  (.ret)))))))
def rv6 : List RV := [.t 2]
open Go.Proofs Go.IntWalk
set_option linter.unusedVariables false
set_option maxRecDepth 100000
set_option maxHeartbeats 4000000
def L_FnBeltRight_l2 (g : G) (t : TE) (v1 : Int) (x4 : Centre) (z1 : Chute) : Nat → Int → Option (LR Bool Unit)
  | 0, _ => none
  | n2 + 1, v2 =>
    br (g.lt v2 (g.llen (t.r_Item z1.Held)))
    (
     gd (((0 : Int) ≤ v2)) <|
     gt z1.Held (g.nat v2) fun x7 =>
     gd (((0 : Int) ≤ x7.Dest)) <|
     gt x4.Plan (g.nat x7.Dest) fun x8 =>
     br (g.eq x8 v1)
     (
      L_FnBeltRight_l2 g t v1 x4 z1 n2 (g.wrap .i64 (g.add v2 1)))
     (
      some (LR.ret false)))
    (
     some (LR.out ()))
def L_FnBeltRight_l1 (g : G) (t : TE) (x2 : Centre × Int) (x4 : Centre) : List Chute → Int → Option (LR Bool Unit)
  | [], v1 =>
    some (LR.out ())
  | z1 :: ls1, v1 =>
    gt x2.1.Chutes (g.nat v1) fun x5 =>
    br (g.lt (g.llen (t.r_Item z1.Held)) (g.llen (t.r_Item x5.Held)))
    (
     some (LR.ret false))
    (
     gd (((0 : Int) ≤ 0 ∧ 0 ≤ (g.llen (t.r_Item x5.Held)) ∧ (g.llen (t.r_Item x5.Held)) ≤ ((((t.r_Item z1.Held).length) : Nat) : Int))) <|
     lP (List.drop (g.nat 0) (List.take (g.nat (g.llen (t.r_Item x5.Held))) z1.Held)) fun (l1 : List Item) =>
     cl (L_items g t l1 x5.Held) fun x6 =>
     br x6
     (
      br (g.lt z1.Room (g.llen (t.r_Item z1.Held)))
      (
       some (LR.ret false))
      (
       cl (L_FnBeltRight_l2 g t v1 x4 z1 1000000000 (g.llen (t.r_Item x5.Held))) fun o2 => lrL o2 fun y1 =>
       L_FnBeltRight_l1 g t x2 x4 ls1 (g.wrap .i64 (g.add v1 1))))
     (
      some (LR.ret false)))
def L_FnBeltRight (g : G) (t : TE) (a0 : List Int) : Option Bool :=
  lP (L_big g t a0) fun x1 =>
  br x1
  (
   some true)
  (
   cl (S_DrawRunCentre g t a0) fun x2 =>
   cl (S_IsCentre g t (Centre.mk x2.1.Belt x2.1.Chutes x2.1.Inlets x2.1.Plan x2.1.Now)) fun x3 =>
   br x3
   (
    cl (I_RunCentre g t (Centre.mk x2.1.Belt x2.1.Chutes x2.1.Inlets x2.1.Plan x2.1.Now) x2.2) fun x4 =>
    cl (L_FnBeltRight_l1 g t x2 x4 x4.Chutes 0) fun o1 => lr o1 fun y2 =>
    cl (L_ints g t x4.Plan x2.1.Plan) fun x9 =>
    some x9)
   (
    cl (I_RunCentre g t (Centre.mk x2.1.Belt x2.1.Chutes x2.1.Inlets x2.1.Plan x2.1.Now) x2.2) fun x10 =>
    cl (L_centres g t x10 (Centre.mk x2.1.Belt x2.1.Chutes x2.1.Inlets x2.1.Plan x2.1.Now)) fun x11 =>
    some x11))
theorem fit6 : codeFit Try.prog Try.f6.ntmps (Try.f6.body.getD .skip) ir6 = true := by kernel_rfl
theorem c_L_FnBeltRight {g : G} {t : TE} {a0 : List Int} {r : Bool} (hg : g = G.real) (ht : t = TE.real) (h : L_FnBeltRight g t a0 = some r) : Fn Try.prog 6 [.c (.s 1 (t.r_U8 a0))] (.c (.r (.v (.bool r)))) := by
  obtain ⟨X, hX⟩ := hide (.c (.r (.v (.bool r))) : X)
  rw [← hX]
  refine fn_of (rvs := rv6) (j := ir6) Try.func6 rfl fit6 (Nat.le_of_ble_eq_true rfl) (by kernel_rfl) prog_mixed ?_
  intro g2 F hg2 hF
  obtain rfl : g2 = g := hg2.unique.trans hg.symm
  clear hg2
  obtain ⟨wrap, lt, le, eq, quo, rem, band, bor, bxor, shl, shr, nat, int, add, sub, mul, cat, seq, slt, sub3, byte, llen, nadd, nsub, dlen, dapp, dset, drep, rd, rda, up, rsub, dsub, all, sle, slen, hasI, putI, hasS, putS, imin, imax, fzc⟩ := g2
  obtain ⟨r_Item, d_Item, r_Chute, d_Chute, r_Inlet, d_Inlet, r_I64, d_I64, r_U8, d_U8, d_InletF⟩ := t
  have hrda_Item : ∀ l, rda (d_Item l) = r_Item l := rda_Item hg ht
  have hrda_Chute : ∀ l, rda (d_Chute l) = r_Chute l := rda_Chute hg ht
  have hrda_Inlet : ∀ l, rda (d_Inlet l) = r_Inlet l := rda_Inlet hg ht
  have hrda_I64 : ∀ l, rda (d_I64 l) = r_I64 l := rda_I64 hg ht
  unfold L_FnBeltRight at h
  try dsimp only at h
  cbv
  obtain ⟨x1, hx1, h⟩ := of_lP h
  try dsimp only at h
  refine ACall.mk _ _ rfl (hF _ _ _ (c_L_big hg ht hx1)) (.inl rfl) (Nat.le_of_ble_eq_true rfl) ?_
  cbv
  cases hb1 : x1 with
  | true =>
    rw [br_true hb1] at h
    cbv
    obtain rfl := Option.some.inj h
    exact ARet.mk trivial hX.symm
  | false =>
    rw [br_false hb1] at h
    cbv
    obtain ⟨x2, hx2, h⟩ := of_cl h
    obtain ⟨⟨x2_1_Belt, x2_1_Chutes, x2_1_Inlets, x2_1_Plan, x2_1_Now⟩, x2_2⟩ := x2
    try dsimp only at h
    refine ACallR.mk _ _ (.u [.g [.r (.s 2 (r_Item x2_1_Belt)), .r (.s 3 (r_Chute x2_1_Chutes)), .r (.s 2 (r_Inlet x2_1_Inlets)), .r (.s 1 (r_I64 x2_1_Plan)), .r (.v (.int .i64 x2_1_Now))], .c (.r (.v (.int .i64 x2_2)))]) rfl (hF _ _ _ (c_S_DrawRunCentre hg ht hx2)) (.inl rfl) (Nat.le_of_ble_eq_true rfl) (by cbv; (try simp only [hrda_Chute, hrda_I64, hrda_Inlet, hrda_Item])) ?_
    cbv
    obtain ⟨x3, hx3, h⟩ := of_cl h
    try dsimp only at h
    refine ACall.mk _ _ rfl (hF _ _ _ (c_S_IsCentre hg ht hx3)) (.inl rfl) (Nat.le_of_ble_eq_true rfl) ?_
    cbv
    cases hb2 : x3 with
    | true =>
      rw [br_true hb2] at h
      cbv
      obtain ⟨x4, hx4, h⟩ := of_cl h
      obtain ⟨x4_Belt, x4_Chutes, x4_Inlets, x4_Plan, x4_Now⟩ := x4
      try dsimp only at h
      refine ACallR.mk _ _ (.g [.r (.s 2 (r_Item x4_Belt)), .r (.s 3 (r_Chute x4_Chutes)), .r (.s 2 (r_Inlet x4_Inlets)), .r (.s 1 (r_I64 x4_Plan)), .r (.v (.int .i64 x4_Now))]) rfl (hF _ _ _ (c_I_RunCentre hg ht hx4)) (.inl rfl) (Nat.le_of_ble_eq_true rfl) (by cbv; (try simp only [hrda_Chute, hrda_I64, hrda_Inlet, hrda_Item])) ?_
      cbv
      obtain ⟨o1, ho1, h⟩ := of_cl h
      try dsimp only at h
      try rw [hg] at ho1
      try rw [ht] at ho1
      refine ABL.mk { p : Nat × Int // p.1 ≤ x4_Chutes.length ∧ p.2 = ((p.1 : Nat) : Int) ∧ L_FnBeltRight_l1 G.real TE.real ((Centre.mk x2_1_Belt x2_1_Chutes x2_1_Inlets x2_1_Plan x2_1_Now), x2_2) (Centre.mk x4_Belt x4_Chutes x4_Inlets x4_Plan x4_Now) (List.drop p.1 x4_Chutes) p.2 = some o1 } (fun ⟨⟨k1, v1⟩, _⟩ => ({ sl := [(3, .c (.p 0 5 0 0)), (5, .c (.p 1 5 0 0)), (6, .c (.r (.v (.int .i64 v1))))], tab := [(0, some (.foc 5 [] [.r (.s 2 (r_Item x2_1_Belt)), .r (.s 3 (r_Chute x2_1_Chutes)), .r (.s 2 (r_Inlet x2_1_Inlets)), .r (.s 1 (r_I64 x2_1_Plan)), .r (.v (.int .i64 x2_1_Now))] [])), (1, some (.foc 5 [] [.r (.s 2 (r_Item x4_Belt)), .r (.s 3 (r_Chute x4_Chutes)), .r (.s 2 (r_Inlet x4_Inlets)), .r (.s 1 (r_I64 x4_Plan)), .r (.v (.int .i64 x4_Now))] []))] } : St)) 2 (fun p => x4_Chutes.length - p.1.1) ⟨(0, 0), Nat.zero_le _, rfl, ho1⟩ (Unit) (fun _ => ({ sl := [(3, .c (.p 0 5 0 0)), (5, .c (.p 1 5 0 0))], tab := [(0, some (.foc 5 [] [.r (.s 2 (r_Item x2_1_Belt)), .r (.s 3 (r_Chute x2_1_Chutes)), .r (.s 2 (r_Inlet x2_1_Inlets)), .r (.s 1 (r_I64 x2_1_Plan)), .r (.v (.int .i64 x2_1_Now))] [])), (1, some (.foc 5 [] [.r (.s 2 (r_Item x4_Belt)), .r (.s 3 (r_Chute x4_Chutes)), .r (.s 2 (r_Inlet x4_Inlets)), .r (.s 1 (r_I64 x4_Plan)), .r (.v (.int .i64 x4_Now))] []))] } : St)) 2 (fun y => o1 = LR.out y) ?_ ?_ ?_
      · refine Wk.of [(0, some 128), (1, some 272)] rfl rfl ?_ ?_
        · cbv
          all_goals exact ⟨⟨_, rfl, rfl⟩, ⟨_, rfl, rfl⟩, ⟨_, rfl, rfl⟩, trivial⟩
        · cbv
          all_goals exact ⟨⟨_, rfl, _, rfl, rfl, rfl, rfl, rfl, rfl, trivial⟩, ⟨_, rfl, _, rfl, rfl, rfl, rfl, rfl, rfl, trivial⟩, trivial⟩
      · rintro ⟨⟨k1, v1⟩, hk1, hi1, h_1⟩ hq1
        have hm1 := (hq1.2.2.1 1 _ _ _ _ 1 _ _ rfl rfl)
        try dsimp only at hk1 hi1 h_1
        clear hq1
        cbv
        by_cases hc1_ : k1 < x4_Chutes.length
        · have hb3 : lt v1 (llen (r_Chute x4_Chutes)) = true := ltL_true_Chute hg ht hi1 hc1_
          have hs1 := stepL_Chute hg ht hi1 hc1_ hm1
          obtain ⟨z1, hz1⟩ := some_of_lt hc1_
          rw [drop_of_some hz1] at h_1
          rw [L_FnBeltRight_l1] at h_1
          obtain ⟨z1_Cell, z1_Room, z1_Held⟩ := z1
          try rw [← hg] at h_1
          try rw [← ht] at h_1
          try dsimp only at h_1
          rw [hb3]
          cbv
          refine AGh.nil ?_
          cbv
          refine AStep.mk (nn_L hi1) ?_
          cbv
          obtain ⟨x5, hx5, h_1⟩ := of_gt h_1
          obtain ⟨x5_Cell, x5_Room, x5_Held⟩ := x5
          try dsimp only at h_1
          refine AGet.mk _ (r_get_Chute hg ht hx5) ?_
          cbv
          refine AGh.nil ?_
          cbv
          refine AGh.nil ?_
          cbv
          refine AStep.mk (nn_L hi1) ?_
          cbv
          refine AGet.mk _ (r_getL_Chute hg ht hi1 hz1) ?_
          cbv
          refine AGh.nil ?_
          cbv
          cases hb4 : (lt (llen (r_Item z1_Held)) (llen (r_Item x5_Held))) with
          | true =>
            rw [br_true hb4] at h_1
            cbv
            try (rw [hb4]; cbv)
            try (rw [hb4]; cbv)
            try (rw [hb4]; cbv)
            try (rw [hb4]; cbv)
            try (rw [hb4]; cbv)
            try (rw [hb4]; cbv)
            try (rw [hb4]; cbv)
            obtain rfl := Option.some.inj h_1
            try dsimp only [lr, lrL, lrp, lrpL] at h
            obtain rfl := Option.some.inj h
            exact ARet.mk trivial hX.symm
          | false =>
            rw [br_false hb4] at h_1
            cbv
            try (rw [hb4]; cbv)
            try (rw [hb4]; cbv)
            try (rw [hb4]; cbv)
            obtain ⟨hc1, h_1⟩ := of_gd h_1
            refine AStep.mk hc1 ?_
            cbv
            obtain ⟨l1, hl1, h_1⟩ := of_lP h_1
            try dsimp only at h_1
            refine AVal.mk (r_Item l1) (by rw [← hl1]; exact rsub_Item hg ht _ _ _) ?_
            cbv
            try (rw [hb4]; cbv)
            try (rw [hb4]; cbv)
            obtain ⟨x6, hx6, h_1⟩ := of_cl h_1
            try dsimp only at h_1
            refine ACall.mk _ _ rfl (hF _ _ _ (c_L_items hg ht hx6)) (.inl rfl) (Nat.le_of_ble_eq_true rfl) ?_
            cbv
            try (rw [hb4]; cbv)
            try (rw [hb4]; cbv)
            cases hb5 : x6 with
            | true =>
              rw [br_true hb5] at h_1
              cbv
              try (rw [hb5]; cbv)
              try (rw [hb5]; cbv)
              try (rw [hb5]; cbv)
              try (rw [hb5]; cbv)
              try (rw [hb5]; cbv)
              refine AStep.mk (nn_L hi1) ?_
              cbv
              refine AGet.mk _ (r_getL_Chute hg ht hi1 hz1) ?_
              cbv
              try (rw [hb5]; cbv)
              try (rw [hb5]; cbv)
              try (rw [hb5]; cbv)
              try (rw [hb5]; cbv)
              cases hb6 : (lt z1_Room (llen (r_Item z1_Held))) with
              | true =>
                rw [br_true hb6] at h_1
                cbv
                obtain rfl := Option.some.inj h_1
                try dsimp only [lr, lrL, lrp, lrpL] at h
                obtain rfl := Option.some.inj h
                exact ARet.mk trivial hX.symm
              | false =>
                rw [br_false hb6] at h_1
                cbv
                obtain ⟨o2, ho2, h_1⟩ := of_cl h_1
                try dsimp only at h_1
                try rw [hg] at ho2
                try rw [ht] at ho2
                refine ABL.mk { p : Nat × Int // L_FnBeltRight_l2 G.real TE.real v1 (Centre.mk x4_Belt x4_Chutes x4_Inlets x4_Plan x4_Now) (Chute.mk z1_Cell z1_Room z1_Held) p.1 p.2 = some o2 } (fun ⟨⟨n2, v2⟩, _⟩ => ({ sl := [(3, .c (.p 0 5 0 0)), (5, .c (.p 1 5 0 0)), (6, .c (.r (.v (.int .i64 v1)))), (8, .c (.r (.s 2 (r_Item z1_Held)))), (9, .c (.r (.v (.int .i64 v2))))], tab := [(0, some (.foc 5 [] [.r (.s 2 (r_Item x2_1_Belt)), .r (.s 3 (r_Chute x2_1_Chutes)), .r (.s 2 (r_Inlet x2_1_Inlets)), .r (.s 1 (r_I64 x2_1_Plan)), .r (.v (.int .i64 x2_1_Now))] [])), (1, some (.foc 5 [] [.r (.s 2 (r_Item x4_Belt)), .r (.s 3 (r_Chute x4_Chutes)), .r (.s 2 (r_Inlet x4_Inlets)), .r (.s 1 (r_I64 x4_Plan)), .r (.v (.int .i64 x4_Now))] []))] } : St)) 2 (fun p => p.1.1) ⟨(1000000000, (llen (r_Item x5_Held))), ho2⟩ (Unit) (fun _ => ({ sl := [(3, .c (.p 0 5 0 0)), (5, .c (.p 1 5 0 0)), (6, .c (.r (.v (.int .i64 v1))))], tab := [(0, some (.foc 5 [] [.r (.s 2 (r_Item x2_1_Belt)), .r (.s 3 (r_Chute x2_1_Chutes)), .r (.s 2 (r_Inlet x2_1_Inlets)), .r (.s 1 (r_I64 x2_1_Plan)), .r (.v (.int .i64 x2_1_Now))] [])), (1, some (.foc 5 [] [.r (.s 2 (r_Item x4_Belt)), .r (.s 3 (r_Chute x4_Chutes)), .r (.s 2 (r_Inlet x4_Inlets)), .r (.s 1 (r_I64 x4_Plan)), .r (.v (.int .i64 x4_Now))] []))] } : St)) 2 (fun y => o2 = LR.out y) ?_ ?_ ?_
                · refine Wk.of [(0, some 0), (1, some 1)] rfl rfl ?_ ?_
                  · cbv
                    all_goals exact ⟨⟨_, rfl, rfl⟩, ⟨_, rfl, rfl⟩, ⟨_, rfl, rfl⟩, ⟨_, rfl, rfl⟩, ⟨_, rfl, rfl⟩, trivial⟩
                  · cbv
                    all_goals exact ⟨⟨_, rfl, _, rfl, rfl, rfl, rfl, rfl, rfl, trivial⟩, ⟨_, rfl, _, rfl, rfl, rfl, rfl, rfl, rfl, trivial⟩, trivial⟩
                · rintro ⟨⟨n2, v2⟩, h_2⟩ hq2
                  try dsimp only at h_2
                  clear hq2
                  rcases n2 with _ | n2
                  · rw [L_FnBeltRight_l2] at h_2; cases h_2
                  · rw [L_FnBeltRight_l2] at h_2
                    try rw [← hg] at h_2
                    try rw [← ht] at h_2
                    try dsimp only at h_2
                    cbv
                    cases hb7 : (lt v2 (llen (r_Item z1_Held))) with
                    | true =>
                      rw [br_true hb7] at h_2
                      cbv
                      obtain ⟨hc2, h_2⟩ := of_gd h_2
                      refine AStep.mk hc2 ?_
                      cbv
                      obtain ⟨x7, hx7, h_2⟩ := of_gt h_2
                      obtain ⟨x7_Id, x7_Dest⟩ := x7
                      try dsimp only at h_2
                      refine AGet.mk _ (r_get_Item hg ht hx7) ?_
                      cbv
                      obtain ⟨hc3, h_2⟩ := of_gd h_2
                      refine AStep.mk hc3 ?_
                      cbv
                      obtain ⟨x8, hx8, h_2⟩ := of_gt h_2
                      try dsimp only at h_2
                      refine AGet.mk _ (r_get_I64 hg ht hx8) ?_
                      cbv
                      cases hb8 : (eq x8 v1) with
                      | true =>
                        rw [br_true hb8] at h_2
                        cbv
                        try rw [hg] at h_2
                        try rw [ht] at h_2
                        refine ⟨⟨(n2, (wrap .i64 (add v2 1))), h_2⟩, Wk.of [(0, some 0), (1, some 1)] rfl rfl ?_ ?_, Nat.lt_succ_self _⟩
                        · cbv
                          all_goals exact ⟨⟨_, rfl, rfl⟩, ⟨_, rfl, rfl⟩, ⟨_, rfl, rfl⟩, ⟨_, rfl, rfl⟩, ⟨_, rfl, rfl⟩, trivial⟩
                        · cbv
                          all_goals exact ⟨⟨_, rfl, _, rfl, rfl, rfl, rfl, rfl, rfl, trivial⟩, ⟨_, rfl, _, rfl, rfl, rfl, rfl, rfl, rfl, trivial⟩, trivial⟩
                      | false =>
                        rw [br_false hb8] at h_2
                        cbv
                        obtain rfl := Option.some.inj h_2
                        try dsimp only [lr, lrL, lrp, lrpL] at h_1
                        obtain rfl := Option.some.inj h_1
                        try dsimp only [lr, lrL, lrp, lrpL] at h
                        obtain rfl := Option.some.inj h
                        exact ARet.mk trivial hX.symm
                    | false =>
                      rw [br_false hb7] at h_2
                      cbv
                      refine ⟨(), Wk.of [(0, some 0), (1, some 1)] rfl rfl ?_ ?_, (Option.some.inj h_2).symm⟩
                      · cbv
                        all_goals exact ⟨⟨_, rfl, rfl⟩, ⟨_, rfl, rfl⟩, ⟨_, rfl, rfl⟩, trivial⟩
                      · cbv
                        all_goals exact ⟨⟨_, rfl, _, rfl, rfl, rfl, rfl, rfl, rfl, trivial⟩, ⟨_, rfl, _, rfl, rfl, rfl, rfl, rfl, rfl, trivial⟩, trivial⟩
                · rintro _ hy2
                  replace hy2 := hy2.symm
                  subst hy2
                  try dsimp only [lr, lrL, lrp, lrpL] at h_1
                  cbv
                  try rw [hg] at h_1
                  try rw [ht] at h_1
                  refine ⟨⟨(k1 + 1, (wrap .i64 (add v1 1))), hc1_, hs1, h_1⟩, Wk.of [(0, some 0), (1, some 1)] rfl rfl ?_ ?_, meas_L hc1_⟩
                  · cbv
                    all_goals exact ⟨⟨_, rfl, rfl⟩, ⟨_, rfl, rfl⟩, ⟨_, rfl, rfl⟩, trivial⟩
                  · cbv
                    all_goals exact ⟨⟨_, rfl, _, rfl, rfl, rfl, rfl, rfl, rfl, trivial⟩, ⟨_, rfl, _, rfl, rfl, rfl, rfl, rfl, rfl, trivial⟩, trivial⟩
            | false =>
              rw [br_false hb5] at h_1
              cbv
              try (rw [hb5]; cbv)
              try (rw [hb5]; cbv)
              try (rw [hb5]; cbv)
              try (rw [hb5]; cbv)
              try (rw [hb5]; cbv)
              try (rw [hb5]; cbv)
              try (rw [hb5]; cbv)
              try (rw [hb5]; cbv)
              try (rw [hb5]; cbv)
              obtain rfl := Option.some.inj h_1
              try dsimp only [lr, lrL, lrp, lrpL] at h
              obtain rfl := Option.some.inj h
              exact ARet.mk trivial hX.symm
        · have hb3 : lt v1 (llen (r_Chute x4_Chutes)) = false := ltL_false_Chute hg ht hi1 hc1_
          rw [List.drop_of_length_le (Nat.le_of_not_lt hc1_)] at h_1
          rw [L_FnBeltRight_l1] at h_1
          try rw [← hg] at h_1
          try rw [← ht] at h_1
          try dsimp only at h_1
          rw [hb3]
          cbv
          refine ⟨(), Wk.of [(0, some 0), (1, some 1)] rfl rfl ?_ ?_, (Option.some.inj h_1).symm⟩
          · cbv
            all_goals exact ⟨⟨_, rfl, rfl⟩, ⟨_, rfl, rfl⟩, trivial⟩
          · cbv
            all_goals exact ⟨⟨_, rfl, _, rfl, rfl, rfl, rfl, rfl, rfl, trivial⟩, ⟨_, rfl, _, rfl, rfl, rfl, rfl, rfl, rfl, trivial⟩, trivial⟩
      · rintro _ hy1
        replace hy1 := hy1.symm
        subst hy1
        try dsimp only [lr, lrL, lrp, lrpL] at h
        cbv
        obtain ⟨x9, hx9, h⟩ := of_cl h
        try dsimp only at h
        refine ACall.mk _ _ rfl (hF _ _ _ (c_L_ints hg ht hx9)) (.inl rfl) (Nat.le_of_ble_eq_true rfl) ?_
        cbv
        obtain rfl := Option.some.inj h
        exact ARet.mk trivial hX.symm
    | false =>
      rw [br_false hb2] at h
      cbv
      obtain ⟨x10, hx10, h⟩ := of_cl h
      obtain ⟨x10_Belt, x10_Chutes, x10_Inlets, x10_Plan, x10_Now⟩ := x10
      try dsimp only at h
      refine ACallR.mk _ _ (.g [.r (.s 2 (r_Item x10_Belt)), .r (.s 3 (r_Chute x10_Chutes)), .r (.s 2 (r_Inlet x10_Inlets)), .r (.s 1 (r_I64 x10_Plan)), .r (.v (.int .i64 x10_Now))]) rfl (hF _ _ _ (c_I_RunCentre hg ht hx10)) (.inl rfl) (Nat.le_of_ble_eq_true rfl) (by cbv; (try simp only [hrda_Chute, hrda_I64, hrda_Inlet, hrda_Item])) ?_
      cbv
      obtain ⟨x11, hx11, h⟩ := of_cl h
      try dsimp only at h
      refine ACall.mk _ _ rfl (hF _ _ _ (c_L_centres hg ht hx11)) (.inl rfl) (Nat.le_of_ble_eq_true rfl) ?_
      cbv
      obtain rfl := Option.some.inj h
      exact ARet.mk trivial hX.symm
end Go.Vs
