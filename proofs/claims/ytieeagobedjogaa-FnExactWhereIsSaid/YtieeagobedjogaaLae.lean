/- Part of the proofs of this seat's laws: Lae. No condition. -/
import Derived.Test.YtieeagobedjogaaTy
import Derived.Test.YtieeagobedjogaaTIRall
import Derived.Test.YtieeagobedjogaaLab
import Derived.Test.YtieeagobedjogaaLaa
set_option linter.unusedVariables false
set_option linter.unusedSimpArgs false
set_option linter.unusedSectionVars false
namespace Go.Vs
set_option maxRecDepth 100000
def ir102 : J :=
  .seq (.reg none [⟨(some 4), none, .mv (.k (V.b false))⟩] [0, 1])
  (.seq (.seq (.reg none [⟨(some 7), none, .mv (.t 0)⟩,
      ⟨(some 8), none, .len false (.t 7)⟩,
      ⟨(some 9), none, .mv (.k (V.i 0))⟩] [1, 7, 8, 9])
   (.bl 0 (.seq (.reg none [⟨(some 10), none, .bin .lss .i (.t 9) (.t 8)⟩] [1, 7, 8, 9, 10])
    (.seq (.cond (.t 10)
      (.skip)
      (.exit 0))
    (.seq (.block 1 (.seq (.reg none [⟨(some 11), none, .ia 2 (.t 7) (.t 9)⟩,
         ⟨(some 12), none, .ld true 2 (.t 11)⟩,
         ⟨(some 6), none, .alloc [.r (.v (.int .i64 0)), .r (.v (.int .i64 0))]⟩,
         ⟨none, none, .st 2 (.t 6) (.t 12)⟩] [1, 6, 7, 8, 9])
      (.seq (.reg none [⟨(some 13), none, .fa 0 (.t 6)⟩,
         ⟨(some 14), none, .ld false 1 (.t 13)⟩,
         ⟨(some 15), none, .mv (.t 1)⟩,
         ⟨(some 16), none, .bin .eql .i (.t 14) (.t 15)⟩] [1, 7, 8, 9, 16])
      (.cond (.t 16)
       (.seq (.reg none [⟨(some 4), none, .mv (.k (V.b true))⟩] [4])
        (.ret))
       (.skip)))))
    (.reg none [⟨(some 17), none, .bin .add .i (.t 9) (.k (V.i 1))⟩,
      ⟨(some 9), none, .mv (.t 17)⟩] [1, 7, 8, 9]))))))
  (.seq (.reg none [⟨(some 4), none, .mv (.k (V.b false))⟩] [4])
  (.ret)))
def rv102 : List RV := [.t 4]
open Go.Proofs Go.IntWalk
set_option linter.unusedVariables false
set_option maxRecDepth 100000
set_option maxHeartbeats 4000000
def I_hasItem_l1 (g : G) (t : TE) (a1 : Int) : List Item → LR Bool Unit
  | [] =>
    (LR.out ())
  | z1 :: ls1 =>
    br (g.eq z1.Id a1)
    (
     (LR.ret true))
    (
     I_hasItem_l1 g t a1 ls1)
def I_hasItem (g : G) (t : TE) (a0 : List Item) (a1 : Int) : Bool :=
  lP (I_hasItem_l1 g t a1 a0) fun o1 => lrp o1 fun y1 =>
  false
theorem fit102 : codeFit Try.prog Try.f102.ntmps (Try.f102.body.getD .skip) ir102 = true := by kernel_rfl
theorem c_I_hasItem {g : G} {t : TE} {a0 : List Item} {a1 : Int} {r : Bool} (hg : g = G.real) (ht : t = TE.real) (h : I_hasItem g t a0 a1 = r) : Fn Try.prog 102 [.c (.s 2 (t.r_Item a0)), .c (.v (.int .i64 a1))] (.c (.r (.v (.bool r)))) := by
  obtain ⟨X, hX⟩ := hide (.c (.r (.v (.bool r))) : X)
  rw [← hX]
  refine fn_of (rvs := rv102) (j := ir102) Try.func102 rfl fit102 (Nat.le_of_ble_eq_true rfl) (by kernel_rfl) prog_mixed ?_
  intro g2 F hg2 hF
  obtain rfl : g2 = g := hg2.unique.trans hg.symm
  clear hg2
  obtain ⟨wrap, lt, le, eq, quo, rem, band, bor, bxor, shl, shr, nat, int, add, sub, mul, cat, seq, slt, sub3, byte, llen, nadd, nsub, dlen, dapp, dset, drep, rd, rda, up, rsub, dsub, all, sle, slen, hasI, putI, hasS, putS, imin, imax, fzc⟩ := g2
  obtain ⟨r_Item, d_Item, r_Chute, d_Chute, r_Inlet, d_Inlet, r_I64, d_I64, r_U8, d_U8⟩ := t
  unfold I_hasItem at h
  try dsimp only at h
  cbv
  obtain ⟨o1, ho1, h⟩ := of_lP h
  try dsimp only at h
  try rw [hg] at ho1
  try rw [ht] at ho1
  refine ABL.mk { p : Nat × Int // p.1 ≤ a0.length ∧ p.2 = ((p.1 : Nat) : Int) ∧ I_hasItem_l1 G.real TE.real a1 (List.drop p.1 a0) = o1 } (fun ⟨⟨k1, v1⟩, _⟩ => ({ sl := [(1, .c (.r (.v (.int .i64 a1)))), (7, .c (.r (.s 2 (r_Item a0)))), (8, .c (.r (.v (.int .i64 (llen (r_Item a0)))))), (9, .c (.r (.v (.int .i64 v1))))], tab := [] } : St)) 0 (fun p => a0.length - p.1.1) ⟨(0, 0), Nat.zero_le _, rfl, ho1⟩ (Unit) (fun _ => ({ sl := [], tab := [] } : St)) 0 (fun y => o1 = LR.out y) ?_ ?_ ?_
  · refine Wk.of [] rfl rfl ?_ ?_
    · cbv
      all_goals exact ⟨⟨_, rfl, rfl⟩, ⟨_, rfl, rfl⟩, ⟨_, rfl, rfl⟩, ⟨_, rfl, rfl⟩, trivial⟩
    · cbv
      all_goals exact trivial
  · rintro ⟨⟨k1, v1⟩, hk1, hi1, h_1⟩ hq1
    have hm1 := (hq1.1 7 _ _ rfl)
    try dsimp only at hk1 hi1 h_1
    clear hq1
    cbv
    by_cases hc1_ : k1 < a0.length
    · have hb1 : lt v1 (llen (r_Item a0)) = true := ltL_true_Item hg ht hi1 hc1_
      have hs1 := stepL_Item hg ht hi1 hc1_ hm1
      obtain ⟨z1, hz1⟩ := some_of_lt hc1_
      rw [drop_of_some hz1] at h_1
      rw [I_hasItem_l1] at h_1
      obtain ⟨z1_Id, z1_Dest⟩ := z1
      try rw [← hg] at h_1
      try rw [← ht] at h_1
      try dsimp only at h_1
      rw [hb1]
      cbv
      refine AStep.mk (nn_L hi1) ?_
      cbv
      refine AGet.mk _ (r_getL_Item hg ht hi1 hz1) ?_
      cbv
      cases hb2 : (eq z1_Id a1) with
      | true =>
        rw [br_true hb2] at h_1
        cbv
        subst h_1
        try dsimp only [lr, lrL, lrp, lrpL] at h
        subst h
        exact ARet.mk trivial hX.symm
      | false =>
        rw [br_false hb2] at h_1
        cbv
        try rw [hg] at h_1
        try rw [ht] at h_1
        refine ⟨⟨(k1 + 1, (wrap .i64 (add v1 1))), hc1_, hs1, h_1⟩, Wk.of [] rfl rfl ?_ ?_, meas_L hc1_⟩
        · cbv
          all_goals exact ⟨⟨_, rfl, rfl⟩, ⟨_, rfl, rfl⟩, ⟨_, rfl, rfl⟩, ⟨_, rfl, rfl⟩, trivial⟩
        · cbv
          all_goals exact trivial
    · have hb1 : lt v1 (llen (r_Item a0)) = false := ltL_false_Item hg ht hi1 hc1_
      rw [List.drop_of_length_le (Nat.le_of_not_lt hc1_)] at h_1
      rw [I_hasItem_l1] at h_1
      try rw [← hg] at h_1
      try rw [← ht] at h_1
      try dsimp only at h_1
      rw [hb1]
      cbv
      refine ⟨(), Wk.of [] rfl rfl ?_ ?_, h_1.symm⟩
      · cbv
        all_goals exact trivial
      · cbv
        all_goals exact trivial
  · rintro _ hy1
    replace hy1 := hy1.symm
    subst hy1
    try dsimp only [lr, lrL, lrp, lrpL] at h
    cbv
    subst h
    exact ARet.mk trivial hX.symm
end Go.Vs
namespace Go.Vs
set_option maxRecDepth 100000
def ir52 : J :=
  .seq (.reg none [⟨(some 2), none, .box (.t 0)⟩,
     ⟨(some 4), none, .mv (.k (V.i 0))⟩,
     ⟨(some 5), none, .mv (.k (V.i 0))⟩] [1, 2])
  (.seq (.seq (.reg none [⟨(some 12), none, .ld true 5 (.t 2)⟩,
      ⟨(some 13), none, .call 32 true [(.t 12)]⟩,
      ⟨(some 14), none, .not (.t 13)⟩,
      ⟨(some 15), none, .mv (.t 14)⟩,
      ⟨(some 16), (some (15, false)), .mv (.t 1)⟩,
      ⟨(some 17), (some (15, false)), .bin .eql .i (.t 16) (.k (V.i 0))⟩,
      ⟨(some 18), none, .pick (.t 15) (.k (V.b true)) (.t 17)⟩] [1, 2, 18])
   (.cond (.t 18)
    (.seq (.reg none [⟨(some 4), none, .mv (.k (V.i 0))⟩,
        ⟨(some 5), none, .mv (.k (V.i 0))⟩] [4, 5])
     (.ret))
    (.skip)))
  (.seq (.seq (.reg none [⟨(some 19), none, .fa 0 (.t 2)⟩,
      ⟨(some 20), none, .ld false 1 (.t 19)⟩,
      ⟨(some 21), none, .len false (.t 20)⟩,
      ⟨(some 22), none, .mv (.k (V.i 0))⟩] [1, 2, 20, 21, 22])
   (.bl 0 (.seq (.reg none [⟨(some 23), none, .bin .lss .i (.t 22) (.t 21)⟩] [1, 2, 20, 21, 22, 23])
    (.seq (.cond (.t 23)
      (.skip)
      (.exit 0))
    (.seq (.block 1 (.seq (.reg none [⟨(some 24), none, .mv (.t 22)⟩,
         ⟨(some 25), none, .ia 2 (.t 20) (.t 22)⟩,
         ⟨(some 26), none, .ld true 2 (.t 25)⟩,
         ⟨(some 7), none, .alloc [.r (.v (.int .i64 0)), .r (.v (.int .i64 0))]⟩,
         ⟨(some 6), none, .mv (.t 24)⟩,
         ⟨none, none, .st 2 (.t 7) (.t 26)⟩] [1, 2, 6, 7, 20, 21, 22])
      (.seq (.reg none [⟨(some 27), none, .fa 0 (.t 7)⟩,
         ⟨(some 28), none, .ld false 1 (.t 27)⟩,
         ⟨(some 29), none, .mv (.t 1)⟩,
         ⟨(some 30), none, .bin .eql .i (.t 28) (.t 29)⟩] [1, 2, 6, 20, 21, 22, 30])
      (.cond (.t 30)
       (.seq (.reg none [⟨(some 31), none, .mv (.t 6)⟩,
           ⟨(some 4), none, .mv (.k (V.i 1))⟩,
           ⟨(some 5), none, .mv (.t 31)⟩] [4, 5])
        (.ret))
       (.skip)))))
    (.reg none [⟨(some 32), none, .bin .add .i (.t 22) (.k (V.i 1))⟩,
      ⟨(some 22), none, .mv (.t 32)⟩] [1, 2, 20, 21, 22]))))))
  (.seq (.seq (.reg none [⟨(some 33), none, .fa 1 (.t 2)⟩,
      ⟨(some 34), none, .ld false 1 (.t 33)⟩,
      ⟨(some 35), none, .len false (.t 34)⟩,
      ⟨(some 36), none, .mv (.k (V.i 0))⟩] [1, 2, 34, 35, 36])
   (.bl 2 (.seq (.reg none [⟨(some 37), none, .bin .lss .i (.t 36) (.t 35)⟩] [1, 2, 34, 35, 36, 37])
    (.seq (.cond (.t 37)
      (.skip)
      (.exit 2))
    (.seq (.block 3 (.seq (.reg none [⟨(some 38), none, .mv (.t 36)⟩,
         ⟨(some 39), none, .ia 3 (.t 34) (.t 36)⟩,
         ⟨(some 40), none, .ld true 3 (.t 39)⟩,
         ⟨(some 9), none, .alloc [.r (.v (.int .i64 0)), .r (.v (.int .i64 0)), .n 2]⟩,
         ⟨(some 8), none, .mv (.t 38)⟩,
         ⟨none, none, .st 3 (.t 9) (.t 40)⟩] [1, 2, 8, 9, 34, 35, 36])
      (.seq (.reg none [⟨(some 41), none, .fa 2 (.t 9)⟩,
         ⟨(some 42), none, .ld false 1 (.t 41)⟩,
         ⟨(some 43), none, .mv (.t 1)⟩,
         ⟨(some 44), none, .call 102 true [(.t 42), (.t 43)]⟩] [1, 2, 8, 34, 35, 36, 44])
      (.cond (.t 44)
       (.seq (.reg none [⟨(some 45), none, .mv (.t 8)⟩,
           ⟨(some 4), none, .mv (.k (V.i 2))⟩,
           ⟨(some 5), none, .mv (.t 45)⟩] [4, 5])
        (.ret))
       (.skip)))))
    (.reg none [⟨(some 46), none, .bin .add .i (.t 36) (.k (V.i 1))⟩,
      ⟨(some 36), none, .mv (.t 46)⟩] [1, 2, 34, 35, 36]))))))
  (.seq (.seq (.reg none [⟨(some 47), none, .fa 2 (.t 2)⟩,
      ⟨(some 48), none, .ld false 1 (.t 47)⟩,
      ⟨(some 49), none, .len false (.t 48)⟩,
      ⟨(some 50), none, .mv (.k (V.i 0))⟩] [1, 48, 49, 50])
   (.bl 4 (.seq (.reg none [⟨(some 51), none, .bin .lss .i (.t 50) (.t 49)⟩] [1, 48, 49, 50, 51])
    (.seq (.cond (.t 51)
      (.skip)
      (.exit 4))
    (.seq (.block 5 (.seq (.reg none [⟨(some 52), none, .mv (.t 50)⟩,
         ⟨(some 53), none, .ia 2 (.t 48) (.t 50)⟩,
         ⟨(some 54), none, .ld true 2 (.t 53)⟩,
         ⟨(some 11), none, .alloc [.r (.v (.int .i64 0)), .n 2]⟩,
         ⟨(some 10), none, .mv (.t 52)⟩,
         ⟨none, none, .st 2 (.t 11) (.t 54)⟩] [1, 10, 11, 48, 49, 50])
      (.seq (.reg none [⟨(some 55), none, .fa 1 (.t 11)⟩,
         ⟨(some 56), none, .ld false 1 (.t 55)⟩,
         ⟨(some 57), none, .mv (.t 1)⟩,
         ⟨(some 58), none, .call 102 true [(.t 56), (.t 57)]⟩] [1, 10, 48, 49, 50, 58])
      (.cond (.t 58)
       (.seq (.reg none [⟨(some 59), none, .mv (.t 10)⟩,
           ⟨(some 4), none, .mv (.k (V.i 3))⟩,
           ⟨(some 5), none, .mv (.t 59)⟩] [4, 5])
        (.ret))
       (.skip)))))
    (.reg none [⟨(some 60), none, .bin .add .i (.t 50) (.k (V.i 1))⟩,
      ⟨(some 50), none, .mv (.t 60)⟩] [1, 48, 49, 50]))))))
  (.seq (.reg none [⟨(some 4), none, .mv (.k (V.i 0))⟩,
     ⟨(some 5), none, .mv (.k (V.i 0))⟩] [4, 5])
  (.ret))))))
def rv52 : List RV := [.t 4, .t 5]
open Go.Proofs Go.IntWalk
set_option linter.unusedVariables false
set_option maxRecDepth 100000
set_option maxHeartbeats 4000000
def I_WhereIs_l3 (g : G) (t : TE) (a1 : Int) : List Inlet → Int → LR (Int × Int) Unit
  | [], v3 =>
    (LR.out ())
  | z3 :: ls3, v3 =>
    lP (I_hasItem g t z3.Wait a1) fun x3 =>
    br x3
    (
     (LR.ret ((3, v3))))
    (
     I_WhereIs_l3 g t a1 ls3 (g.wrap .i64 (g.add v3 1)))
def I_WhereIs_l2 (g : G) (t : TE) (a1 : Int) : List Chute → Int → LR (Int × Int) Unit
  | [], v2 =>
    (LR.out ())
  | z2 :: ls2, v2 =>
    lP (I_hasItem g t z2.Held a1) fun x2 =>
    br x2
    (
     (LR.ret ((2, v2))))
    (
     I_WhereIs_l2 g t a1 ls2 (g.wrap .i64 (g.add v2 1)))
def I_WhereIs_l1 (g : G) (t : TE) (a1 : Int) : List Item → Int → LR (Int × Int) Unit
  | [], v1 =>
    (LR.out ())
  | z1 :: ls1, v1 =>
    br (g.eq z1.Id a1)
    (
     (LR.ret ((1, v1))))
    (
     I_WhereIs_l1 g t a1 ls1 (g.wrap .i64 (g.add v1 1)))
def I_WhereIs (g : G) (t : TE) (a0 : Centre) (a1 : Int) : Option (Int × Int) :=
  cl (I_IsCentre g t a0) fun x1 =>
  br x1
  (
   br (g.eq a1 0)
   (
    some ((0, 0)))
   (
    lP (I_WhereIs_l1 g t a1 a0.Belt 0) fun o1 => lr o1 fun y1 =>
    lP (I_WhereIs_l2 g t a1 a0.Chutes 0) fun o2 => lr o2 fun y2 =>
    lP (I_WhereIs_l3 g t a1 a0.Inlets 0) fun o3 => lr o3 fun y3 =>
    some ((0, 0))))
  (
   some ((0, 0)))
theorem fit52 : codeFit Try.prog Try.f52.ntmps (Try.f52.body.getD .skip) ir52 = true := by kernel_rfl
theorem c_I_WhereIs {g : G} {t : TE} {a0 : Centre} {a1 : Int} {r : Int × Int} (hg : g = G.real) (ht : t = TE.real) (h : I_WhereIs g t a0 a1 = some r) : Fn Try.prog 52 [.g (Centre.rs t a0), .c (.v (.int .i64 a1))] (.u [.c (.r (.v (.int .i64 r.1))), .c (.r (.v (.int .i64 r.2)))]) := by
  obtain ⟨X, hX⟩ := hide (.u [.c (.r (.v (.int .i64 r.1))), .c (.r (.v (.int .i64 r.2)))] : X)
  rw [← hX]
  refine fn_of (rvs := rv52) (j := ir52) Try.func52 rfl fit52 (Nat.le_of_ble_eq_true rfl) (by kernel_rfl) prog_mixed ?_
  intro g2 F hg2 hF
  obtain rfl : g2 = g := hg2.unique.trans hg.symm
  clear hg2
  obtain ⟨wrap, lt, le, eq, quo, rem, band, bor, bxor, shl, shr, nat, int, add, sub, mul, cat, seq, slt, sub3, byte, llen, nadd, nsub, dlen, dapp, dset, drep, rd, rda, up, rsub, dsub, all, sle, slen, hasI, putI, hasS, putS, imin, imax, fzc⟩ := g2
  obtain ⟨r_Item, d_Item, r_Chute, d_Chute, r_Inlet, d_Inlet, r_I64, d_I64, r_U8, d_U8⟩ := t
  obtain ⟨a0_Belt, a0_Chutes, a0_Inlets, a0_Plan, a0_Now⟩ := a0
  unfold I_WhereIs at h
  try dsimp only at h
  cbv
  obtain ⟨x1, hx1, h⟩ := of_cl h
  try dsimp only at h
  refine ACall.mk _ _ rfl (hF _ _ _ (c_I_IsCentre hg ht hx1)) (.inl rfl) (Nat.le_of_ble_eq_true rfl) ?_
  cbv
  cases hb1 : x1 with
  | true =>
    rw [br_true hb1] at h
    cbv
    try (rw [hb1]; cbv)
    try (rw [hb1]; cbv)
    cases hb2 : (eq a1 0) with
    | true =>
      rw [br_true hb2] at h
      cbv
      obtain rfl := Option.some.inj h
      exact ARet.mk trivial hX.symm
    | false =>
      rw [br_false hb2] at h
      cbv
      obtain ⟨o1, ho1, h⟩ := of_lP h
      try dsimp only at h
      try rw [hg] at ho1
      try rw [ht] at ho1
      refine ABL.mk { p : Nat × Int // p.1 ≤ a0_Belt.length ∧ p.2 = ((p.1 : Nat) : Int) ∧ I_WhereIs_l1 G.real TE.real a1 (List.drop p.1 a0_Belt) p.2 = o1 } (fun ⟨⟨k1, v1⟩, _⟩ => ({ sl := [(1, .c (.r (.v (.int .i64 a1)))), (2, .c (.p 0 5 0 0)), (20, .c (.r (.s 2 (r_Item a0_Belt)))), (21, .c (.r (.v (.int .i64 (llen (r_Item a0_Belt)))))), (22, .c (.r (.v (.int .i64 v1))))], tab := [(0, some (.foc 5 [] [.r (.s 2 (r_Item a0_Belt)), .r (.s 3 (r_Chute a0_Chutes)), .r (.s 2 (r_Inlet a0_Inlets)), .r (.s 1 (r_I64 a0_Plan)), .r (.v (.int .i64 a0_Now))] []))] } : St)) 1 (fun p => a0_Belt.length - p.1.1) ⟨(0, 0), Nat.zero_le _, rfl, ho1⟩ (Unit) (fun _ => ({ sl := [(1, .c (.r (.v (.int .i64 a1)))), (2, .c (.p 0 5 0 0))], tab := [(0, some (.foc 5 [] [.r (.s 2 (r_Item a0_Belt)), .r (.s 3 (r_Chute a0_Chutes)), .r (.s 2 (r_Inlet a0_Inlets)), .r (.s 1 (r_I64 a0_Plan)), .r (.v (.int .i64 a0_Now))] []))] } : St)) 1 (fun y => o1 = LR.out y) ?_ ?_ ?_
      · refine Wk.of [(0, some 0)] rfl rfl ?_ ?_
        · cbv
          all_goals exact ⟨⟨_, rfl, rfl⟩, ⟨_, rfl, rfl⟩, ⟨_, rfl, rfl⟩, ⟨_, rfl, rfl⟩, ⟨_, rfl, rfl⟩, trivial⟩
        · cbv
          all_goals exact ⟨⟨_, rfl, _, rfl, rfl, rfl, rfl, rfl, rfl, trivial⟩, trivial⟩
      · rintro ⟨⟨k1, v1⟩, hk1, hi1, h_1⟩ hq1
        have hm1 := (hq1.1 20 _ _ rfl)
        try dsimp only at hk1 hi1 h_1
        clear hq1
        cbv
        by_cases hc1_ : k1 < a0_Belt.length
        · have hb3 : lt v1 (llen (r_Item a0_Belt)) = true := ltL_true_Item hg ht hi1 hc1_
          have hs1 := stepL_Item hg ht hi1 hc1_ hm1
          obtain ⟨z1, hz1⟩ := some_of_lt hc1_
          rw [drop_of_some hz1] at h_1
          rw [I_WhereIs_l1] at h_1
          obtain ⟨z1_Id, z1_Dest⟩ := z1
          try rw [← hg] at h_1
          try rw [← ht] at h_1
          try dsimp only at h_1
          rw [hb3]
          cbv
          refine AStep.mk (nn_L hi1) ?_
          cbv
          refine AGet.mk _ (r_getL_Item hg ht hi1 hz1) ?_
          cbv
          cases hb4 : (eq z1_Id a1) with
          | true =>
            rw [br_true hb4] at h_1
            cbv
            subst h_1
            try dsimp only [lr, lrL, lrp, lrpL] at h
            obtain rfl := Option.some.inj h
            exact ARet.mk trivial hX.symm
          | false =>
            rw [br_false hb4] at h_1
            cbv
            try rw [hg] at h_1
            try rw [ht] at h_1
            refine ⟨⟨(k1 + 1, (wrap .i64 (add v1 1))), hc1_, hs1, h_1⟩, Wk.of [(0, some 0)] rfl rfl ?_ ?_, meas_L hc1_⟩
            · cbv
              all_goals exact ⟨⟨_, rfl, rfl⟩, ⟨_, rfl, rfl⟩, ⟨_, rfl, rfl⟩, ⟨_, rfl, rfl⟩, ⟨_, rfl, rfl⟩, trivial⟩
            · cbv
              all_goals exact ⟨⟨_, rfl, _, rfl, rfl, rfl, rfl, rfl, rfl, trivial⟩, trivial⟩
        · have hb3 : lt v1 (llen (r_Item a0_Belt)) = false := ltL_false_Item hg ht hi1 hc1_
          rw [List.drop_of_length_le (Nat.le_of_not_lt hc1_)] at h_1
          rw [I_WhereIs_l1] at h_1
          try rw [← hg] at h_1
          try rw [← ht] at h_1
          try dsimp only at h_1
          rw [hb3]
          cbv
          refine ⟨(), Wk.of [(0, some 0)] rfl rfl ?_ ?_, h_1.symm⟩
          · cbv
            all_goals exact ⟨⟨_, rfl, rfl⟩, ⟨_, rfl, rfl⟩, trivial⟩
          · cbv
            all_goals exact ⟨⟨_, rfl, _, rfl, rfl, rfl, rfl, rfl, rfl, trivial⟩, trivial⟩
      · rintro _ hy1
        replace hy1 := hy1.symm
        subst hy1
        try dsimp only [lr, lrL, lrp, lrpL] at h
        cbv
        obtain ⟨o2, ho2, h⟩ := of_lP h
        try dsimp only at h
        try rw [hg] at ho2
        try rw [ht] at ho2
        refine ABL.mk { p : Nat × Int // p.1 ≤ a0_Chutes.length ∧ p.2 = ((p.1 : Nat) : Int) ∧ I_WhereIs_l2 G.real TE.real a1 (List.drop p.1 a0_Chutes) p.2 = o2 } (fun ⟨⟨k2, v2⟩, _⟩ => ({ sl := [(1, .c (.r (.v (.int .i64 a1)))), (2, .c (.p 0 5 0 0)), (34, .c (.r (.s 3 (r_Chute a0_Chutes)))), (35, .c (.r (.v (.int .i64 (llen (r_Chute a0_Chutes)))))), (36, .c (.r (.v (.int .i64 v2))))], tab := [(0, some (.foc 5 [] [.r (.s 2 (r_Item a0_Belt)), .r (.s 3 (r_Chute a0_Chutes)), .r (.s 2 (r_Inlet a0_Inlets)), .r (.s 1 (r_I64 a0_Plan)), .r (.v (.int .i64 a0_Now))] []))] } : St)) 1 (fun p => a0_Chutes.length - p.1.1) ⟨(0, 0), Nat.zero_le _, rfl, ho2⟩ (Unit) (fun _ => ({ sl := [(1, .c (.r (.v (.int .i64 a1)))), (2, .c (.p 0 5 0 0))], tab := [(0, some (.foc 5 [] [.r (.s 2 (r_Item a0_Belt)), .r (.s 3 (r_Chute a0_Chutes)), .r (.s 2 (r_Inlet a0_Inlets)), .r (.s 1 (r_I64 a0_Plan)), .r (.v (.int .i64 a0_Now))] []))] } : St)) 1 (fun y => o2 = LR.out y) ?_ ?_ ?_
        · refine Wk.of [(0, some 0)] rfl rfl ?_ ?_
          · cbv
            all_goals exact ⟨⟨_, rfl, rfl⟩, ⟨_, rfl, rfl⟩, ⟨_, rfl, rfl⟩, ⟨_, rfl, rfl⟩, ⟨_, rfl, rfl⟩, trivial⟩
          · cbv
            all_goals exact ⟨⟨_, rfl, _, rfl, rfl, rfl, rfl, rfl, rfl, trivial⟩, trivial⟩
        · rintro ⟨⟨k2, v2⟩, hk2, hi2, h_2⟩ hq2
          have hm2 := (hq2.1 34 _ _ rfl)
          try dsimp only at hk2 hi2 h_2
          clear hq2
          cbv
          by_cases hc2_ : k2 < a0_Chutes.length
          · have hb5 : lt v2 (llen (r_Chute a0_Chutes)) = true := ltL_true_Chute hg ht hi2 hc2_
            have hs2 := stepL_Chute hg ht hi2 hc2_ hm2
            obtain ⟨z2, hz2⟩ := some_of_lt hc2_
            rw [drop_of_some hz2] at h_2
            rw [I_WhereIs_l2] at h_2
            obtain ⟨z2_Cell, z2_Room, z2_Held⟩ := z2
            try rw [← hg] at h_2
            try rw [← ht] at h_2
            try dsimp only at h_2
            rw [hb5]
            cbv
            refine AStep.mk (nn_L hi2) ?_
            cbv
            refine AGet.mk _ (r_getL_Chute hg ht hi2 hz2) ?_
            cbv
            obtain ⟨x2, hx2, h_2⟩ := of_lP h_2
            try dsimp only at h_2
            refine ACall.mk _ _ rfl (hF _ _ _ (c_I_hasItem hg ht hx2)) (.inl rfl) (Nat.le_of_ble_eq_true rfl) ?_
            cbv
            cases hb6 : x2 with
            | true =>
              rw [br_true hb6] at h_2
              cbv
              subst h_2
              try dsimp only [lr, lrL, lrp, lrpL] at h
              obtain rfl := Option.some.inj h
              exact ARet.mk trivial hX.symm
            | false =>
              rw [br_false hb6] at h_2
              cbv
              try rw [hg] at h_2
              try rw [ht] at h_2
              refine ⟨⟨(k2 + 1, (wrap .i64 (add v2 1))), hc2_, hs2, h_2⟩, Wk.of [(0, some 0)] rfl rfl ?_ ?_, meas_L hc2_⟩
              · cbv
                all_goals exact ⟨⟨_, rfl, rfl⟩, ⟨_, rfl, rfl⟩, ⟨_, rfl, rfl⟩, ⟨_, rfl, rfl⟩, ⟨_, rfl, rfl⟩, trivial⟩
              · cbv
                all_goals exact ⟨⟨_, rfl, _, rfl, rfl, rfl, rfl, rfl, rfl, trivial⟩, trivial⟩
          · have hb5 : lt v2 (llen (r_Chute a0_Chutes)) = false := ltL_false_Chute hg ht hi2 hc2_
            rw [List.drop_of_length_le (Nat.le_of_not_lt hc2_)] at h_2
            rw [I_WhereIs_l2] at h_2
            try rw [← hg] at h_2
            try rw [← ht] at h_2
            try dsimp only at h_2
            rw [hb5]
            cbv
            refine ⟨(), Wk.of [(0, some 0)] rfl rfl ?_ ?_, h_2.symm⟩
            · cbv
              all_goals exact ⟨⟨_, rfl, rfl⟩, ⟨_, rfl, rfl⟩, trivial⟩
            · cbv
              all_goals exact ⟨⟨_, rfl, _, rfl, rfl, rfl, rfl, rfl, rfl, trivial⟩, trivial⟩
        · rintro _ hy2
          replace hy2 := hy2.symm
          subst hy2
          try dsimp only [lr, lrL, lrp, lrpL] at h
          cbv
          obtain ⟨o3, ho3, h⟩ := of_lP h
          try dsimp only at h
          try rw [hg] at ho3
          try rw [ht] at ho3
          refine ABL.mk { p : Nat × Int // p.1 ≤ a0_Inlets.length ∧ p.2 = ((p.1 : Nat) : Int) ∧ I_WhereIs_l3 G.real TE.real a1 (List.drop p.1 a0_Inlets) p.2 = o3 } (fun ⟨⟨k3, v3⟩, _⟩ => ({ sl := [(1, .c (.r (.v (.int .i64 a1)))), (48, .c (.r (.s 2 (r_Inlet a0_Inlets)))), (49, .c (.r (.v (.int .i64 (llen (r_Inlet a0_Inlets)))))), (50, .c (.r (.v (.int .i64 v3))))], tab := [] } : St)) 0 (fun p => a0_Inlets.length - p.1.1) ⟨(0, 0), Nat.zero_le _, rfl, ho3⟩ (Unit) (fun _ => ({ sl := [], tab := [] } : St)) 0 (fun y => o3 = LR.out y) ?_ ?_ ?_
          · refine Wk.of [] rfl rfl ?_ ?_
            · cbv
              all_goals exact ⟨⟨_, rfl, rfl⟩, ⟨_, rfl, rfl⟩, ⟨_, rfl, rfl⟩, ⟨_, rfl, rfl⟩, trivial⟩
            · cbv
              all_goals exact trivial
          · rintro ⟨⟨k3, v3⟩, hk3, hi3, h_3⟩ hq3
            have hm3 := (hq3.1 48 _ _ rfl)
            try dsimp only at hk3 hi3 h_3
            clear hq3
            cbv
            by_cases hc3_ : k3 < a0_Inlets.length
            · have hb7 : lt v3 (llen (r_Inlet a0_Inlets)) = true := ltL_true_Inlet hg ht hi3 hc3_
              have hs3 := stepL_Inlet hg ht hi3 hc3_ hm3
              obtain ⟨z3, hz3⟩ := some_of_lt hc3_
              rw [drop_of_some hz3] at h_3
              rw [I_WhereIs_l3] at h_3
              obtain ⟨z3_Cell, z3_Wait⟩ := z3
              try rw [← hg] at h_3
              try rw [← ht] at h_3
              try dsimp only at h_3
              rw [hb7]
              cbv
              refine AStep.mk (nn_L hi3) ?_
              cbv
              refine AGet.mk _ (r_getL_Inlet hg ht hi3 hz3) ?_
              cbv
              obtain ⟨x3, hx3, h_3⟩ := of_lP h_3
              try dsimp only at h_3
              refine ACall.mk _ _ rfl (hF _ _ _ (c_I_hasItem hg ht hx3)) (.inl rfl) (Nat.le_of_ble_eq_true rfl) ?_
              cbv
              cases hb8 : x3 with
              | true =>
                rw [br_true hb8] at h_3
                cbv
                subst h_3
                try dsimp only [lr, lrL, lrp, lrpL] at h
                obtain rfl := Option.some.inj h
                exact ARet.mk trivial hX.symm
              | false =>
                rw [br_false hb8] at h_3
                cbv
                try rw [hg] at h_3
                try rw [ht] at h_3
                refine ⟨⟨(k3 + 1, (wrap .i64 (add v3 1))), hc3_, hs3, h_3⟩, Wk.of [] rfl rfl ?_ ?_, meas_L hc3_⟩
                · cbv
                  all_goals exact ⟨⟨_, rfl, rfl⟩, ⟨_, rfl, rfl⟩, ⟨_, rfl, rfl⟩, ⟨_, rfl, rfl⟩, trivial⟩
                · cbv
                  all_goals exact trivial
            · have hb7 : lt v3 (llen (r_Inlet a0_Inlets)) = false := ltL_false_Inlet hg ht hi3 hc3_
              rw [List.drop_of_length_le (Nat.le_of_not_lt hc3_)] at h_3
              rw [I_WhereIs_l3] at h_3
              try rw [← hg] at h_3
              try rw [← ht] at h_3
              try dsimp only at h_3
              rw [hb7]
              cbv
              refine ⟨(), Wk.of [] rfl rfl ?_ ?_, h_3.symm⟩
              · cbv
                all_goals exact trivial
              · cbv
                all_goals exact trivial
          · rintro _ hy3
            replace hy3 := hy3.symm
            subst hy3
            try dsimp only [lr, lrL, lrp, lrpL] at h
            cbv
            obtain rfl := Option.some.inj h
            exact ARet.mk trivial hX.symm
  | false =>
    rw [br_false hb1] at h
    cbv
    try (rw [hb1]; cbv)
    try (rw [hb1]; cbv)
    obtain rfl := Option.some.inj h
    exact ARet.mk trivial hX.symm
end Go.Vs
namespace Go.Vs
set_option maxRecDepth 100000
def ir105 : J :=
  .seq (.reg none [⟨(some 4), none, .mv (.k (V.b false))⟩] [0, 1])
  (.seq (.seq (.reg none [⟨(some 5), none, .mv (.k (V.i 0))⟩] [0, 1, 5])
   (.bl 0 (.seq (.seq (.reg none [⟨(some 6), none, .mv (.t 5)⟩,
        ⟨(some 7), none, .mv (.t 0)⟩,
        ⟨(some 8), none, .len false (.t 7)⟩,
        ⟨(some 9), none, .bin .lss .i (.t 6) (.t 8)⟩] [0, 1, 5, 9])
     (.cond (.t 9)
      (.skip)
      (.exit 0)))
    (.seq (.block 1 (.seq (.reg none [⟨(some 12), none, .mv (.t 0)⟩,
         ⟨(some 13), none, .mv (.t 5)⟩,
         ⟨(some 14), none, .ia 2 (.t 12) (.t 13)⟩,
         ⟨(some 15), none, .fa 0 (.t 14)⟩,
         ⟨(some 16), none, .ld false 1 (.t 15)⟩,
         ⟨(some 17), none, .mv (.t 1)⟩,
         ⟨(some 18), none, .bin .eql .i (.t 16) (.t 17)⟩] [0, 1, 5, 18])
      (.cond (.t 18)
       (.seq (.reg none [⟨(some 4), none, .mv (.k (V.b true))⟩] [4])
        (.ret))
       (.skip))))
    (.reg none [⟨(some 10), none, .mv (.t 5)⟩,
      ⟨(some 11), none, .bin .add .i (.t 10) (.k (V.i 1))⟩,
      ⟨(some 5), none, .mv (.t 11)⟩] [0, 1, 5])))))
  (.seq (.reg none [⟨(some 4), none, .mv (.k (V.b false))⟩] [4])
  (.ret)))
def rv105 : List RV := [.t 4]
open Go.Proofs Go.IntWalk
set_option linter.unusedVariables false
set_option maxRecDepth 100000
set_option maxHeartbeats 4000000
def S_l7Find_l1 (g : G) (t : TE) (a1 : Int) : List Item → LR Bool Unit
  | [] =>
    (LR.out ())
  | z1 :: ls1 =>
    br (g.eq z1.Id a1)
    (
     (LR.ret true))
    (
     S_l7Find_l1 g t a1 ls1)
def S_l7Find (g : G) (t : TE) (a0 : List Item) (a1 : Int) : Bool :=
  lP (S_l7Find_l1 g t a1 a0) fun o1 => lrp o1 fun y1 =>
  false
theorem fit105 : codeFit Try.prog Try.f105.ntmps (Try.f105.body.getD .skip) ir105 = true := by kernel_rfl
theorem c_S_l7Find {g : G} {t : TE} {a0 : List Item} {a1 : Int} {r : Bool} (hg : g = G.real) (ht : t = TE.real) (h : S_l7Find g t a0 a1 = r) : Fn Try.prog 105 [.c (.s 2 (t.r_Item a0)), .c (.v (.int .i64 a1))] (.c (.r (.v (.bool r)))) := by
  obtain ⟨X, hX⟩ := hide (.c (.r (.v (.bool r))) : X)
  rw [← hX]
  refine fn_of (rvs := rv105) (j := ir105) Try.func105 rfl fit105 (Nat.le_of_ble_eq_true rfl) (by kernel_rfl) prog_mixed ?_
  intro g2 F hg2 hF
  obtain rfl : g2 = g := hg2.unique.trans hg.symm
  clear hg2
  obtain ⟨wrap, lt, le, eq, quo, rem, band, bor, bxor, shl, shr, nat, int, add, sub, mul, cat, seq, slt, sub3, byte, llen, nadd, nsub, dlen, dapp, dset, drep, rd, rda, up, rsub, dsub, all, sle, slen, hasI, putI, hasS, putS, imin, imax, fzc⟩ := g2
  obtain ⟨r_Item, d_Item, r_Chute, d_Chute, r_Inlet, d_Inlet, r_I64, d_I64, r_U8, d_U8⟩ := t
  unfold S_l7Find at h
  try dsimp only at h
  cbv
  obtain ⟨o1, ho1, h⟩ := of_lP h
  try dsimp only at h
  try rw [hg] at ho1
  try rw [ht] at ho1
  refine ABL.mk { p : Nat × Int // p.1 ≤ a0.length ∧ p.2 = ((p.1 : Nat) : Int) ∧ S_l7Find_l1 G.real TE.real a1 (List.drop p.1 a0) = o1 } (fun ⟨⟨k1, v1⟩, _⟩ => ({ sl := [(0, .c (.r (.s 2 (r_Item a0)))), (1, .c (.r (.v (.int .i64 a1)))), (5, .c (.r (.v (.int .i64 v1))))], tab := [] } : St)) 0 (fun p => a0.length - p.1.1) ⟨(0, 0), Nat.zero_le _, rfl, ho1⟩ (Unit) (fun _ => ({ sl := [], tab := [] } : St)) 0 (fun y => o1 = LR.out y) ?_ ?_ ?_
  · refine Wk.of [] rfl rfl ?_ ?_
    · cbv
      all_goals exact ⟨⟨_, rfl, rfl⟩, ⟨_, rfl, rfl⟩, ⟨_, rfl, rfl⟩, trivial⟩
    · cbv
      all_goals exact trivial
  · rintro ⟨⟨k1, v1⟩, hk1, hi1, h_1⟩ hq1
    have hm1 := (hq1.1 0 _ _ rfl)
    try dsimp only at hk1 hi1 h_1
    clear hq1
    cbv
    by_cases hc1_ : k1 < a0.length
    · have hb1 : lt v1 (llen (r_Item a0)) = true := ltL_true_Item hg ht hi1 hc1_
      have hs1 := stepL_Item hg ht hi1 hc1_ hm1
      obtain ⟨z1, hz1⟩ := some_of_lt hc1_
      rw [drop_of_some hz1] at h_1
      rw [S_l7Find_l1] at h_1
      obtain ⟨z1_Id, z1_Dest⟩ := z1
      try rw [← hg] at h_1
      try rw [← ht] at h_1
      try dsimp only at h_1
      rw [hb1]
      cbv
      refine AStep.mk (nn_L hi1) ?_
      cbv
      refine AGet.mk _ (r_getL_Item hg ht hi1 hz1) ?_
      cbv
      cases hb2 : (eq z1_Id a1) with
      | true =>
        rw [br_true hb2] at h_1
        cbv
        subst h_1
        try dsimp only [lr, lrL, lrp, lrpL] at h
        subst h
        exact ARet.mk trivial hX.symm
      | false =>
        rw [br_false hb2] at h_1
        cbv
        try rw [hg] at h_1
        try rw [ht] at h_1
        refine ⟨⟨(k1 + 1, (wrap .i64 (add v1 1))), hc1_, hs1, h_1⟩, Wk.of [] rfl rfl ?_ ?_, meas_L hc1_⟩
        · cbv
          all_goals exact ⟨⟨_, rfl, rfl⟩, ⟨_, rfl, rfl⟩, ⟨_, rfl, rfl⟩, trivial⟩
        · cbv
          all_goals exact trivial
    · have hb1 : lt v1 (llen (r_Item a0)) = false := ltL_false_Item hg ht hi1 hc1_
      rw [List.drop_of_length_le (Nat.le_of_not_lt hc1_)] at h_1
      rw [S_l7Find_l1] at h_1
      try rw [← hg] at h_1
      try rw [← ht] at h_1
      try dsimp only at h_1
      rw [hb1]
      cbv
      refine ⟨(), Wk.of [] rfl rfl ?_ ?_, h_1.symm⟩
      · cbv
        all_goals exact trivial
      · cbv
        all_goals exact trivial
  · rintro _ hy1
    replace hy1 := hy1.symm
    subst hy1
    try dsimp only [lr, lrL, lrp, lrpL] at h
    cbv
    subst h
    exact ARet.mk trivial hX.symm
end Go.Vs
namespace Go.Vs
set_option maxRecDepth 100000
def ir59 : J :=
  .seq (.reg none [⟨(some 2), none, .box (.t 0)⟩,
     ⟨(some 4), none, .mv (.k (V.i 0))⟩,
     ⟨(some 5), none, .mv (.k (V.i 0))⟩] [1, 2])
  (.seq (.seq (.reg none [⟨(some 9), none, .ld true 5 (.t 2)⟩,
      ⟨(some 10), none, .call 31 true [(.t 9)]⟩,
      ⟨(some 11), none, .not (.t 10)⟩,
      ⟨(some 12), none, .mv (.t 11)⟩,
      ⟨(some 13), (some (12, false)), .mv (.t 1)⟩,
      ⟨(some 14), (some (12, false)), .bin .eql .i (.t 13) (.k (V.i 0))⟩,
      ⟨(some 15), none, .pick (.t 12) (.k (V.b true)) (.t 14)⟩] [1, 2, 15])
   (.cond (.t 15)
    (.seq (.reg none [⟨(some 4), none, .mv (.k (V.i 0))⟩,
        ⟨(some 5), none, .mv (.k (V.i 0))⟩] [4, 5])
     (.ret))
    (.skip)))
  (.seq (.seq (.reg none [⟨(some 6), none, .mv (.k (V.i 0))⟩] [1, 2, 6])
   (.bl 0 (.seq (.seq (.reg none [⟨(some 16), none, .mv (.t 6)⟩,
        ⟨(some 17), none, .fa 0 (.t 2)⟩,
        ⟨(some 18), none, .ld false 1 (.t 17)⟩,
        ⟨(some 19), none, .len false (.t 18)⟩,
        ⟨(some 20), none, .bin .lss .i (.t 16) (.t 19)⟩] [1, 2, 6, 20])
     (.cond (.t 20)
      (.skip)
      (.exit 0)))
    (.seq (.block 1 (.seq (.reg none [⟨(some 23), none, .fa 0 (.t 2)⟩,
         ⟨(some 24), none, .ld false 1 (.t 23)⟩,
         ⟨(some 25), none, .mv (.t 6)⟩,
         ⟨(some 26), none, .ia 2 (.t 24) (.t 25)⟩,
         ⟨(some 27), none, .fa 0 (.t 26)⟩,
         ⟨(some 28), none, .ld false 1 (.t 27)⟩,
         ⟨(some 29), none, .mv (.t 1)⟩,
         ⟨(some 30), none, .bin .eql .i (.t 28) (.t 29)⟩] [1, 2, 6, 30])
      (.cond (.t 30)
       (.seq (.reg none [⟨(some 31), none, .mv (.t 6)⟩,
           ⟨(some 4), none, .mv (.k (V.i 1))⟩,
           ⟨(some 5), none, .mv (.t 31)⟩] [4, 5])
        (.ret))
       (.skip))))
    (.reg none [⟨(some 21), none, .mv (.t 6)⟩,
      ⟨(some 22), none, .bin .add .i (.t 21) (.k (V.i 1))⟩,
      ⟨(some 6), none, .mv (.t 22)⟩] [1, 2, 6])))))
  (.seq (.seq (.reg none [⟨(some 7), none, .mv (.k (V.i 0))⟩] [1, 2, 7])
   (.bl 2 (.seq (.seq (.reg none [⟨(some 32), none, .mv (.t 7)⟩,
        ⟨(some 33), none, .fa 1 (.t 2)⟩,
        ⟨(some 34), none, .ld false 1 (.t 33)⟩,
        ⟨(some 35), none, .len false (.t 34)⟩,
        ⟨(some 36), none, .bin .lss .i (.t 32) (.t 35)⟩] [1, 2, 7, 36])
     (.cond (.t 36)
      (.skip)
      (.exit 2)))
    (.seq (.block 3 (.seq (.reg none [⟨(some 39), none, .fa 1 (.t 2)⟩,
         ⟨(some 40), none, .ld false 1 (.t 39)⟩,
         ⟨(some 41), none, .mv (.t 7)⟩,
         ⟨(some 42), none, .ia 3 (.t 40) (.t 41)⟩,
         ⟨(some 43), none, .fa 2 (.t 42)⟩,
         ⟨(some 44), none, .ld false 1 (.t 43)⟩,
         ⟨(some 45), none, .mv (.t 1)⟩,
         ⟨(some 46), none, .call 105 true [(.t 44), (.t 45)]⟩] [1, 2, 7, 46])
      (.cond (.t 46)
       (.seq (.reg none [⟨(some 47), none, .mv (.t 7)⟩,
           ⟨(some 4), none, .mv (.k (V.i 2))⟩,
           ⟨(some 5), none, .mv (.t 47)⟩] [4, 5])
        (.ret))
       (.skip))))
    (.reg none [⟨(some 37), none, .mv (.t 7)⟩,
      ⟨(some 38), none, .bin .add .i (.t 37) (.k (V.i 1))⟩,
      ⟨(some 7), none, .mv (.t 38)⟩] [1, 2, 7])))))
  (.seq (.seq (.reg none [⟨(some 8), none, .mv (.k (V.i 0))⟩] [1, 2, 8])
   (.bl 4 (.seq (.seq (.reg none [⟨(some 48), none, .mv (.t 8)⟩,
        ⟨(some 49), none, .fa 2 (.t 2)⟩,
        ⟨(some 50), none, .ld false 1 (.t 49)⟩,
        ⟨(some 51), none, .len false (.t 50)⟩,
        ⟨(some 52), none, .bin .lss .i (.t 48) (.t 51)⟩] [1, 2, 8, 52])
     (.cond (.t 52)
      (.skip)
      (.exit 4)))
    (.seq (.block 5 (.seq (.reg none [⟨(some 55), none, .fa 2 (.t 2)⟩,
         ⟨(some 56), none, .ld false 1 (.t 55)⟩,
         ⟨(some 57), none, .mv (.t 8)⟩,
         ⟨(some 58), none, .ia 2 (.t 56) (.t 57)⟩,
         ⟨(some 59), none, .fa 1 (.t 58)⟩,
         ⟨(some 60), none, .ld false 1 (.t 59)⟩,
         ⟨(some 61), none, .mv (.t 1)⟩,
         ⟨(some 62), none, .call 105 true [(.t 60), (.t 61)]⟩] [1, 2, 8, 62])
      (.cond (.t 62)
       (.seq (.reg none [⟨(some 63), none, .mv (.t 8)⟩,
           ⟨(some 4), none, .mv (.k (V.i 3))⟩,
           ⟨(some 5), none, .mv (.t 63)⟩] [4, 5])
        (.ret))
       (.skip))))
    (.reg none [⟨(some 53), none, .mv (.t 8)⟩,
      ⟨(some 54), none, .bin .add .i (.t 53) (.k (V.i 1))⟩,
      ⟨(some 8), none, .mv (.t 54)⟩] [1, 2, 8])))))
  (.seq (.reg none [⟨(some 4), none, .mv (.k (V.i 0))⟩,
     ⟨(some 5), none, .mv (.k (V.i 0))⟩] [4, 5])
  (.ret))))))
def rv59 : List RV := [.t 4, .t 5]
open Go.Proofs Go.IntWalk
set_option linter.unusedVariables false
set_option maxRecDepth 100000
set_option maxHeartbeats 4000000
def S_WhereIs_l3 (g : G) (t : TE) (a1 : Int) : List Inlet → Int → LR (Int × Int) Unit
  | [], v3 =>
    (LR.out ())
  | z3 :: ls3, v3 =>
    lP (S_l7Find g t z3.Wait a1) fun x3 =>
    br x3
    (
     (LR.ret ((3, v3))))
    (
     S_WhereIs_l3 g t a1 ls3 (g.wrap .i64 (g.add v3 1)))
def S_WhereIs_l2 (g : G) (t : TE) (a1 : Int) : List Chute → Int → LR (Int × Int) Unit
  | [], v2 =>
    (LR.out ())
  | z2 :: ls2, v2 =>
    lP (S_l7Find g t z2.Held a1) fun x2 =>
    br x2
    (
     (LR.ret ((2, v2))))
    (
     S_WhereIs_l2 g t a1 ls2 (g.wrap .i64 (g.add v2 1)))
def S_WhereIs_l1 (g : G) (t : TE) (a1 : Int) : List Item → Int → LR (Int × Int) Unit
  | [], v1 =>
    (LR.out ())
  | z1 :: ls1, v1 =>
    br (g.eq z1.Id a1)
    (
     (LR.ret ((1, v1))))
    (
     S_WhereIs_l1 g t a1 ls1 (g.wrap .i64 (g.add v1 1)))
def S_WhereIs (g : G) (t : TE) (a0 : Centre) (a1 : Int) : Option (Int × Int) :=
  cl (S_IsCentre g t a0) fun x1 =>
  br x1
  (
   br (g.eq a1 0)
   (
    some ((0, 0)))
   (
    lP (S_WhereIs_l1 g t a1 a0.Belt 0) fun o1 => lr o1 fun y1 =>
    lP (S_WhereIs_l2 g t a1 a0.Chutes 0) fun o2 => lr o2 fun y2 =>
    lP (S_WhereIs_l3 g t a1 a0.Inlets 0) fun o3 => lr o3 fun y3 =>
    some ((0, 0))))
  (
   some ((0, 0)))
theorem fit59 : codeFit Try.prog Try.f59.ntmps (Try.f59.body.getD .skip) ir59 = true := by kernel_rfl
theorem c_S_WhereIs {g : G} {t : TE} {a0 : Centre} {a1 : Int} {r : Int × Int} (hg : g = G.real) (ht : t = TE.real) (h : S_WhereIs g t a0 a1 = some r) : Fn Try.prog 59 [.g (Centre.rs t a0), .c (.v (.int .i64 a1))] (.u [.c (.r (.v (.int .i64 r.1))), .c (.r (.v (.int .i64 r.2)))]) := by
  obtain ⟨X, hX⟩ := hide (.u [.c (.r (.v (.int .i64 r.1))), .c (.r (.v (.int .i64 r.2)))] : X)
  rw [← hX]
  refine fn_of (rvs := rv59) (j := ir59) Try.func59 rfl fit59 (Nat.le_of_ble_eq_true rfl) (by kernel_rfl) prog_mixed ?_
  intro g2 F hg2 hF
  obtain rfl : g2 = g := hg2.unique.trans hg.symm
  clear hg2
  obtain ⟨wrap, lt, le, eq, quo, rem, band, bor, bxor, shl, shr, nat, int, add, sub, mul, cat, seq, slt, sub3, byte, llen, nadd, nsub, dlen, dapp, dset, drep, rd, rda, up, rsub, dsub, all, sle, slen, hasI, putI, hasS, putS, imin, imax, fzc⟩ := g2
  obtain ⟨r_Item, d_Item, r_Chute, d_Chute, r_Inlet, d_Inlet, r_I64, d_I64, r_U8, d_U8⟩ := t
  obtain ⟨a0_Belt, a0_Chutes, a0_Inlets, a0_Plan, a0_Now⟩ := a0
  unfold S_WhereIs at h
  try dsimp only at h
  cbv
  obtain ⟨x1, hx1, h⟩ := of_cl h
  try dsimp only at h
  refine ACall.mk _ _ rfl (hF _ _ _ (c_S_IsCentre hg ht hx1)) (.inl rfl) (Nat.le_of_ble_eq_true rfl) ?_
  cbv
  cases hb1 : x1 with
  | true =>
    rw [br_true hb1] at h
    cbv
    try (rw [hb1]; cbv)
    try (rw [hb1]; cbv)
    cases hb2 : (eq a1 0) with
    | true =>
      rw [br_true hb2] at h
      cbv
      obtain rfl := Option.some.inj h
      exact ARet.mk trivial hX.symm
    | false =>
      rw [br_false hb2] at h
      cbv
      obtain ⟨o1, ho1, h⟩ := of_lP h
      try dsimp only at h
      try rw [hg] at ho1
      try rw [ht] at ho1
      refine ABL.mk { p : Nat × Int // p.1 ≤ a0_Belt.length ∧ p.2 = ((p.1 : Nat) : Int) ∧ S_WhereIs_l1 G.real TE.real a1 (List.drop p.1 a0_Belt) p.2 = o1 } (fun ⟨⟨k1, v1⟩, _⟩ => ({ sl := [(1, .c (.r (.v (.int .i64 a1)))), (2, .c (.p 0 5 0 0)), (6, .c (.r (.v (.int .i64 v1))))], tab := [(0, some (.foc 5 [] [.r (.s 2 (r_Item a0_Belt)), .r (.s 3 (r_Chute a0_Chutes)), .r (.s 2 (r_Inlet a0_Inlets)), .r (.s 1 (r_I64 a0_Plan)), .r (.v (.int .i64 a0_Now))] []))] } : St)) 1 (fun p => a0_Belt.length - p.1.1) ⟨(0, 0), Nat.zero_le _, rfl, ho1⟩ (Unit) (fun _ => ({ sl := [(1, .c (.r (.v (.int .i64 a1)))), (2, .c (.p 0 5 0 0))], tab := [(0, some (.foc 5 [] [.r (.s 2 (r_Item a0_Belt)), .r (.s 3 (r_Chute a0_Chutes)), .r (.s 2 (r_Inlet a0_Inlets)), .r (.s 1 (r_I64 a0_Plan)), .r (.v (.int .i64 a0_Now))] []))] } : St)) 1 (fun y => o1 = LR.out y) ?_ ?_ ?_
      · refine Wk.of [(0, some 0)] rfl rfl ?_ ?_
        · cbv
          all_goals exact ⟨⟨_, rfl, rfl⟩, ⟨_, rfl, rfl⟩, ⟨_, rfl, rfl⟩, trivial⟩
        · cbv
          all_goals exact ⟨⟨_, rfl, _, rfl, rfl, rfl, rfl, rfl, rfl, trivial⟩, trivial⟩
      · rintro ⟨⟨k1, v1⟩, hk1, hi1, h_1⟩ hq1
        have hm1 := (hq1.2.2.1 0 _ _ _ _ 0 _ _ rfl rfl)
        try dsimp only at hk1 hi1 h_1
        clear hq1
        cbv
        by_cases hc1_ : k1 < a0_Belt.length
        · have hb3 : lt v1 (llen (r_Item a0_Belt)) = true := ltL_true_Item hg ht hi1 hc1_
          have hs1 := stepL_Item hg ht hi1 hc1_ hm1
          obtain ⟨z1, hz1⟩ := some_of_lt hc1_
          rw [drop_of_some hz1] at h_1
          rw [S_WhereIs_l1] at h_1
          obtain ⟨z1_Id, z1_Dest⟩ := z1
          try rw [← hg] at h_1
          try rw [← ht] at h_1
          try dsimp only at h_1
          rw [hb3]
          cbv
          refine AStep.mk (nn_L hi1) ?_
          cbv
          refine AGet.mk _ (r_getL_Item hg ht hi1 hz1) ?_
          cbv
          cases hb4 : (eq z1_Id a1) with
          | true =>
            rw [br_true hb4] at h_1
            cbv
            subst h_1
            try dsimp only [lr, lrL, lrp, lrpL] at h
            obtain rfl := Option.some.inj h
            exact ARet.mk trivial hX.symm
          | false =>
            rw [br_false hb4] at h_1
            cbv
            try rw [hg] at h_1
            try rw [ht] at h_1
            refine ⟨⟨(k1 + 1, (wrap .i64 (add v1 1))), hc1_, hs1, h_1⟩, Wk.of [(0, some 0)] rfl rfl ?_ ?_, meas_L hc1_⟩
            · cbv
              all_goals exact ⟨⟨_, rfl, rfl⟩, ⟨_, rfl, rfl⟩, ⟨_, rfl, rfl⟩, trivial⟩
            · cbv
              all_goals exact ⟨⟨_, rfl, _, rfl, rfl, rfl, rfl, rfl, rfl, trivial⟩, trivial⟩
        · have hb3 : lt v1 (llen (r_Item a0_Belt)) = false := ltL_false_Item hg ht hi1 hc1_
          rw [List.drop_of_length_le (Nat.le_of_not_lt hc1_)] at h_1
          rw [S_WhereIs_l1] at h_1
          try rw [← hg] at h_1
          try rw [← ht] at h_1
          try dsimp only at h_1
          rw [hb3]
          cbv
          refine ⟨(), Wk.of [(0, some 0)] rfl rfl ?_ ?_, h_1.symm⟩
          · cbv
            all_goals exact ⟨⟨_, rfl, rfl⟩, ⟨_, rfl, rfl⟩, trivial⟩
          · cbv
            all_goals exact ⟨⟨_, rfl, _, rfl, rfl, rfl, rfl, rfl, rfl, trivial⟩, trivial⟩
      · rintro _ hy1
        replace hy1 := hy1.symm
        subst hy1
        try dsimp only [lr, lrL, lrp, lrpL] at h
        cbv
        obtain ⟨o2, ho2, h⟩ := of_lP h
        try dsimp only at h
        try rw [hg] at ho2
        try rw [ht] at ho2
        refine ABL.mk { p : Nat × Int // p.1 ≤ a0_Chutes.length ∧ p.2 = ((p.1 : Nat) : Int) ∧ S_WhereIs_l2 G.real TE.real a1 (List.drop p.1 a0_Chutes) p.2 = o2 } (fun ⟨⟨k2, v2⟩, _⟩ => ({ sl := [(1, .c (.r (.v (.int .i64 a1)))), (2, .c (.p 0 5 0 0)), (7, .c (.r (.v (.int .i64 v2))))], tab := [(0, some (.foc 5 [] [.r (.s 2 (r_Item a0_Belt)), .r (.s 3 (r_Chute a0_Chutes)), .r (.s 2 (r_Inlet a0_Inlets)), .r (.s 1 (r_I64 a0_Plan)), .r (.v (.int .i64 a0_Now))] []))] } : St)) 1 (fun p => a0_Chutes.length - p.1.1) ⟨(0, 0), Nat.zero_le _, rfl, ho2⟩ (Unit) (fun _ => ({ sl := [(1, .c (.r (.v (.int .i64 a1)))), (2, .c (.p 0 5 0 0))], tab := [(0, some (.foc 5 [] [.r (.s 2 (r_Item a0_Belt)), .r (.s 3 (r_Chute a0_Chutes)), .r (.s 2 (r_Inlet a0_Inlets)), .r (.s 1 (r_I64 a0_Plan)), .r (.v (.int .i64 a0_Now))] []))] } : St)) 1 (fun y => o2 = LR.out y) ?_ ?_ ?_
        · refine Wk.of [(0, some 0)] rfl rfl ?_ ?_
          · cbv
            all_goals exact ⟨⟨_, rfl, rfl⟩, ⟨_, rfl, rfl⟩, ⟨_, rfl, rfl⟩, trivial⟩
          · cbv
            all_goals exact ⟨⟨_, rfl, _, rfl, rfl, rfl, rfl, rfl, rfl, trivial⟩, trivial⟩
        · rintro ⟨⟨k2, v2⟩, hk2, hi2, h_2⟩ hq2
          have hm2 := (hq2.2.2.1 0 _ _ _ _ 1 _ _ rfl rfl)
          try dsimp only at hk2 hi2 h_2
          clear hq2
          cbv
          by_cases hc2_ : k2 < a0_Chutes.length
          · have hb5 : lt v2 (llen (r_Chute a0_Chutes)) = true := ltL_true_Chute hg ht hi2 hc2_
            have hs2 := stepL_Chute hg ht hi2 hc2_ hm2
            obtain ⟨z2, hz2⟩ := some_of_lt hc2_
            rw [drop_of_some hz2] at h_2
            rw [S_WhereIs_l2] at h_2
            obtain ⟨z2_Cell, z2_Room, z2_Held⟩ := z2
            try rw [← hg] at h_2
            try rw [← ht] at h_2
            try dsimp only at h_2
            rw [hb5]
            cbv
            refine AStep.mk (nn_L hi2) ?_
            cbv
            refine AGet.mk _ (r_getL_Chute hg ht hi2 hz2) ?_
            cbv
            obtain ⟨x2, hx2, h_2⟩ := of_lP h_2
            try dsimp only at h_2
            refine ACall.mk _ _ rfl (hF _ _ _ (c_S_l7Find hg ht hx2)) (.inl rfl) (Nat.le_of_ble_eq_true rfl) ?_
            cbv
            cases hb6 : x2 with
            | true =>
              rw [br_true hb6] at h_2
              cbv
              subst h_2
              try dsimp only [lr, lrL, lrp, lrpL] at h
              obtain rfl := Option.some.inj h
              exact ARet.mk trivial hX.symm
            | false =>
              rw [br_false hb6] at h_2
              cbv
              try rw [hg] at h_2
              try rw [ht] at h_2
              refine ⟨⟨(k2 + 1, (wrap .i64 (add v2 1))), hc2_, hs2, h_2⟩, Wk.of [(0, some 0)] rfl rfl ?_ ?_, meas_L hc2_⟩
              · cbv
                all_goals exact ⟨⟨_, rfl, rfl⟩, ⟨_, rfl, rfl⟩, ⟨_, rfl, rfl⟩, trivial⟩
              · cbv
                all_goals exact ⟨⟨_, rfl, _, rfl, rfl, rfl, rfl, rfl, rfl, trivial⟩, trivial⟩
          · have hb5 : lt v2 (llen (r_Chute a0_Chutes)) = false := ltL_false_Chute hg ht hi2 hc2_
            rw [List.drop_of_length_le (Nat.le_of_not_lt hc2_)] at h_2
            rw [S_WhereIs_l2] at h_2
            try rw [← hg] at h_2
            try rw [← ht] at h_2
            try dsimp only at h_2
            rw [hb5]
            cbv
            refine ⟨(), Wk.of [(0, some 0)] rfl rfl ?_ ?_, h_2.symm⟩
            · cbv
              all_goals exact ⟨⟨_, rfl, rfl⟩, ⟨_, rfl, rfl⟩, trivial⟩
            · cbv
              all_goals exact ⟨⟨_, rfl, _, rfl, rfl, rfl, rfl, rfl, rfl, trivial⟩, trivial⟩
        · rintro _ hy2
          replace hy2 := hy2.symm
          subst hy2
          try dsimp only [lr, lrL, lrp, lrpL] at h
          cbv
          obtain ⟨o3, ho3, h⟩ := of_lP h
          try dsimp only at h
          try rw [hg] at ho3
          try rw [ht] at ho3
          refine ABL.mk { p : Nat × Int // p.1 ≤ a0_Inlets.length ∧ p.2 = ((p.1 : Nat) : Int) ∧ S_WhereIs_l3 G.real TE.real a1 (List.drop p.1 a0_Inlets) p.2 = o3 } (fun ⟨⟨k3, v3⟩, _⟩ => ({ sl := [(1, .c (.r (.v (.int .i64 a1)))), (2, .c (.p 0 5 0 0)), (8, .c (.r (.v (.int .i64 v3))))], tab := [(0, some (.foc 5 [] [.r (.s 2 (r_Item a0_Belt)), .r (.s 3 (r_Chute a0_Chutes)), .r (.s 2 (r_Inlet a0_Inlets)), .r (.s 1 (r_I64 a0_Plan)), .r (.v (.int .i64 a0_Now))] []))] } : St)) 1 (fun p => a0_Inlets.length - p.1.1) ⟨(0, 0), Nat.zero_le _, rfl, ho3⟩ (Unit) (fun _ => ({ sl := [], tab := [] } : St)) 0 (fun y => o3 = LR.out y) ?_ ?_ ?_
          · refine Wk.of [(0, some 0)] rfl rfl ?_ ?_
            · cbv
              all_goals exact ⟨⟨_, rfl, rfl⟩, ⟨_, rfl, rfl⟩, ⟨_, rfl, rfl⟩, trivial⟩
            · cbv
              all_goals exact ⟨⟨_, rfl, _, rfl, rfl, rfl, rfl, rfl, rfl, trivial⟩, trivial⟩
          · rintro ⟨⟨k3, v3⟩, hk3, hi3, h_3⟩ hq3
            have hm3 := (hq3.2.2.1 0 _ _ _ _ 2 _ _ rfl rfl)
            try dsimp only at hk3 hi3 h_3
            clear hq3
            cbv
            by_cases hc3_ : k3 < a0_Inlets.length
            · have hb7 : lt v3 (llen (r_Inlet a0_Inlets)) = true := ltL_true_Inlet hg ht hi3 hc3_
              have hs3 := stepL_Inlet hg ht hi3 hc3_ hm3
              obtain ⟨z3, hz3⟩ := some_of_lt hc3_
              rw [drop_of_some hz3] at h_3
              rw [S_WhereIs_l3] at h_3
              obtain ⟨z3_Cell, z3_Wait⟩ := z3
              try rw [← hg] at h_3
              try rw [← ht] at h_3
              try dsimp only at h_3
              rw [hb7]
              cbv
              refine AStep.mk (nn_L hi3) ?_
              cbv
              refine AGet.mk _ (r_getL_Inlet hg ht hi3 hz3) ?_
              cbv
              obtain ⟨x3, hx3, h_3⟩ := of_lP h_3
              try dsimp only at h_3
              refine ACall.mk _ _ rfl (hF _ _ _ (c_S_l7Find hg ht hx3)) (.inl rfl) (Nat.le_of_ble_eq_true rfl) ?_
              cbv
              cases hb8 : x3 with
              | true =>
                rw [br_true hb8] at h_3
                cbv
                subst h_3
                try dsimp only [lr, lrL, lrp, lrpL] at h
                obtain rfl := Option.some.inj h
                exact ARet.mk trivial hX.symm
              | false =>
                rw [br_false hb8] at h_3
                cbv
                try rw [hg] at h_3
                try rw [ht] at h_3
                refine ⟨⟨(k3 + 1, (wrap .i64 (add v3 1))), hc3_, hs3, h_3⟩, Wk.of [(0, some 0)] rfl rfl ?_ ?_, meas_L hc3_⟩
                · cbv
                  all_goals exact ⟨⟨_, rfl, rfl⟩, ⟨_, rfl, rfl⟩, ⟨_, rfl, rfl⟩, trivial⟩
                · cbv
                  all_goals exact ⟨⟨_, rfl, _, rfl, rfl, rfl, rfl, rfl, rfl, trivial⟩, trivial⟩
            · have hb7 : lt v3 (llen (r_Inlet a0_Inlets)) = false := ltL_false_Inlet hg ht hi3 hc3_
              rw [List.drop_of_length_le (Nat.le_of_not_lt hc3_)] at h_3
              rw [S_WhereIs_l3] at h_3
              try rw [← hg] at h_3
              try rw [← ht] at h_3
              try dsimp only at h_3
              rw [hb7]
              cbv
              refine ⟨(), Wk.of [] rfl rfl ?_ ?_, h_3.symm⟩
              · cbv
                all_goals exact trivial
              · cbv
                all_goals exact trivial
          · rintro _ hy3
            replace hy3 := hy3.symm
            subst hy3
            try dsimp only [lr, lrL, lrp, lrpL] at h
            cbv
            obtain rfl := Option.some.inj h
            exact ARet.mk trivial hX.symm
  | false =>
    rw [br_false hb1] at h
    cbv
    try (rw [hb1]; cbv)
    try (rw [hb1]; cbv)
    obtain rfl := Option.some.inj h
    exact ARet.mk trivial hX.symm
end Go.Vs
namespace Go.Vs
set_option maxRecDepth 100000
def ir14 : J :=
  .seq (.reg none [⟨(some 2), none, .box (.t 0)⟩,
     ⟨(some 4), none, .mv (.k (V.b false))⟩] [1, 2])
  (.seq (.reg none [⟨(some 5), none, .mv (.k (V.i 1048576))⟩] [1, 2, 5])
  (.seq (.reg none [⟨(some 11), none, .ld true 5 (.t 2)⟩,
     ⟨(some 12), none, .mv (.t 5)⟩,
     ⟨(some 13), none, .call 24 true [(.t 11), (.t 12)]⟩,
     ⟨(some 5), none, .mv (.t 13)⟩] [1, 2, 5])
  (.seq (.seq (.reg none [⟨(some 14), none, .mv (.t 5)⟩,
      ⟨(some 15), none, .bin .lss .i (.t 14) (.k (V.i 0))⟩] [1, 2, 15])
   (.cond (.t 15)
    (.seq (.reg none [⟨(some 4), none, .mv (.k (V.b true))⟩] [4])
     (.ret))
    (.skip)))
  (.seq (.reg none [⟨(some 17), none, .ld true 5 (.t 2)⟩,
     ⟨(some 18), none, .call 26 true [(.t 17)]⟩,
     ⟨(some 19), none, .mv (.t 1)⟩,
     ⟨(some 20), none, .call 59 true [(.t 18), (.t 19)]⟩,
     ⟨(some 16), none, .mv (.t 20)⟩,
     ⟨(some 21), none, .ext 0 (.t 16)⟩,
     ⟨(some 22), none, .ext 1 (.t 16)⟩,
     ⟨(some 6), none, .mv (.t 21)⟩,
     ⟨(some 7), none, .mv (.t 22)⟩] [1, 2, 6, 7])
  (.seq (.reg none [⟨(some 23), none, .ld true 5 (.t 2)⟩,
     ⟨(some 24), none, .call 26 true [(.t 23)]⟩,
     ⟨(some 8), none, .alloc [.n 2, .n 3, .n 2, .n 1, .r (.v (.int .i64 0))]⟩,
     ⟨none, none, .st 5 (.t 8) (.t 24)⟩] [1, 2, 6, 7, 8])
  (.seq (.reg none [⟨(some 26), none, .ld true 5 (.t 8)⟩,
     ⟨(some 27), none, .mv (.t 1)⟩,
     ⟨(some 28), none, .call 52 true [(.t 26), (.t 27)]⟩,
     ⟨(some 25), none, .mv (.t 28)⟩,
     ⟨(some 29), none, .ext 0 (.t 25)⟩,
     ⟨(some 30), none, .ext 1 (.t 25)⟩,
     ⟨(some 9), none, .mv (.t 29)⟩,
     ⟨(some 10), none, .mv (.t 30)⟩] [2, 6, 7, 8, 9, 10])
  (.seq (.seq (.reg none [⟨(some 31), none, .mv (.t 9)⟩,
      ⟨(some 32), none, .mv (.t 6)⟩,
      ⟨(some 33), none, .bin .neq .i (.t 31) (.t 32)⟩,
      ⟨(some 34), none, .mv (.t 33)⟩,
      ⟨(some 35), (some (34, false)), .mv (.t 10)⟩,
      ⟨(some 36), (some (34, false)), .mv (.t 7)⟩,
      ⟨(some 37), (some (34, false)), .bin .neq .i (.t 35) (.t 36)⟩,
      ⟨(some 38), none, .pick (.t 34) (.k (V.b true)) (.t 37)⟩] [2, 8, 38])
   (.cond (.t 38)
    (.seq (.reg none [⟨(some 4), none, .mv (.k (V.b false))⟩] [4])
     (.ret))
    (.skip)))
  (.seq (.seq (.reg (some [[], [], [1], [0, 1, 2], [0, 1, 2, 3]]) [⟨(some 39), none, .ld true 5 (.t 8)⟩,
      ⟨(some 40), none, .ld true 5 (.t 2)⟩,
      ⟨(some 41), none, .call 26 true [(.t 40)]⟩,
      ⟨(some 42), none, .call 28 true [(.t 39), (.t 41)]⟩,
      ⟨(some 43), none, .not (.t 42)⟩] [43])
   (.cond (.t 43)
    (.seq (.reg none [⟨(some 4), none, .mv (.k (V.b false))⟩] [4])
     (.ret))
    (.skip)))
  (.seq (.reg none [⟨(some 4), none, .mv (.k (V.b true))⟩] [4])
  (.ret))))))))))
def rv14 : List RV := [.t 4]
open Go.Proofs Go.IntWalk
set_option linter.unusedVariables false
set_option maxRecDepth 100000
set_option maxHeartbeats 4000000
def L_FnExactWhereIs (g : G) (t : TE) (a0 : Centre) (a1 : Int) : Option Bool :=
  lP (L_szCentre g t a0 1048576) fun x1 =>
  br (g.lt x1 0)
  (
   some true)
  (
   cl (L_toCentre g t a0) fun x2 =>
   cl (S_WhereIs g t x2 a1) fun x3 =>
   cl (L_toCentre g t a0) fun x4 =>
   cl (I_WhereIs g t x4 a1) fun x5 =>
   br (g.eq x5.1 x3.1)
   (
    br (g.eq x5.2 x3.2)
    (
     cl (L_toCentre g t a0) fun x6 =>
     cl (L_eqCentre g t x4 x6) fun x7 =>
     br x7
     (
      some true)
     (
      some false))
    (
     some false))
   (
    some false))
theorem fit14 : codeFit Try.prog Try.f14.ntmps (Try.f14.body.getD .skip) ir14 = true := by kernel_rfl
theorem c_L_FnExactWhereIs {g : G} {t : TE} {a0 : Centre} {a1 : Int} {r : Bool} (hg : g = G.real) (ht : t = TE.real) (h : L_FnExactWhereIs g t a0 a1 = some r) : Fn Try.prog 14 [.g (Centre.rs t a0), .c (.v (.int .i64 a1))] (.c (.r (.v (.bool r)))) := by
  obtain ⟨X, hX⟩ := hide (.c (.r (.v (.bool r))) : X)
  rw [← hX]
  refine fn_of (rvs := rv14) (j := ir14) Try.func14 rfl fit14 (Nat.le_of_ble_eq_true rfl) (by kernel_rfl) prog_mixed ?_
  intro g2 F hg2 hF
  obtain rfl : g2 = g := hg2.unique.trans hg.symm
  clear hg2
  obtain ⟨wrap, lt, le, eq, quo, rem, band, bor, bxor, shl, shr, nat, int, add, sub, mul, cat, seq, slt, sub3, byte, llen, nadd, nsub, dlen, dapp, dset, drep, rd, rda, up, rsub, dsub, all, sle, slen, hasI, putI, hasS, putS, imin, imax, fzc⟩ := g2
  obtain ⟨r_Item, d_Item, r_Chute, d_Chute, r_Inlet, d_Inlet, r_I64, d_I64, r_U8, d_U8⟩ := t
  obtain ⟨a0_Belt, a0_Chutes, a0_Inlets, a0_Plan, a0_Now⟩ := a0
  unfold L_FnExactWhereIs at h
  try dsimp only at h
  cbv
  obtain ⟨x1, hx1, h⟩ := of_lP h
  try dsimp only at h
  refine ACall.mk _ _ rfl (hF _ _ _ (c_L_szCentre hg ht hx1)) (.inl rfl) (Nat.le_of_ble_eq_true rfl) ?_
  cbv
  cases hb1 : (lt x1 0) with
  | true =>
    rw [br_true hb1] at h
    cbv
    obtain rfl := Option.some.inj h
    exact ARet.mk trivial hX.symm
  | false =>
    rw [br_false hb1] at h
    cbv
    obtain ⟨x2, hx2, h⟩ := of_cl h
    obtain ⟨x2_Belt, x2_Chutes, x2_Inlets, x2_Plan, x2_Now⟩ := x2
    try dsimp only at h
    refine ACall.mk _ _ rfl (hF _ _ _ (c_L_toCentre hg ht hx2)) (.inl rfl) (Nat.le_of_ble_eq_true rfl) ?_
    cbv
    refine AStep.mk ⟨(lend_Item ht (dlen_Item hg ht _)), ⟨(lend_Chute ht (dlen_Chute hg ht _)), ⟨(lend_Inlet ht (dlen_Inlet hg ht _)), (lend_I64 ht (dlen_I64 hg ht _))⟩⟩⟩ ?_
    cbv
    obtain ⟨x3, hx3, h⟩ := of_cl h
    obtain ⟨x3_1, x3_2⟩ := x3
    try dsimp only at h
    refine ACall.mk _ _ (by rw [show rd (d_Item x2_Belt) 0 (dlen (d_Item x2_Belt)) = r_Item x2_Belt from rdw_Item hg ht (dlen_Item hg ht _), show rd (d_Chute x2_Chutes) 0 (dlen (d_Chute x2_Chutes)) = r_Chute x2_Chutes from rdw_Chute hg ht (dlen_Chute hg ht _), show rd (d_Inlet x2_Inlets) 0 (dlen (d_Inlet x2_Inlets)) = r_Inlet x2_Inlets from rdw_Inlet hg ht (dlen_Inlet hg ht _), show rd (d_I64 x2_Plan) 0 (dlen (d_I64 x2_Plan)) = r_I64 x2_Plan from rdw_I64 hg ht (dlen_I64 hg ht _)]; try rfl) (hF _ _ _ (c_S_WhereIs hg ht hx3)) (.inr rfl) (Nat.le_of_ble_eq_true rfl) ?_
    cbv
    obtain ⟨x4, hx4, h⟩ := of_cl h
    obtain ⟨x4_Belt, x4_Chutes, x4_Inlets, x4_Plan, x4_Now⟩ := x4
    try dsimp only at h
    refine ACall.mk _ _ rfl (hF _ _ _ (c_L_toCentre hg ht hx4)) (.inl rfl) (Nat.le_of_ble_eq_true rfl) ?_
    cbv
    refine AStep.mk ⟨(lend_Item ht (dlen_Item hg ht _)), ⟨(lend_Chute ht (dlen_Chute hg ht _)), ⟨(lend_Inlet ht (dlen_Inlet hg ht _)), (lend_I64 ht (dlen_I64 hg ht _))⟩⟩⟩ ?_
    cbv
    obtain ⟨x5, hx5, h⟩ := of_cl h
    obtain ⟨x5_1, x5_2⟩ := x5
    try dsimp only at h
    refine ACall.mk _ _ (by rw [show rd (d_Item x4_Belt) 0 (dlen (d_Item x4_Belt)) = r_Item x4_Belt from rdw_Item hg ht (dlen_Item hg ht _), show rd (d_Chute x4_Chutes) 0 (dlen (d_Chute x4_Chutes)) = r_Chute x4_Chutes from rdw_Chute hg ht (dlen_Chute hg ht _), show rd (d_Inlet x4_Inlets) 0 (dlen (d_Inlet x4_Inlets)) = r_Inlet x4_Inlets from rdw_Inlet hg ht (dlen_Inlet hg ht _), show rd (d_I64 x4_Plan) 0 (dlen (d_I64 x4_Plan)) = r_I64 x4_Plan from rdw_I64 hg ht (dlen_I64 hg ht _)]; try rfl) (hF _ _ _ (c_I_WhereIs hg ht hx5)) (.inr rfl) (Nat.le_of_ble_eq_true rfl) ?_
    cbv
    cases hb2 : (eq x5_1 x3_1) with
    | true =>
      rw [br_true hb2] at h
      cbv
      try (rw [hb2]; cbv)
      try (rw [hb2]; cbv)
      try (rw [hb2]; cbv)
      cases hb3 : (eq x5_2 x3_2) with
      | true =>
        rw [br_true hb3] at h
        cbv
        obtain ⟨x6, hx6, h⟩ := of_cl h
        obtain ⟨x6_Belt, x6_Chutes, x6_Inlets, x6_Plan, x6_Now⟩ := x6
        try dsimp only at h
        refine ACall.mk _ _ rfl (hF _ _ _ (c_L_toCentre hg ht hx6)) (.inl rfl) (Nat.le_of_ble_eq_true rfl) ?_
        cbv
        refine AStep.mk ⟨⟨(lend_Item ht (dlen_Item hg ht _)), ⟨(lend_Chute ht (dlen_Chute hg ht _)), ⟨(lend_Inlet ht (dlen_Inlet hg ht _)), (lend_I64 ht (dlen_I64 hg ht _))⟩⟩⟩, ⟨(lend_Item ht (dlen_Item hg ht _)), ⟨(lend_Chute ht (dlen_Chute hg ht _)), ⟨(lend_Inlet ht (dlen_Inlet hg ht _)), (lend_I64 ht (dlen_I64 hg ht _))⟩⟩⟩⟩ ?_
        cbv
        obtain ⟨x7, hx7, h⟩ := of_cl h
        try dsimp only at h
        refine ACall.mk _ _ (by rw [show rd (d_Item x4_Belt) 0 (dlen (d_Item x4_Belt)) = r_Item x4_Belt from rdw_Item hg ht (dlen_Item hg ht _), show rd (d_Chute x4_Chutes) 0 (dlen (d_Chute x4_Chutes)) = r_Chute x4_Chutes from rdw_Chute hg ht (dlen_Chute hg ht _), show rd (d_Inlet x4_Inlets) 0 (dlen (d_Inlet x4_Inlets)) = r_Inlet x4_Inlets from rdw_Inlet hg ht (dlen_Inlet hg ht _), show rd (d_I64 x4_Plan) 0 (dlen (d_I64 x4_Plan)) = r_I64 x4_Plan from rdw_I64 hg ht (dlen_I64 hg ht _), show rd (d_Item x6_Belt) 0 (dlen (d_Item x6_Belt)) = r_Item x6_Belt from rdw_Item hg ht (dlen_Item hg ht _), show rd (d_Chute x6_Chutes) 0 (dlen (d_Chute x6_Chutes)) = r_Chute x6_Chutes from rdw_Chute hg ht (dlen_Chute hg ht _), show rd (d_Inlet x6_Inlets) 0 (dlen (d_Inlet x6_Inlets)) = r_Inlet x6_Inlets from rdw_Inlet hg ht (dlen_Inlet hg ht _), show rd (d_I64 x6_Plan) 0 (dlen (d_I64 x6_Plan)) = r_I64 x6_Plan from rdw_I64 hg ht (dlen_I64 hg ht _)]; try rfl) (hF _ _ _ (c_L_eqCentre hg ht hx7)) (.inr rfl) (Nat.le_of_ble_eq_true rfl) ?_
        cbv
        cases hb4 : x7 with
        | true =>
          rw [br_true hb4] at h
          cbv
          obtain rfl := Option.some.inj h
          exact ARet.mk trivial hX.symm
        | false =>
          rw [br_false hb4] at h
          cbv
          obtain rfl := Option.some.inj h
          exact ARet.mk trivial hX.symm
      | false =>
        rw [br_false hb3] at h
        cbv
        obtain rfl := Option.some.inj h
        exact ARet.mk trivial hX.symm
    | false =>
      rw [br_false hb2] at h
      cbv
      try (rw [hb2]; cbv)
      try (rw [hb2]; cbv)
      try (rw [hb2]; cbv)
      obtain rfl := Option.some.inj h
      exact ARet.mk trivial hX.symm
end Go.Vs
