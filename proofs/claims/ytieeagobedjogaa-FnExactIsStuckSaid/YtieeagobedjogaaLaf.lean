/- Part of the proofs of this seat's laws: Laf. No condition. -/
import Derived.Test.YtieeagobedjogaaTy
import Derived.Test.YtieeagobedjogaaTIRall
import Derived.Test.YtieeagobedjogaaLac
import Derived.Test.YtieeagobedjogaaLab
import Derived.Test.YtieeagobedjogaaLad
import Derived.Test.YtieeagobedjogaaLaa
set_option linter.unusedVariables false
set_option linter.unusedSimpArgs false
set_option linter.unusedSectionVars false
namespace Go.Vs
set_option maxRecDepth 100000
def ir55 : J :=
  .seq (.reg none [⟨(some 1), none, .box (.t 0)⟩,
     ⟨(some 2), none, .mv (.k (V.b false))⟩] [1])
  (.seq (.seq (.reg none [⟨(some 6), none, .ld true 5 (.t 1)⟩,
      ⟨(some 7), none, .call 32 true [(.t 6)]⟩,
      ⟨(some 8), none, .not (.t 7)⟩,
      ⟨(some 9), none, .mv (.t 8)⟩,
      ⟨(some 10), (some (9, false)), .ld true 5 (.t 1)⟩,
      ⟨(some 11), (some (9, false)), .call 56 true [(.t 10)]⟩,
      ⟨(some 12), none, .pick (.t 9) (.k (V.b true)) (.t 11)⟩] [1, 12])
   (.cond (.t 12)
    (.seq (.reg none [⟨(some 2), none, .mv (.k (V.b false))⟩] [2])
     (.ret))
    (.skip)))
  (.seq (.seq (.reg none [⟨(some 13), none, .fa 0 (.t 1)⟩,
      ⟨(some 14), none, .ld false 1 (.t 13)⟩,
      ⟨(some 15), none, .len false (.t 14)⟩,
      ⟨(some 16), none, .mv (.k (V.i 0))⟩] [1, 14, 15, 16])
   (.bl 0 (.seq (.reg none [⟨(some 17), none, .bin .lss .i (.t 16) (.t 15)⟩] [1, 14, 15, 16, 17])
    (.seq (.cond (.t 17)
      (.skip)
      (.exit 0))
    (.seq (.block 1 (.seq (.reg none [⟨(some 18), none, .ia 2 (.t 14) (.t 16)⟩,
         ⟨(some 19), none, .ld true 2 (.t 18)⟩,
         ⟨(some 4), none, .alloc [.r (.v (.int .i64 0)), .r (.v (.int .i64 0))]⟩,
         ⟨none, none, .st 2 (.t 4) (.t 19)⟩] [1, 4, 14, 15, 16])
      (.seq (.reg none [⟨(some 20), none, .ld true 2 (.t 4)⟩,
         ⟨(some 21), none, .bld [.r (.v (.int .i64 0)), .r (.v (.int .i64 0))] []⟩,
         ⟨(some 22), none, .eqs true [.i, .i] (.t 20) (.t 21)⟩] [1, 4, 14, 15, 16, 22])
      (.cond (.t 22)
       (.seq (.reg (some [[], [0], [], [2], [], [4], [2, 3, 4, 5], [2, 3, 4, 5, 6], [0, 1, 2, 3, 4, 5, 6, 7], [0, 1, 2, 3, 4, 5, 6, 7, 8], [], [0, 1, 2, 3, 4, 5, 6, 7, 8, 9, 10]]) [⟨(some 23), none, .fa 1 (.t 1)⟩,
           ⟨(some 24), none, .ld false 1 (.t 23)⟩,
           ⟨(some 25), none, .fa 3 (.t 1)⟩,
           ⟨(some 26), none, .ld false 1 (.t 25)⟩,
           ⟨(some 27), none, .fa 1 (.t 4)⟩,
           ⟨(some 28), none, .ld false 1 (.t 27)⟩,
           ⟨(some 29), none, .ia 1 (.t 26) (.t 28)⟩,
           ⟨(some 30), none, .ld false 1 (.t 29)⟩,
           ⟨(some 31), none, .ia 3 (.t 24) (.t 30)⟩,
           ⟨(some 32), none, .ld true 3 (.t 31)⟩,
           ⟨(some 5), none, .alloc [.r (.v (.int .i64 0)), .r (.v (.int .i64 0)), .n 2]⟩,
           ⟨none, none, .st 3 (.t 5) (.t 32)⟩] [1, 5, 14, 15, 16])
        (.seq (.reg none [⟨(some 33), none, .fa 2 (.t 5)⟩,
           ⟨(some 34), none, .ld false 1 (.t 33)⟩,
           ⟨(some 35), none, .len false (.t 34)⟩,
           ⟨(some 36), none, .fa 1 (.t 5)⟩,
           ⟨(some 37), none, .ld false 1 (.t 36)⟩,
           ⟨(some 38), none, .bin .lss .i (.t 35) (.t 37)⟩] [1, 14, 15, 16, 38])
        (.cond (.t 38)
         (.seq (.reg none [⟨(some 2), none, .mv (.k (V.b false))⟩] [2])
          (.ret))
         (.skip))))
       (.skip)))))
    (.reg none [⟨(some 39), none, .bin .add .i (.t 16) (.k (V.i 1))⟩,
      ⟨(some 16), none, .mv (.t 39)⟩] [1, 14, 15, 16]))))))
  (.seq (.reg (some [[], [0], [0, 1], [0, 1, 2], [0, 1, 2, 3], [0, 1, 2, 3, 4], [0, 1, 2, 3], [0, 1, 2, 3, 6], [0, 1, 2, 3, 6, 7], [0, 1, 2, 3, 4, 5, 6, 7, 8], [0, 1, 2, 3, 4, 5, 6, 7, 8, 9], [0, 1, 2, 3, 4, 5, 6, 7, 8, 9, 10]]) [⟨(some 40), none, .ld true 5 (.t 1)⟩,
     ⟨(some 41), none, .call 27 true [(.t 40)]⟩,
     ⟨(some 42), none, .bin .eql .i (.t 41) (.k (V.i 0))⟩,
     ⟨(some 43), none, .mv (.t 42)⟩,
     ⟨(some 44), (some (43, false)), .ld true 5 (.t 1)⟩,
     ⟨(some 45), (some (43, false)), .call 30 true [(.t 44)]⟩,
     ⟨(some 46), (some (43, false)), .fa 0 (.t 1)⟩,
     ⟨(some 47), (some (43, false)), .ld false 1 (.t 46)⟩,
     ⟨(some 48), (some (43, false)), .len false (.t 47)⟩,
     ⟨(some 49), (some (43, false)), .bin .eql .i (.t 45) (.t 48)⟩,
     ⟨(some 50), none, .pick (.t 43) (.k (V.b true)) (.t 49)⟩,
     ⟨(some 2), none, .mv (.t 50)⟩] [2])
  (.ret))))
def rv55 : List RV := [.t 2]
open Go.Proofs Go.IntWalk
set_option linter.unusedVariables false
set_option maxRecDepth 100000
set_option maxHeartbeats 4000000
def I_IsStuck_l1 (g : G) (t : TE) (a0 : Centre) : List Item → Option (LR Bool Unit)
  | [] =>
    some (LR.out ())
  | z1 :: ls1 =>
    br (g.all [(g.eq z1.Id 0), (g.eq z1.Dest 0)])
    (
     I_IsStuck_l1 g t a0 ls1)
    (
     gd ((0 ≤ z1.Dest)) <|
     gt a0.Plan (g.nat z1.Dest) fun x3 =>
     gd ((0 ≤ x3)) <|
     gt a0.Chutes (g.nat x3) fun x4 =>
     br (g.lt (g.llen (t.r_Item x4.Held)) x4.Room)
     (
      some (LR.ret false))
     (
      I_IsStuck_l1 g t a0 ls1))
def I_IsStuck (g : G) (t : TE) (a0 : Centre) : Option Bool :=
  cl (I_IsCentre g t a0) fun x1 =>
  br x1
  (
   cl (I_IsDrained g t a0) fun x2 =>
   br x2
   (
    some false)
   (
    cl (I_IsStuck_l1 g t a0 a0.Belt) fun o1 => lr o1 fun y1 =>
    lP (I_CountWait g t a0) fun x5 =>
    br (g.eq x5 0)
    (
     some true)
    (
     lP (I_CountBelt g t a0) fun x6 =>
     some (g.eq x6 (g.llen (t.r_Item a0.Belt))))))
  (
   some false)
theorem fit55 : codeFit Try.prog Try.f55.ntmps (Try.f55.body.getD .skip) ir55 = true := by kernel_rfl
theorem c_I_IsStuck {g : G} {t : TE} {a0 : Centre} {r : Bool} (hg : g = G.real) (ht : t = TE.real) (h : I_IsStuck g t a0 = some r) : Fn Try.prog 55 [.g (Centre.rs t a0)] (.c (.r (.v (.bool r)))) := by
  obtain ⟨X, hX⟩ := hide (.c (.r (.v (.bool r))) : X)
  rw [← hX]
  refine fn_of (rvs := rv55) (j := ir55) Try.func55 rfl fit55 (Nat.le_of_ble_eq_true rfl) (by kernel_rfl) prog_mixed ?_
  intro g2 F hg2 hF
  obtain rfl : g2 = g := hg2.unique.trans hg.symm
  clear hg2
  obtain ⟨wrap, lt, le, eq, quo, rem, band, bor, bxor, shl, shr, nat, int, add, sub, mul, cat, seq, slt, sub3, byte, llen, nadd, nsub, dlen, dapp, dset, drep, rd, rda, up, rsub, dsub, all, sle, slen, hasI, putI, hasS, putS, imin, imax, fzc⟩ := g2
  obtain ⟨r_Item, d_Item, r_Chute, d_Chute, r_Inlet, d_Inlet, r_I64, d_I64, r_U8, d_U8⟩ := t
  obtain ⟨a0_Belt, a0_Chutes, a0_Inlets, a0_Plan, a0_Now⟩ := a0
  unfold I_IsStuck at h
  try dsimp only at h
  cbv
  obtain ⟨x1, hx1, h⟩ := of_cl h
  try dsimp only at h
  refine ACall.mk _ _ rfl (hF _ _ _ (c_I_IsCentre hg ht hx1)) (.inl rfl) (Nat.le_of_ble_eq_true rfl) ?_
  cbv
  cases hb1 : x1 with
  | true =>
    rw [br_true hb1] at h
    cbv
    try (rw [hb1]; cbv)
    obtain ⟨x2, hx2, h⟩ := of_cl h
    try dsimp only at h
    refine ACall.mk _ _ rfl (hF _ _ _ (c_I_IsDrained hg ht hx2)) (.inl rfl) (Nat.le_of_ble_eq_true rfl) ?_
    cbv
    try (rw [hb1]; cbv)
    cases hb2 : x2 with
    | true =>
      rw [br_true hb2] at h
      cbv
      obtain rfl := Option.some.inj h
      exact ARet.mk trivial hX.symm
    | false =>
      rw [br_false hb2] at h
      cbv
      obtain ⟨o1, ho1, h⟩ := of_cl h
      try dsimp only at h
      try rw [hg] at ho1
      try rw [ht] at ho1
      refine ABL.mk { p : Nat × Int // p.1 ≤ a0_Belt.length ∧ p.2 = ((p.1 : Nat) : Int) ∧ I_IsStuck_l1 G.real TE.real (Centre.mk a0_Belt a0_Chutes a0_Inlets a0_Plan a0_Now) (List.drop p.1 a0_Belt) = some o1 } (fun ⟨⟨k1, v1⟩, _⟩ => ({ sl := [(1, .c (.p 0 5 0 0)), (14, .c (.r (.s 2 (r_Item a0_Belt)))), (15, .c (.r (.v (.int .i64 (llen (r_Item a0_Belt)))))), (16, .c (.r (.v (.int .i64 v1))))], tab := [(0, some (.foc 5 [] [.r (.s 2 (r_Item a0_Belt)), .r (.s 3 (r_Chute a0_Chutes)), .r (.s 2 (r_Inlet a0_Inlets)), .r (.s 1 (r_I64 a0_Plan)), .r (.v (.int .i64 a0_Now))] []))] } : St)) 1 (fun p => a0_Belt.length - p.1.1) ⟨(0, 0), Nat.zero_le _, rfl, ho1⟩ (Unit) (fun _ => ({ sl := [(1, .c (.p 0 5 0 0))], tab := [(0, some (.foc 5 [] [.r (.s 2 (r_Item a0_Belt)), .r (.s 3 (r_Chute a0_Chutes)), .r (.s 2 (r_Inlet a0_Inlets)), .r (.s 1 (r_I64 a0_Plan)), .r (.v (.int .i64 a0_Now))] []))] } : St)) 1 (fun y => o1 = LR.out y) ?_ ?_ ?_
      · refine Wk.of [(0, some 0)] rfl rfl ?_ ?_
        · cbv
          all_goals exact ⟨⟨_, rfl, rfl⟩, ⟨_, rfl, rfl⟩, ⟨_, rfl, rfl⟩, ⟨_, rfl, rfl⟩, trivial⟩
        · cbv
          all_goals exact ⟨⟨_, rfl, _, rfl, rfl, rfl, rfl, rfl, rfl, trivial⟩, trivial⟩
      · rintro ⟨⟨k1, v1⟩, hk1, hi1, h_1⟩ hq1
        have hm1 := (hq1.1 14 _ _ rfl)
        try dsimp only at hk1 hi1 h_1
        clear hq1
        cbv
        by_cases hc1_ : k1 < a0_Belt.length
        · have hb3 : lt v1 (llen (r_Item a0_Belt)) = true := ltL_true_Item hg ht hi1 hc1_
          have hs1 := stepL_Item hg ht hi1 hc1_ hm1
          obtain ⟨z1, hz1⟩ := some_of_lt hc1_
          rw [drop_of_some hz1] at h_1
          rw [I_IsStuck_l1] at h_1
          obtain ⟨z1_Id, z1_Dest⟩ := z1
          try rw [← hg] at h_1
          try rw [← ht] at h_1
          try dsimp only at h_1
          rw [hb3]
          cbv
          refine AStep.mk (nn_L hi1) ?_
          cbv
          refine AGet.mk _ (r_getL_Item hg ht hi1 hz1) ?_
          cbv
          cases hb4 : (all [(eq z1_Id 0), (eq z1_Dest 0)]) with
          | true =>
            rw [br_true hb4] at h_1
            cbv
            try rw [hg] at h_1
            try rw [ht] at h_1
            refine ⟨⟨(k1 + 1, (wrap .i64 (add v1 1))), hc1_, hs1, h_1⟩, Wk.of [(0, some 0)] rfl rfl ?_ ?_, meas_L hc1_⟩
            · cbv
              all_goals exact ⟨⟨_, rfl, rfl⟩, ⟨_, rfl, rfl⟩, ⟨_, rfl, rfl⟩, ⟨_, rfl, rfl⟩, trivial⟩
            · cbv
              all_goals exact ⟨⟨_, rfl, _, rfl, rfl, rfl, rfl, rfl, rfl, trivial⟩, trivial⟩
          | false =>
            rw [br_false hb4] at h_1
            cbv
            obtain ⟨hc1, h_1⟩ := of_gd h_1
            refine AStep.mk hc1 ?_
            cbv
            obtain ⟨x3, hx3, h_1⟩ := of_gt h_1
            try dsimp only at h_1
            refine AGet.mk _ (r_get_I64 hg ht hx3) ?_
            cbv
            obtain ⟨hc2, h_1⟩ := of_gd h_1
            refine AStep.mk hc2 ?_
            cbv
            obtain ⟨x4, hx4, h_1⟩ := of_gt h_1
            obtain ⟨x4_Cell, x4_Room, x4_Held⟩ := x4
            try dsimp only at h_1
            refine AGet.mk _ (r_get_Chute hg ht hx4) ?_
            cbv
            cases hb5 : (lt (llen (r_Item x4_Held)) x4_Room) with
            | true =>
              rw [br_true hb5] at h_1
              cbv
              obtain rfl := Option.some.inj h_1
              try dsimp only [lr, lrL, lrp, lrpL] at h
              obtain rfl := Option.some.inj h
              exact ARet.mk trivial hX.symm
            | false =>
              rw [br_false hb5] at h_1
              cbv
              try rw [hg] at h_1
              try rw [ht] at h_1
              refine ⟨⟨(k1 + 1, (wrap .i64 (add v1 1))), hc1_, hs1, h_1⟩, Wk.of [(0, some 0)] rfl rfl ?_ ?_, meas_L hc1_⟩
              · cbv
                all_goals exact ⟨⟨_, rfl, rfl⟩, ⟨_, rfl, rfl⟩, ⟨_, rfl, rfl⟩, ⟨_, rfl, rfl⟩, trivial⟩
              · cbv
                all_goals exact ⟨⟨_, rfl, _, rfl, rfl, rfl, rfl, rfl, rfl, trivial⟩, trivial⟩
        · have hb3 : lt v1 (llen (r_Item a0_Belt)) = false := ltL_false_Item hg ht hi1 hc1_
          rw [List.drop_of_length_le (Nat.le_of_not_lt hc1_)] at h_1
          rw [I_IsStuck_l1] at h_1
          try rw [← hg] at h_1
          try rw [← ht] at h_1
          try dsimp only at h_1
          rw [hb3]
          cbv
          refine ⟨(), Wk.of [(0, some 0)] rfl rfl ?_ ?_, (Option.some.inj h_1).symm⟩
          · cbv
            all_goals exact ⟨⟨_, rfl, rfl⟩, trivial⟩
          · cbv
            all_goals exact ⟨⟨_, rfl, _, rfl, rfl, rfl, rfl, rfl, rfl, trivial⟩, trivial⟩
      · rintro _ hy1
        replace hy1 := hy1.symm
        subst hy1
        try dsimp only [lr, lrL, lrp, lrpL] at h
        cbv
        obtain ⟨x5, hx5, h⟩ := of_lP h
        try dsimp only at h
        refine ACall.mk _ _ rfl (hF _ _ _ (c_I_CountWait hg ht hx5)) (.inl rfl) (Nat.le_of_ble_eq_true rfl) ?_
        cbv
        cases hb6 : (eq x5 0) with
        | true =>
          rw [br_true hb6] at h
          cbv
          try (rw [hb6]; cbv)
          try (rw [hb6]; cbv)
          try (rw [hb6]; cbv)
          try (rw [hb6]; cbv)
          try (rw [hb6]; cbv)
          try (rw [hb6]; cbv)
          obtain rfl := Option.some.inj h
          exact ARet.mk trivial hX.symm
        | false =>
          rw [br_false hb6] at h
          cbv
          try (rw [hb6]; cbv)
          obtain ⟨x6, hx6, h⟩ := of_lP h
          try dsimp only at h
          refine ACall.mk _ _ rfl (hF _ _ _ (c_I_CountBelt hg ht hx6)) (.inl rfl) (Nat.le_of_ble_eq_true rfl) ?_
          cbv
          try (rw [hb6]; cbv)
          try (rw [hb6]; cbv)
          try (rw [hb6]; cbv)
          try (rw [hb6]; cbv)
          try (rw [hb6]; cbv)
          obtain rfl := Option.some.inj h
          exact ARet.mk trivial hX.symm
  | false =>
    rw [br_false hb1] at h
    cbv
    try (rw [hb1]; cbv)
    try (rw [hb1]; cbv)
    obtain rfl := Option.some.inj h
    exact ARet.mk trivial hX.symm
end Go.Vs
namespace Go.Vs
set_option maxRecDepth 100000
def ir60 : J :=
  .seq (.reg none [⟨(some 1), none, .box (.t 0)⟩,
     ⟨(some 2), none, .mv (.k (V.b false))⟩] [1])
  (.seq (.seq (.reg (some [[], [0], [0, 1], [0, 1, 2], [0, 1, 2, 3], [0, 1, 2, 3, 4], [0, 1, 2, 3, 4, 5], [0, 1, 2, 3, 4, 5, 6], [0, 1, 2, 3, 4, 5, 6, 7], [0, 1, 2, 3, 4, 5, 6, 7, 8], [0, 1, 2, 3, 4, 5, 6, 7, 8, 9], [0, 1, 2, 3, 4, 5, 6, 7, 8, 9, 10], [0, 1, 2, 3, 4, 5, 6, 7, 8, 9, 10, 11], [0, 1, 2, 3, 4, 5, 6, 7, 8, 9, 10, 11, 12], [0, 1, 2, 3, 4, 5, 6, 7, 8, 9, 10, 11], [0, 1, 2, 3, 4, 5, 6, 7, 8, 9, 10, 11, 14], [0, 1, 2, 3, 4, 5, 6, 7, 8, 9, 10, 11, 14, 15], [0, 1, 2, 3, 4, 5, 6, 7, 8, 9, 10, 11, 12, 13, 14, 15, 16], [0, 1, 2, 3, 4, 5, 6, 7, 8, 9, 10, 11, 12, 13, 14, 15, 16, 17], [0, 1, 2, 3, 4, 5, 6, 7, 8, 9, 10, 11, 12, 13, 14, 15, 16, 17, 18]]) [⟨(some 5), none, .ld true 5 (.t 1)⟩,
      ⟨(some 6), none, .call 31 true [(.t 5)]⟩,
      ⟨(some 7), none, .not (.t 6)⟩,
      ⟨(some 8), none, .mv (.t 7)⟩,
      ⟨(some 9), (some (8, false)), .ld true 5 (.t 1)⟩,
      ⟨(some 10), (some (8, false)), .call 57 true [(.t 9)]⟩,
      ⟨(some 11), none, .pick (.t 8) (.k (V.b true)) (.t 10)⟩,
      ⟨(some 12), none, .mv (.t 11)⟩,
      ⟨(some 13), (some (12, false)), .ld true 5 (.t 1)⟩,
      ⟨(some 14), (some (12, false)), .call 25 true [(.t 13)]⟩,
      ⟨(some 15), (some (12, false)), .bin .gtr .i (.t 14) (.k (V.i 0))⟩,
      ⟨(some 16), (some (12, false)), .mv (.t 15)⟩,
      ⟨(some 17), (some (16, true)), .ld true 5 (.t 1)⟩,
      ⟨(some 18), (some (16, true)), .call 29 true [(.t 17)]⟩,
      ⟨(some 19), (some (16, true)), .fa 0 (.t 1)⟩,
      ⟨(some 20), (some (16, true)), .ld false 1 (.t 19)⟩,
      ⟨(some 21), (some (16, true)), .len false (.t 20)⟩,
      ⟨(some 22), (some (16, true)), .bin .lss .i (.t 18) (.t 21)⟩,
      ⟨(some 23), (some (12, false)), .pick (.t 16) (.t 22) (.k (V.b false))⟩,
      ⟨(some 24), none, .pick (.t 12) (.k (V.b true)) (.t 23)⟩] [1, 24])
   (.cond (.t 24)
    (.seq (.reg none [⟨(some 2), none, .mv (.k (V.b false))⟩] [2])
     (.ret))
    (.skip)))
  (.seq (.seq (.reg none [⟨(some 3), none, .mv (.k (V.i 0))⟩] [1, 3])
   (.bl 0 (.seq (.seq (.reg none [⟨(some 25), none, .mv (.t 3)⟩,
        ⟨(some 26), none, .fa 0 (.t 1)⟩,
        ⟨(some 27), none, .ld false 1 (.t 26)⟩,
        ⟨(some 28), none, .len false (.t 27)⟩,
        ⟨(some 29), none, .bin .lss .i (.t 25) (.t 28)⟩] [1, 3, 29])
     (.cond (.t 29)
      (.skip)
      (.exit 0)))
    (.seq (.block 1 (.seq (.reg none [⟨(some 32), none, .fa 0 (.t 1)⟩,
         ⟨(some 33), none, .ld false 1 (.t 32)⟩,
         ⟨(some 34), none, .mv (.t 3)⟩,
         ⟨(some 35), none, .ia 2 (.t 33) (.t 34)⟩,
         ⟨(some 36), none, .ld true 2 (.t 35)⟩,
         ⟨(some 4), none, .alloc [.r (.v (.int .i64 0)), .r (.v (.int .i64 0))]⟩,
         ⟨none, none, .st 2 (.t 4) (.t 36)⟩] [1, 3, 4])
      (.seq (.reg (some [[], [0], [0, 1], [0, 1, 2], [0, 1, 2, 3], [0, 1, 2, 3, 4], [0, 1, 2, 3], [0, 1, 2, 3, 6], [0, 1, 2, 3], [0, 1, 2, 3, 8], [0, 1, 2, 3, 6, 7, 8, 9], [0, 1, 2, 3, 6, 7, 8, 9, 10], [0, 1, 2, 3, 4, 5, 6, 7, 8, 9, 10, 11], [0, 1, 2, 3, 4, 5, 6, 7, 8, 9, 10, 11, 12], [0, 1, 2, 3, 4, 5, 6, 7, 8, 9, 10, 11, 12, 13], [0, 1, 2, 3, 4, 5, 6, 7, 8, 9, 10, 11, 12, 13, 14], [0, 1, 2, 3], [0, 1, 2, 3, 16], [0, 1, 2, 3], [0, 1, 2, 3, 18], [0, 1, 2, 3], [0, 1, 2, 3, 20], [0, 1, 2, 3, 18, 19, 20, 21], [0, 1, 2, 3, 18, 19, 20, 21, 22], [0, 1, 2, 3, 16, 17, 18, 19, 20, 21, 22, 23], [0, 1, 2, 3, 16, 17, 18, 19, 20, 21, 22, 23, 24], [0, 1, 2, 3, 16, 17, 18, 19, 20, 21, 22, 23, 24, 25], [0, 1, 2, 3, 4, 5, 6, 7, 8, 9, 10, 11, 12, 13, 14, 15, 16, 17, 18, 19, 20, 21, 22, 23, 24, 25, 26], [0, 1, 2, 3, 4, 5, 6, 7, 8, 9, 10, 11, 12, 13, 14, 15, 16, 17, 18, 19, 20, 21, 22, 23, 24, 25, 26, 27]]) [⟨(some 37), none, .fa 0 (.t 4)⟩,
         ⟨(some 38), none, .ld false 1 (.t 37)⟩,
         ⟨(some 39), none, .bin .neq .i (.t 38) (.k (V.i 0))⟩,
         ⟨(some 40), none, .mv (.t 39)⟩,
         ⟨(some 41), (some (40, true)), .fa 1 (.t 1)⟩,
         ⟨(some 42), (some (40, true)), .ld false 1 (.t 41)⟩,
         ⟨(some 43), (some (40, true)), .fa 3 (.t 1)⟩,
         ⟨(some 44), (some (40, true)), .ld false 1 (.t 43)⟩,
         ⟨(some 45), (some (40, true)), .fa 1 (.t 4)⟩,
         ⟨(some 46), (some (40, true)), .ld false 1 (.t 45)⟩,
         ⟨(some 47), (some (40, true)), .ia 1 (.t 44) (.t 46)⟩,
         ⟨(some 48), (some (40, true)), .ld false 1 (.t 47)⟩,
         ⟨(some 49), (some (40, true)), .ia 3 (.t 42) (.t 48)⟩,
         ⟨(some 50), (some (40, true)), .fa 2 (.t 49)⟩,
         ⟨(some 51), (some (40, true)), .ld false 1 (.t 50)⟩,
         ⟨(some 52), (some (40, true)), .len false (.t 51)⟩,
         ⟨(some 53), (some (40, true)), .fa 1 (.t 1)⟩,
         ⟨(some 54), (some (40, true)), .ld false 1 (.t 53)⟩,
         ⟨(some 55), (some (40, true)), .fa 3 (.t 1)⟩,
         ⟨(some 56), (some (40, true)), .ld false 1 (.t 55)⟩,
         ⟨(some 57), (some (40, true)), .fa 1 (.t 4)⟩,
         ⟨(some 58), (some (40, true)), .ld false 1 (.t 57)⟩,
         ⟨(some 59), (some (40, true)), .ia 1 (.t 56) (.t 58)⟩,
         ⟨(some 60), (some (40, true)), .ld false 1 (.t 59)⟩,
         ⟨(some 61), (some (40, true)), .ia 3 (.t 54) (.t 60)⟩,
         ⟨(some 62), (some (40, true)), .fa 1 (.t 61)⟩,
         ⟨(some 63), (some (40, true)), .ld false 1 (.t 62)⟩,
         ⟨(some 64), (some (40, true)), .bin .lss .i (.t 52) (.t 63)⟩,
         ⟨(some 65), none, .pick (.t 40) (.t 64) (.k (V.b false))⟩] [1, 3, 65])
      (.cond (.t 65)
       (.seq (.reg none [⟨(some 2), none, .mv (.k (V.b false))⟩] [2])
        (.ret))
       (.skip)))))
    (.reg none [⟨(some 30), none, .mv (.t 3)⟩,
      ⟨(some 31), none, .bin .add .i (.t 30) (.k (V.i 1))⟩,
      ⟨(some 3), none, .mv (.t 31)⟩] [1, 3])))))
  (.seq (.reg none [⟨(some 2), none, .mv (.k (V.b true))⟩] [2])
  (.ret))))
def rv60 : List RV := [.t 2]
open Go.Proofs Go.IntWalk
set_option linter.unusedVariables false
set_option maxRecDepth 100000
set_option maxHeartbeats 4000000
def S_IsStuck_l2 (g : G) (t : TE) (a0 : Centre) : List Item → Option (LR Bool Unit)
  | [] =>
    some (LR.out ())
  | z2 :: ls2 =>
    br (g.eq z2.Id 0)
    (
     S_IsStuck_l2 g t a0 ls2)
    (
     gd ((0 ≤ z2.Dest)) <|
     gt a0.Plan (g.nat z2.Dest) fun x7 =>
     gd ((0 ≤ x7)) <|
     gt a0.Chutes (g.nat x7) fun x8 =>
     gd ((0 ≤ z2.Dest)) <|
     gd ((0 ≤ x7)) <|
     br (g.lt (g.llen (t.r_Item x8.Held)) x8.Room)
     (
      some (LR.ret false))
     (
      S_IsStuck_l2 g t a0 ls2))
def S_IsStuck_l1 (g : G) (t : TE) (a0 : Centre) : List Item → Option (LR Bool Unit)
  | [] =>
    some (LR.out ())
  | z1 :: ls1 =>
    br (g.eq z1.Id 0)
    (
     S_IsStuck_l1 g t a0 ls1)
    (
     gd ((0 ≤ z1.Dest)) <|
     gt a0.Plan (g.nat z1.Dest) fun x5 =>
     gd ((0 ≤ x5)) <|
     gt a0.Chutes (g.nat x5) fun x6 =>
     gd ((0 ≤ z1.Dest)) <|
     gd ((0 ≤ x5)) <|
     br (g.lt (g.llen (t.r_Item x6.Held)) x6.Room)
     (
      some (LR.ret false))
     (
      S_IsStuck_l1 g t a0 ls1))
def S_IsStuck (g : G) (t : TE) (a0 : Centre) : Option Bool :=
  cl (S_IsCentre g t a0) fun x1 =>
  br x1
  (
   cl (S_IsDrained g t a0) fun x2 =>
   br x2
   (
    some false)
   (
    lP (S_CountWait g t a0) fun x3 =>
    br (g.lt 0 x3)
    (
     lP (S_CountBelt g t a0) fun x4 =>
     br (g.lt x4 (g.llen (t.r_Item a0.Belt)))
     (
      some false)
     (
      cl (S_IsStuck_l1 g t a0 a0.Belt) fun o1 => lr o1 fun y1 =>
      some true))
    (
     cl (S_IsStuck_l2 g t a0 a0.Belt) fun o2 => lr o2 fun y2 =>
     some true)))
  (
   some false)
theorem fit60 : codeFit Try.prog Try.f60.ntmps (Try.f60.body.getD .skip) ir60 = true := by kernel_rfl
theorem c_S_IsStuck {g : G} {t : TE} {a0 : Centre} {r : Bool} (hg : g = G.real) (ht : t = TE.real) (h : S_IsStuck g t a0 = some r) : Fn Try.prog 60 [.g (Centre.rs t a0)] (.c (.r (.v (.bool r)))) := by
  obtain ⟨X, hX⟩ := hide (.c (.r (.v (.bool r))) : X)
  rw [← hX]
  refine fn_of (rvs := rv60) (j := ir60) Try.func60 rfl fit60 (Nat.le_of_ble_eq_true rfl) (by kernel_rfl) prog_mixed ?_
  intro g2 F hg2 hF
  obtain rfl : g2 = g := hg2.unique.trans hg.symm
  clear hg2
  obtain ⟨wrap, lt, le, eq, quo, rem, band, bor, bxor, shl, shr, nat, int, add, sub, mul, cat, seq, slt, sub3, byte, llen, nadd, nsub, dlen, dapp, dset, drep, rd, rda, up, rsub, dsub, all, sle, slen, hasI, putI, hasS, putS, imin, imax, fzc⟩ := g2
  obtain ⟨r_Item, d_Item, r_Chute, d_Chute, r_Inlet, d_Inlet, r_I64, d_I64, r_U8, d_U8⟩ := t
  obtain ⟨a0_Belt, a0_Chutes, a0_Inlets, a0_Plan, a0_Now⟩ := a0
  unfold S_IsStuck at h
  try dsimp only at h
  cbv
  obtain ⟨x1, hx1, h⟩ := of_cl h
  try dsimp only at h
  refine ACall.mk _ _ rfl (hF _ _ _ (c_S_IsCentre hg ht hx1)) (.inl rfl) (Nat.le_of_ble_eq_true rfl) ?_
  cbv
  cases hb1 : x1 with
  | true =>
    rw [br_true hb1] at h
    cbv
    try (rw [hb1]; cbv)
    obtain ⟨x2, hx2, h⟩ := of_cl h
    try dsimp only at h
    refine ACall.mk _ _ rfl (hF _ _ _ (c_S_IsDrained hg ht hx2)) (.inl rfl) (Nat.le_of_ble_eq_true rfl) ?_
    cbv
    try (rw [hb1]; cbv)
    cases hb2 : x2 with
    | true =>
      rw [br_true hb2] at h
      cbv
      try (rw [hb2]; cbv)
      try (rw [hb2]; cbv)
      try (rw [hb2]; cbv)
      try (rw [hb2]; cbv)
      try (rw [hb2]; cbv)
      obtain rfl := Option.some.inj h
      exact ARet.mk trivial hX.symm
    | false =>
      rw [br_false hb2] at h
      cbv
      try (rw [hb2]; cbv)
      obtain ⟨x3, hx3, h⟩ := of_lP h
      try dsimp only at h
      refine ACall.mk _ _ rfl (hF _ _ _ (c_S_CountWait hg ht hx3)) (.inl rfl) (Nat.le_of_ble_eq_true rfl) ?_
      cbv
      try (rw [hb2]; cbv)
      try (rw [hb2]; cbv)
      cases hb3 : (lt 0 x3) with
      | true =>
        rw [br_true hb3] at h
        cbv
        try (rw [hb3]; cbv)
        obtain ⟨x4, hx4, h⟩ := of_lP h
        try dsimp only at h
        refine ACall.mk _ _ rfl (hF _ _ _ (c_S_CountBelt hg ht hx4)) (.inl rfl) (Nat.le_of_ble_eq_true rfl) ?_
        cbv
        try (rw [hb3]; cbv)
        try (rw [hb3]; cbv)
        try (rw [hb3]; cbv)
        try (rw [hb3]; cbv)
        try (rw [hb2]; cbv)
        try (rw [hb3]; cbv)
        try (rw [hb2]; cbv)
        cases hb4 : (lt x4 (llen (r_Item a0_Belt))) with
        | true =>
          rw [br_true hb4] at h
          cbv
          obtain rfl := Option.some.inj h
          exact ARet.mk trivial hX.symm
        | false =>
          rw [br_false hb4] at h
          cbv
          obtain ⟨o1, ho1, h⟩ := of_cl h
          try dsimp only at h
          try rw [hg] at ho1
          try rw [ht] at ho1
          refine ABL.mk { p : Nat × Int // p.1 ≤ a0_Belt.length ∧ p.2 = ((p.1 : Nat) : Int) ∧ S_IsStuck_l1 G.real TE.real (Centre.mk a0_Belt a0_Chutes a0_Inlets a0_Plan a0_Now) (List.drop p.1 a0_Belt) = some o1 } (fun ⟨⟨k1, v1⟩, _⟩ => ({ sl := [(1, .c (.p 0 5 0 0)), (3, .c (.r (.v (.int .i64 v1))))], tab := [(0, some (.foc 5 [] [.r (.s 2 (r_Item a0_Belt)), .r (.s 3 (r_Chute a0_Chutes)), .r (.s 2 (r_Inlet a0_Inlets)), .r (.s 1 (r_I64 a0_Plan)), .r (.v (.int .i64 a0_Now))] []))] } : St)) 1 (fun p => a0_Belt.length - p.1.1) ⟨(0, 0), Nat.zero_le _, rfl, ho1⟩ (Unit) (fun _ => ({ sl := [], tab := [] } : St)) 0 (fun y => o1 = LR.out y) ?_ ?_ ?_
          · refine Wk.of [(0, some 0)] rfl rfl ?_ ?_
            · cbv
              all_goals exact ⟨⟨_, rfl, rfl⟩, ⟨_, rfl, rfl⟩, trivial⟩
            · cbv
              all_goals exact ⟨⟨_, rfl, _, rfl, rfl, rfl, rfl, rfl, rfl, trivial⟩, trivial⟩
          · rintro ⟨⟨k1, v1⟩, hk1, hi1, h_1⟩ hq1
            have hm1 := (hq1.2.2.1 0 _ _ _ _ 0 _ _ rfl rfl)
            try dsimp only at hk1 hi1 h_1
            clear hq1
            cbv
            by_cases hc1_ : k1 < a0_Belt.length
            · have hb5 : lt v1 (llen (r_Item a0_Belt)) = true := ltL_true_Item hg ht hi1 hc1_
              have hs1 := stepL_Item hg ht hi1 hc1_ hm1
              obtain ⟨z1, hz1⟩ := some_of_lt hc1_
              rw [drop_of_some hz1] at h_1
              rw [S_IsStuck_l1] at h_1
              obtain ⟨z1_Id, z1_Dest⟩ := z1
              try rw [← hg] at h_1
              try rw [← ht] at h_1
              try dsimp only at h_1
              rw [hb5]
              cbv
              refine AStep.mk (nn_L hi1) ?_
              cbv
              refine AGet.mk _ (r_getL_Item hg ht hi1 hz1) ?_
              cbv
              cases hb6 : (eq z1_Id 0) with
              | true =>
                rw [br_true hb6] at h_1
                cbv
                try (rw [hb6]; cbv)
                try (rw [hb6]; cbv)
                try (rw [hb6]; cbv)
                try (rw [hb6]; cbv)
                try (rw [hb6]; cbv)
                try (rw [hb6]; cbv)
                try (rw [hb6]; cbv)
                try (rw [hb6]; cbv)
                try (rw [hb6]; cbv)
                try (rw [hb6]; cbv)
                try (rw [hb6]; cbv)
                try (rw [hb6]; cbv)
                try (rw [hb6]; cbv)
                try (rw [hb6]; cbv)
                try (rw [hb6]; cbv)
                try (rw [hb6]; cbv)
                try (rw [hb6]; cbv)
                try (rw [hb6]; cbv)
                try (rw [hb6]; cbv)
                try (rw [hb6]; cbv)
                try (rw [hb6]; cbv)
                try (rw [hb6]; cbv)
                try (rw [hb6]; cbv)
                try (rw [hb6]; cbv)
                try rw [hg] at h_1
                try rw [ht] at h_1
                refine ⟨⟨(k1 + 1, (wrap .i64 (add v1 1))), hc1_, hs1, h_1⟩, Wk.of [(0, some 0)] rfl rfl ?_ ?_, meas_L hc1_⟩
                · cbv
                  all_goals exact ⟨⟨_, rfl, rfl⟩, ⟨_, rfl, rfl⟩, trivial⟩
                · cbv
                  all_goals exact ⟨⟨_, rfl, _, rfl, rfl, rfl, rfl, rfl, rfl, trivial⟩, trivial⟩
              | false =>
                rw [br_false hb6] at h_1
                cbv
                try (rw [hb6]; cbv)
                try (rw [hb6]; cbv)
                try (rw [hb6]; cbv)
                try (rw [hb6]; cbv)
                try (rw [hb6]; cbv)
                try (rw [hb6]; cbv)
                obtain ⟨hc1, h_1⟩ := of_gd h_1
                refine AStep.mk hc1 ?_
                cbv
                obtain ⟨x5, hx5, h_1⟩ := of_gt h_1
                try dsimp only at h_1
                refine AGet.mk _ (r_get_I64 hg ht hx5) ?_
                cbv
                try (rw [hb6]; cbv)
                try (rw [hb6]; cbv)
                obtain ⟨hc2, h_1⟩ := of_gd h_1
                refine AStep.mk hc2 ?_
                cbv
                obtain ⟨x6, hx6, h_1⟩ := of_gt h_1
                obtain ⟨x6_Cell, x6_Room, x6_Held⟩ := x6
                try dsimp only at h_1
                refine AGet.mk _ (r_get_Chute hg ht hx6) ?_
                cbv
                try (rw [hb6]; cbv)
                try (rw [hb6]; cbv)
                try (rw [hb6]; cbv)
                try (rw [hb6]; cbv)
                try (rw [hb6]; cbv)
                try (rw [hb6]; cbv)
                try (rw [hb6]; cbv)
                try (rw [hb6]; cbv)
                try (rw [hb6]; cbv)
                try (rw [hb6]; cbv)
                obtain ⟨hc3, h_1⟩ := of_gd h_1
                refine AStep.mk hc3 ?_
                cbv
                refine AGet.mk _ (r_get_I64 hg ht hx5) ?_
                cbv
                try (rw [hb6]; cbv)
                try (rw [hb6]; cbv)
                obtain ⟨hc4, h_1⟩ := of_gd h_1
                refine AStep.mk hc4 ?_
                cbv
                refine AGet.mk _ (r_get_Chute hg ht hx6) ?_
                cbv
                try (rw [hb6]; cbv)
                try (rw [hb6]; cbv)
                try (rw [hb6]; cbv)
                try (rw [hb6]; cbv)
                cases hb7 : (lt (llen (r_Item x6_Held)) x6_Room) with
                | true =>
                  rw [br_true hb7] at h_1
                  cbv
                  obtain rfl := Option.some.inj h_1
                  try dsimp only [lr, lrL, lrp, lrpL] at h
                  obtain rfl := Option.some.inj h
                  exact ARet.mk trivial hX.symm
                | false =>
                  rw [br_false hb7] at h_1
                  cbv
                  try rw [hg] at h_1
                  try rw [ht] at h_1
                  refine ⟨⟨(k1 + 1, (wrap .i64 (add v1 1))), hc1_, hs1, h_1⟩, Wk.of [(0, some 0)] rfl rfl ?_ ?_, meas_L hc1_⟩
                  · cbv
                    all_goals exact ⟨⟨_, rfl, rfl⟩, ⟨_, rfl, rfl⟩, trivial⟩
                  · cbv
                    all_goals exact ⟨⟨_, rfl, _, rfl, rfl, rfl, rfl, rfl, rfl, trivial⟩, trivial⟩
            · have hb5 : lt v1 (llen (r_Item a0_Belt)) = false := ltL_false_Item hg ht hi1 hc1_
              rw [List.drop_of_length_le (Nat.le_of_not_lt hc1_)] at h_1
              rw [S_IsStuck_l1] at h_1
              try rw [← hg] at h_1
              try rw [← ht] at h_1
              try dsimp only at h_1
              rw [hb5]
              cbv
              refine ⟨(), Wk.of [] rfl rfl ?_ ?_, (Option.some.inj h_1).symm⟩
              · cbv
                all_goals exact trivial
              · cbv
                all_goals exact trivial
          · rintro _ hy1
            replace hy1 := hy1.symm
            subst hy1
            try dsimp only [lr, lrL, lrp, lrpL] at h
            cbv
            obtain rfl := Option.some.inj h
            exact ARet.mk trivial hX.symm
      | false =>
        rw [br_false hb3] at h
        cbv
        try (rw [hb3]; cbv)
        try (rw [hb3]; cbv)
        try (rw [hb3]; cbv)
        try (rw [hb3]; cbv)
        try (rw [hb3]; cbv)
        try (rw [hb2]; cbv)
        try (rw [hb3]; cbv)
        try (rw [hb2]; cbv)
        obtain ⟨o2, ho2, h⟩ := of_cl h
        try dsimp only at h
        try rw [hg] at ho2
        try rw [ht] at ho2
        refine ABL.mk { p : Nat × Int // p.1 ≤ a0_Belt.length ∧ p.2 = ((p.1 : Nat) : Int) ∧ S_IsStuck_l2 G.real TE.real (Centre.mk a0_Belt a0_Chutes a0_Inlets a0_Plan a0_Now) (List.drop p.1 a0_Belt) = some o2 } (fun ⟨⟨k2, v2⟩, _⟩ => ({ sl := [(1, .c (.p 0 5 0 0)), (3, .c (.r (.v (.int .i64 v2))))], tab := [(0, some (.foc 5 [] [.r (.s 2 (r_Item a0_Belt)), .r (.s 3 (r_Chute a0_Chutes)), .r (.s 2 (r_Inlet a0_Inlets)), .r (.s 1 (r_I64 a0_Plan)), .r (.v (.int .i64 a0_Now))] []))] } : St)) 1 (fun p => a0_Belt.length - p.1.1) ⟨(0, 0), Nat.zero_le _, rfl, ho2⟩ (Unit) (fun _ => ({ sl := [], tab := [] } : St)) 0 (fun y => o2 = LR.out y) ?_ ?_ ?_
        · refine Wk.of [(0, some 0)] rfl rfl ?_ ?_
          · cbv
            all_goals exact ⟨⟨_, rfl, rfl⟩, ⟨_, rfl, rfl⟩, trivial⟩
          · cbv
            all_goals exact ⟨⟨_, rfl, _, rfl, rfl, rfl, rfl, rfl, rfl, trivial⟩, trivial⟩
        · rintro ⟨⟨k2, v2⟩, hk2, hi2, h_2⟩ hq2
          have hm2 := (hq2.2.2.1 0 _ _ _ _ 0 _ _ rfl rfl)
          try dsimp only at hk2 hi2 h_2
          clear hq2
          cbv
          by_cases hc2_ : k2 < a0_Belt.length
          · have hb8 : lt v2 (llen (r_Item a0_Belt)) = true := ltL_true_Item hg ht hi2 hc2_
            have hs2 := stepL_Item hg ht hi2 hc2_ hm2
            obtain ⟨z2, hz2⟩ := some_of_lt hc2_
            rw [drop_of_some hz2] at h_2
            rw [S_IsStuck_l2] at h_2
            obtain ⟨z2_Id, z2_Dest⟩ := z2
            try rw [← hg] at h_2
            try rw [← ht] at h_2
            try dsimp only at h_2
            rw [hb8]
            cbv
            refine AStep.mk (nn_L hi2) ?_
            cbv
            refine AGet.mk _ (r_getL_Item hg ht hi2 hz2) ?_
            cbv
            cases hb9 : (eq z2_Id 0) with
            | true =>
              rw [br_true hb9] at h_2
              cbv
              try (rw [hb9]; cbv)
              try (rw [hb9]; cbv)
              try (rw [hb9]; cbv)
              try (rw [hb9]; cbv)
              try (rw [hb9]; cbv)
              try (rw [hb9]; cbv)
              try (rw [hb9]; cbv)
              try (rw [hb9]; cbv)
              try (rw [hb9]; cbv)
              try (rw [hb9]; cbv)
              try (rw [hb9]; cbv)
              try (rw [hb9]; cbv)
              try (rw [hb9]; cbv)
              try (rw [hb9]; cbv)
              try (rw [hb9]; cbv)
              try (rw [hb9]; cbv)
              try (rw [hb9]; cbv)
              try (rw [hb9]; cbv)
              try (rw [hb9]; cbv)
              try (rw [hb9]; cbv)
              try (rw [hb9]; cbv)
              try (rw [hb9]; cbv)
              try (rw [hb9]; cbv)
              try (rw [hb9]; cbv)
              try rw [hg] at h_2
              try rw [ht] at h_2
              refine ⟨⟨(k2 + 1, (wrap .i64 (add v2 1))), hc2_, hs2, h_2⟩, Wk.of [(0, some 0)] rfl rfl ?_ ?_, meas_L hc2_⟩
              · cbv
                all_goals exact ⟨⟨_, rfl, rfl⟩, ⟨_, rfl, rfl⟩, trivial⟩
              · cbv
                all_goals exact ⟨⟨_, rfl, _, rfl, rfl, rfl, rfl, rfl, rfl, trivial⟩, trivial⟩
            | false =>
              rw [br_false hb9] at h_2
              cbv
              try (rw [hb9]; cbv)
              try (rw [hb9]; cbv)
              try (rw [hb9]; cbv)
              try (rw [hb9]; cbv)
              try (rw [hb9]; cbv)
              try (rw [hb9]; cbv)
              obtain ⟨hc5, h_2⟩ := of_gd h_2
              refine AStep.mk hc5 ?_
              cbv
              obtain ⟨x7, hx7, h_2⟩ := of_gt h_2
              try dsimp only at h_2
              refine AGet.mk _ (r_get_I64 hg ht hx7) ?_
              cbv
              try (rw [hb9]; cbv)
              try (rw [hb9]; cbv)
              obtain ⟨hc6, h_2⟩ := of_gd h_2
              refine AStep.mk hc6 ?_
              cbv
              obtain ⟨x8, hx8, h_2⟩ := of_gt h_2
              obtain ⟨x8_Cell, x8_Room, x8_Held⟩ := x8
              try dsimp only at h_2
              refine AGet.mk _ (r_get_Chute hg ht hx8) ?_
              cbv
              try (rw [hb9]; cbv)
              try (rw [hb9]; cbv)
              try (rw [hb9]; cbv)
              try (rw [hb9]; cbv)
              try (rw [hb9]; cbv)
              try (rw [hb9]; cbv)
              try (rw [hb9]; cbv)
              try (rw [hb9]; cbv)
              try (rw [hb9]; cbv)
              try (rw [hb9]; cbv)
              obtain ⟨hc7, h_2⟩ := of_gd h_2
              refine AStep.mk hc7 ?_
              cbv
              refine AGet.mk _ (r_get_I64 hg ht hx7) ?_
              cbv
              try (rw [hb9]; cbv)
              try (rw [hb9]; cbv)
              obtain ⟨hc8, h_2⟩ := of_gd h_2
              refine AStep.mk hc8 ?_
              cbv
              refine AGet.mk _ (r_get_Chute hg ht hx8) ?_
              cbv
              try (rw [hb9]; cbv)
              try (rw [hb9]; cbv)
              try (rw [hb9]; cbv)
              try (rw [hb9]; cbv)
              cases hb10 : (lt (llen (r_Item x8_Held)) x8_Room) with
              | true =>
                rw [br_true hb10] at h_2
                cbv
                obtain rfl := Option.some.inj h_2
                try dsimp only [lr, lrL, lrp, lrpL] at h
                obtain rfl := Option.some.inj h
                exact ARet.mk trivial hX.symm
              | false =>
                rw [br_false hb10] at h_2
                cbv
                try rw [hg] at h_2
                try rw [ht] at h_2
                refine ⟨⟨(k2 + 1, (wrap .i64 (add v2 1))), hc2_, hs2, h_2⟩, Wk.of [(0, some 0)] rfl rfl ?_ ?_, meas_L hc2_⟩
                · cbv
                  all_goals exact ⟨⟨_, rfl, rfl⟩, ⟨_, rfl, rfl⟩, trivial⟩
                · cbv
                  all_goals exact ⟨⟨_, rfl, _, rfl, rfl, rfl, rfl, rfl, rfl, trivial⟩, trivial⟩
          · have hb8 : lt v2 (llen (r_Item a0_Belt)) = false := ltL_false_Item hg ht hi2 hc2_
            rw [List.drop_of_length_le (Nat.le_of_not_lt hc2_)] at h_2
            rw [S_IsStuck_l2] at h_2
            try rw [← hg] at h_2
            try rw [← ht] at h_2
            try dsimp only at h_2
            rw [hb8]
            cbv
            refine ⟨(), Wk.of [] rfl rfl ?_ ?_, (Option.some.inj h_2).symm⟩
            · cbv
              all_goals exact trivial
            · cbv
              all_goals exact trivial
        · rintro _ hy2
          replace hy2 := hy2.symm
          subst hy2
          try dsimp only [lr, lrL, lrp, lrpL] at h
          cbv
          obtain rfl := Option.some.inj h
          exact ARet.mk trivial hX.symm
  | false =>
    rw [br_false hb1] at h
    cbv
    try (rw [hb1]; cbv)
    try (rw [hb1]; cbv)
    obtain rfl := Option.some.inj h
    exact ARet.mk trivial hX.symm
end Go.Vs
namespace Go.Vs
set_option maxRecDepth 100000
def ir15 : J :=
  .seq (.reg none [⟨(some 1), none, .box (.t 0)⟩,
     ⟨(some 2), none, .mv (.k (V.b false))⟩] [1])
  (.seq (.reg none [⟨(some 3), none, .mv (.k (V.i 1048576))⟩] [1, 3])
  (.seq (.reg none [⟨(some 7), none, .ld true 5 (.t 1)⟩,
     ⟨(some 8), none, .mv (.t 3)⟩,
     ⟨(some 9), none, .call 24 true [(.t 7), (.t 8)]⟩,
     ⟨(some 3), none, .mv (.t 9)⟩] [1, 3])
  (.seq (.seq (.reg none [⟨(some 10), none, .mv (.t 3)⟩,
      ⟨(some 11), none, .bin .lss .i (.t 10) (.k (V.i 0))⟩] [1, 11])
   (.cond (.t 11)
    (.seq (.reg none [⟨(some 2), none, .mv (.k (V.b true))⟩] [2])
     (.ret))
    (.skip)))
  (.seq (.reg none [⟨(some 12), none, .ld true 5 (.t 1)⟩,
     ⟨(some 13), none, .call 26 true [(.t 12)]⟩,
     ⟨(some 14), none, .call 60 true [(.t 13)]⟩,
     ⟨(some 4), none, .mv (.t 14)⟩] [1, 4])
  (.seq (.reg none [⟨(some 15), none, .ld true 5 (.t 1)⟩,
     ⟨(some 16), none, .call 26 true [(.t 15)]⟩,
     ⟨(some 5), none, .alloc [.n 2, .n 3, .n 2, .n 1, .r (.v (.int .i64 0))]⟩,
     ⟨none, none, .st 5 (.t 5) (.t 16)⟩] [1, 4, 5])
  (.seq (.reg none [⟨(some 17), none, .ld true 5 (.t 5)⟩,
     ⟨(some 18), none, .call 55 true [(.t 17)]⟩,
     ⟨(some 6), none, .mv (.t 18)⟩] [1, 4, 5, 6])
  (.seq (.seq (.reg none [⟨(some 19), none, .mv (.t 6)⟩,
      ⟨(some 20), none, .mv (.t 4)⟩,
      ⟨(some 21), none, .bin .neq .b (.t 19) (.t 20)⟩] [1, 5, 21])
   (.cond (.t 21)
    (.seq (.reg none [⟨(some 2), none, .mv (.k (V.b false))⟩] [2])
     (.ret))
    (.skip)))
  (.seq (.seq (.reg (some [[], [], [1], [0, 1, 2], [0, 1, 2, 3]]) [⟨(some 22), none, .ld true 5 (.t 5)⟩,
      ⟨(some 23), none, .ld true 5 (.t 1)⟩,
      ⟨(some 24), none, .call 26 true [(.t 23)]⟩,
      ⟨(some 25), none, .call 28 true [(.t 22), (.t 24)]⟩,
      ⟨(some 26), none, .not (.t 25)⟩] [26])
   (.cond (.t 26)
    (.seq (.reg none [⟨(some 2), none, .mv (.k (V.b false))⟩] [2])
     (.ret))
    (.skip)))
  (.seq (.reg none [⟨(some 2), none, .mv (.k (V.b true))⟩] [2])
  (.ret))))))))))
def rv15 : List RV := [.t 2]
open Go.Proofs Go.IntWalk
set_option linter.unusedVariables false
set_option maxRecDepth 100000
set_option maxHeartbeats 4000000
def L_FnExactIsStuck (g : G) (t : TE) (a0 : Centre) : Option Bool :=
  lP (L_szCentre g t a0 1048576) fun x1 =>
  br (g.lt x1 0)
  (
   some true)
  (
   cl (L_toCentre g t a0) fun x2 =>
   cl (S_IsStuck g t x2) fun x3 =>
   cl (L_toCentre g t a0) fun x4 =>
   cl (I_IsStuck g t x4) fun x5 =>
   br x5
   (
    br x3
    (
     cl (L_toCentre g t a0) fun x6 =>
     cl (L_eqCentre g t x4 x6) fun x7 =>
     br x7
     (
      some true)
     (
      some false))
    (
     some false))
   (
    br x3
    (
     some false)
    (
     cl (L_toCentre g t a0) fun x8 =>
     cl (L_eqCentre g t x4 x8) fun x9 =>
     br x9
     (
      some true)
     (
      some false))))
theorem fit15 : codeFit Try.prog Try.f15.ntmps (Try.f15.body.getD .skip) ir15 = true := by kernel_rfl
theorem c_L_FnExactIsStuck {g : G} {t : TE} {a0 : Centre} {r : Bool} (hg : g = G.real) (ht : t = TE.real) (h : L_FnExactIsStuck g t a0 = some r) : Fn Try.prog 15 [.g (Centre.rs t a0)] (.c (.r (.v (.bool r)))) := by
  obtain ⟨X, hX⟩ := hide (.c (.r (.v (.bool r))) : X)
  rw [← hX]
  refine fn_of (rvs := rv15) (j := ir15) Try.func15 rfl fit15 (Nat.le_of_ble_eq_true rfl) (by kernel_rfl) prog_mixed ?_
  intro g2 F hg2 hF
  obtain rfl : g2 = g := hg2.unique.trans hg.symm
  clear hg2
  obtain ⟨wrap, lt, le, eq, quo, rem, band, bor, bxor, shl, shr, nat, int, add, sub, mul, cat, seq, slt, sub3, byte, llen, nadd, nsub, dlen, dapp, dset, drep, rd, rda, up, rsub, dsub, all, sle, slen, hasI, putI, hasS, putS, imin, imax, fzc⟩ := g2
  obtain ⟨r_Item, d_Item, r_Chute, d_Chute, r_Inlet, d_Inlet, r_I64, d_I64, r_U8, d_U8⟩ := t
  obtain ⟨a0_Belt, a0_Chutes, a0_Inlets, a0_Plan, a0_Now⟩ := a0
  unfold L_FnExactIsStuck at h
  try dsimp only at h
  cbv
  obtain ⟨x1, hx1, h⟩ := of_lP h
  try dsimp only at h
  refine ACall.mk _ _ rfl (hF _ _ _ (c_L_szCentre hg ht hx1)) (.inl rfl) (Nat.le_of_ble_eq_true rfl) ?_
  cbv
  cases hb1 : (lt x1 0) with
  | true =>
    rw [br_true hb1] at h
    cbv
    obtain rfl := Option.some.inj h
    exact ARet.mk trivial hX.symm
  | false =>
    rw [br_false hb1] at h
    cbv
    obtain ⟨x2, hx2, h⟩ := of_cl h
    obtain ⟨x2_Belt, x2_Chutes, x2_Inlets, x2_Plan, x2_Now⟩ := x2
    try dsimp only at h
    refine ACall.mk _ _ rfl (hF _ _ _ (c_L_toCentre hg ht hx2)) (.inl rfl) (Nat.le_of_ble_eq_true rfl) ?_
    cbv
    refine AStep.mk ⟨(lend_Item ht (dlen_Item hg ht _)), ⟨(lend_Chute ht (dlen_Chute hg ht _)), ⟨(lend_Inlet ht (dlen_Inlet hg ht _)), (lend_I64 ht (dlen_I64 hg ht _))⟩⟩⟩ ?_
    cbv
    obtain ⟨x3, hx3, h⟩ := of_cl h
    try dsimp only at h
    refine ACall.mk _ _ (by rw [show rd (d_Item x2_Belt) 0 (dlen (d_Item x2_Belt)) = r_Item x2_Belt from rdw_Item hg ht (dlen_Item hg ht _), show rd (d_Chute x2_Chutes) 0 (dlen (d_Chute x2_Chutes)) = r_Chute x2_Chutes from rdw_Chute hg ht (dlen_Chute hg ht _), show rd (d_Inlet x2_Inlets) 0 (dlen (d_Inlet x2_Inlets)) = r_Inlet x2_Inlets from rdw_Inlet hg ht (dlen_Inlet hg ht _), show rd (d_I64 x2_Plan) 0 (dlen (d_I64 x2_Plan)) = r_I64 x2_Plan from rdw_I64 hg ht (dlen_I64 hg ht _)]; try rfl) (hF _ _ _ (c_S_IsStuck hg ht hx3)) (.inr rfl) (Nat.le_of_ble_eq_true rfl) ?_
    cbv
    obtain ⟨x4, hx4, h⟩ := of_cl h
    obtain ⟨x4_Belt, x4_Chutes, x4_Inlets, x4_Plan, x4_Now⟩ := x4
    try dsimp only at h
    refine ACall.mk _ _ rfl (hF _ _ _ (c_L_toCentre hg ht hx4)) (.inl rfl) (Nat.le_of_ble_eq_true rfl) ?_
    cbv
    refine AStep.mk ⟨(lend_Item ht (dlen_Item hg ht _)), ⟨(lend_Chute ht (dlen_Chute hg ht _)), ⟨(lend_Inlet ht (dlen_Inlet hg ht _)), (lend_I64 ht (dlen_I64 hg ht _))⟩⟩⟩ ?_
    cbv
    obtain ⟨x5, hx5, h⟩ := of_cl h
    try dsimp only at h
    refine ACall.mk _ _ (by rw [show rd (d_Item x4_Belt) 0 (dlen (d_Item x4_Belt)) = r_Item x4_Belt from rdw_Item hg ht (dlen_Item hg ht _), show rd (d_Chute x4_Chutes) 0 (dlen (d_Chute x4_Chutes)) = r_Chute x4_Chutes from rdw_Chute hg ht (dlen_Chute hg ht _), show rd (d_Inlet x4_Inlets) 0 (dlen (d_Inlet x4_Inlets)) = r_Inlet x4_Inlets from rdw_Inlet hg ht (dlen_Inlet hg ht _), show rd (d_I64 x4_Plan) 0 (dlen (d_I64 x4_Plan)) = r_I64 x4_Plan from rdw_I64 hg ht (dlen_I64 hg ht _)]; try rfl) (hF _ _ _ (c_I_IsStuck hg ht hx5)) (.inr rfl) (Nat.le_of_ble_eq_true rfl) ?_
    cbv
    cases hb2 : x5 with
    | true =>
      rw [br_true hb2] at h
      cbv
      cases hb3 : x3 with
      | true =>
        rw [br_true hb3] at h
        cbv
        obtain ⟨x6, hx6, h⟩ := of_cl h
        obtain ⟨x6_Belt, x6_Chutes, x6_Inlets, x6_Plan, x6_Now⟩ := x6
        try dsimp only at h
        refine ACall.mk _ _ rfl (hF _ _ _ (c_L_toCentre hg ht hx6)) (.inl rfl) (Nat.le_of_ble_eq_true rfl) ?_
        cbv
        refine AStep.mk ⟨⟨(lend_Item ht (dlen_Item hg ht _)), ⟨(lend_Chute ht (dlen_Chute hg ht _)), ⟨(lend_Inlet ht (dlen_Inlet hg ht _)), (lend_I64 ht (dlen_I64 hg ht _))⟩⟩⟩, ⟨(lend_Item ht (dlen_Item hg ht _)), ⟨(lend_Chute ht (dlen_Chute hg ht _)), ⟨(lend_Inlet ht (dlen_Inlet hg ht _)), (lend_I64 ht (dlen_I64 hg ht _))⟩⟩⟩⟩ ?_
        cbv
        obtain ⟨x7, hx7, h⟩ := of_cl h
        try dsimp only at h
        refine ACall.mk _ _ (by rw [show rd (d_Item x4_Belt) 0 (dlen (d_Item x4_Belt)) = r_Item x4_Belt from rdw_Item hg ht (dlen_Item hg ht _), show rd (d_Chute x4_Chutes) 0 (dlen (d_Chute x4_Chutes)) = r_Chute x4_Chutes from rdw_Chute hg ht (dlen_Chute hg ht _), show rd (d_Inlet x4_Inlets) 0 (dlen (d_Inlet x4_Inlets)) = r_Inlet x4_Inlets from rdw_Inlet hg ht (dlen_Inlet hg ht _), show rd (d_I64 x4_Plan) 0 (dlen (d_I64 x4_Plan)) = r_I64 x4_Plan from rdw_I64 hg ht (dlen_I64 hg ht _), show rd (d_Item x6_Belt) 0 (dlen (d_Item x6_Belt)) = r_Item x6_Belt from rdw_Item hg ht (dlen_Item hg ht _), show rd (d_Chute x6_Chutes) 0 (dlen (d_Chute x6_Chutes)) = r_Chute x6_Chutes from rdw_Chute hg ht (dlen_Chute hg ht _), show rd (d_Inlet x6_Inlets) 0 (dlen (d_Inlet x6_Inlets)) = r_Inlet x6_Inlets from rdw_Inlet hg ht (dlen_Inlet hg ht _), show rd (d_I64 x6_Plan) 0 (dlen (d_I64 x6_Plan)) = r_I64 x6_Plan from rdw_I64 hg ht (dlen_I64 hg ht _)]; try rfl) (hF _ _ _ (c_L_eqCentre hg ht hx7)) (.inr rfl) (Nat.le_of_ble_eq_true rfl) ?_
        cbv
        cases hb4 : x7 with
        | true =>
          rw [br_true hb4] at h
          cbv
          obtain rfl := Option.some.inj h
          exact ARet.mk trivial hX.symm
        | false =>
          rw [br_false hb4] at h
          cbv
          obtain rfl := Option.some.inj h
          exact ARet.mk trivial hX.symm
      | false =>
        rw [br_false hb3] at h
        cbv
        obtain rfl := Option.some.inj h
        exact ARet.mk trivial hX.symm
    | false =>
      rw [br_false hb2] at h
      cbv
      cases hb5 : x3 with
      | true =>
        rw [br_true hb5] at h
        cbv
        obtain rfl := Option.some.inj h
        exact ARet.mk trivial hX.symm
      | false =>
        rw [br_false hb5] at h
        cbv
        obtain ⟨x8, hx8, h⟩ := of_cl h
        obtain ⟨x8_Belt, x8_Chutes, x8_Inlets, x8_Plan, x8_Now⟩ := x8
        try dsimp only at h
        refine ACall.mk _ _ rfl (hF _ _ _ (c_L_toCentre hg ht hx8)) (.inl rfl) (Nat.le_of_ble_eq_true rfl) ?_
        cbv
        refine AStep.mk ⟨⟨(lend_Item ht (dlen_Item hg ht _)), ⟨(lend_Chute ht (dlen_Chute hg ht _)), ⟨(lend_Inlet ht (dlen_Inlet hg ht _)), (lend_I64 ht (dlen_I64 hg ht _))⟩⟩⟩, ⟨(lend_Item ht (dlen_Item hg ht _)), ⟨(lend_Chute ht (dlen_Chute hg ht _)), ⟨(lend_Inlet ht (dlen_Inlet hg ht _)), (lend_I64 ht (dlen_I64 hg ht _))⟩⟩⟩⟩ ?_
        cbv
        obtain ⟨x9, hx9, h⟩ := of_cl h
        try dsimp only at h
        refine ACall.mk _ _ (by rw [show rd (d_Item x4_Belt) 0 (dlen (d_Item x4_Belt)) = r_Item x4_Belt from rdw_Item hg ht (dlen_Item hg ht _), show rd (d_Chute x4_Chutes) 0 (dlen (d_Chute x4_Chutes)) = r_Chute x4_Chutes from rdw_Chute hg ht (dlen_Chute hg ht _), show rd (d_Inlet x4_Inlets) 0 (dlen (d_Inlet x4_Inlets)) = r_Inlet x4_Inlets from rdw_Inlet hg ht (dlen_Inlet hg ht _), show rd (d_I64 x4_Plan) 0 (dlen (d_I64 x4_Plan)) = r_I64 x4_Plan from rdw_I64 hg ht (dlen_I64 hg ht _), show rd (d_Item x8_Belt) 0 (dlen (d_Item x8_Belt)) = r_Item x8_Belt from rdw_Item hg ht (dlen_Item hg ht _), show rd (d_Chute x8_Chutes) 0 (dlen (d_Chute x8_Chutes)) = r_Chute x8_Chutes from rdw_Chute hg ht (dlen_Chute hg ht _), show rd (d_Inlet x8_Inlets) 0 (dlen (d_Inlet x8_Inlets)) = r_Inlet x8_Inlets from rdw_Inlet hg ht (dlen_Inlet hg ht _), show rd (d_I64 x8_Plan) 0 (dlen (d_I64 x8_Plan)) = r_I64 x8_Plan from rdw_I64 hg ht (dlen_I64 hg ht _)]; try rfl) (hF _ _ _ (c_L_eqCentre hg ht hx9)) (.inr rfl) (Nat.le_of_ble_eq_true rfl) ?_
        cbv
        cases hb6 : x9 with
        | true =>
          rw [br_true hb6] at h
          cbv
          obtain rfl := Option.some.inj h
          exact ARet.mk trivial hX.symm
        | false =>
          rw [br_false hb6] at h
          cbv
          obtain rfl := Option.some.inj h
          exact ARet.mk trivial hX.symm
end Go.Vs
