/- Part of the proofs of this seat's laws: Lae. No condition. -/
import Derived.Test.YtieeagobedjogaaTy
import Derived.Test.YtieeagobedjogaaTIRall
import Derived.Test.YtieeagobedjogaaLab
import Derived.Test.YtieeagobedjogaaLac
import Derived.Test.YtieeagobedjogaaLaa
set_option linter.unusedVariables false
set_option linter.unusedSimpArgs false
set_option linter.unusedSectionVars false
namespace Go.Vs
set_option maxRecDepth 100000
def ir54 : J :=
  .seq (.reg none [⟨(some 2), none, .box (.t 0)⟩,
     ⟨(some 4), none, .mv (.k (V.i 0))⟩] [1, 2])
  (.seq (.seq (.reg none [⟨(some 7), none, .ld true 5 (.t 2)⟩,
      ⟨(some 8), none, .call 32 true [(.t 7)]⟩,
      ⟨(some 9), none, .not (.t 8)⟩,
      ⟨(some 10), none, .mv (.t 9)⟩,
      ⟨(some 11), (some (10, false)), .mv (.t 1)⟩,
      ⟨(some 12), (some (10, false)), .call 89 true [(.t 11), (.k (V.i 0)), (.k (V.i 1000))]⟩,
      ⟨(some 13), (some (10, false)), .not (.t 12)⟩,
      ⟨(some 14), none, .pick (.t 10) (.k (V.b true)) (.t 13)⟩] [1, 2, 14])
   (.cond (.t 14)
    (.seq (.reg none [⟨(some 4), none, .mv (.k (V.i (-1)))⟩] [4])
     (.ret))
    (.skip)))
  (.seq (.reg none [⟨(some 15), none, .ld true 5 (.t 2)⟩,
     ⟨(some 16), none, .call 94 true [(.t 15)]⟩,
     ⟨(some 5), none, .alloc [.n 2, .n 3, .n 2, .n 1, .r (.v (.int .i64 0))]⟩,
     ⟨none, none, .st 5 (.t 5) (.t 16)⟩] [1, 5])
  (.seq (.seq (.reg none [⟨(some 6), none, .mv (.k (V.i 0))⟩] [1, 5, 6])
   (.bl 0 (.seq (.seq (.reg none [⟨(some 17), none, .mv (.t 6)⟩,
        ⟨(some 18), none, .mv (.t 1)⟩,
        ⟨(some 19), none, .bin .leq .i (.t 17) (.t 18)⟩] [1, 5, 6, 19])
     (.cond (.t 19)
      (.skip)
      (.exit 0)))
    (.seq (.block 1 (.seq (.seq (.reg none [⟨(some 22), none, .ld true 5 (.t 5)⟩,
          ⟨(some 23), none, .call 30 true [(.t 22)]⟩,
          ⟨(some 24), none, .bin .eql .i (.t 23) (.k (V.i 0))⟩,
          ⟨(some 25), none, .mv (.t 24)⟩,
          ⟨(some 26), (some (25, true)), .ld true 5 (.t 5)⟩,
          ⟨(some 27), (some (25, true)), .call 27 true [(.t 26)]⟩,
          ⟨(some 28), (some (25, true)), .bin .eql .i (.t 27) (.k (V.i 0))⟩,
          ⟨(some 29), none, .pick (.t 25) (.t 28) (.k (V.b false))⟩] [1, 5, 6, 29])
       (.cond (.t 29)
        (.seq (.reg none [⟨(some 30), none, .mv (.t 6)⟩,
            ⟨(some 4), none, .mv (.t 30)⟩] [4])
         (.ret))
        (.skip)))
      (.reg none [⟨(some 31), none, .callm 95 (.t 5) []⟩] [1, 5, 6])))
    (.reg none [⟨(some 20), none, .mv (.t 6)⟩,
      ⟨(some 21), none, .bin .add .i (.t 20) (.k (V.i 1))⟩,
      ⟨(some 6), none, .mv (.t 21)⟩] [1, 5, 6])))))
  (.seq (.reg none [⟨(some 4), none, .mv (.k (V.i (-1)))⟩] [4])
  (.ret)))))
def rv54 : List RV := [.t 4]
open Go.Proofs Go.IntWalk
set_option linter.unusedVariables false
set_option maxRecDepth 100000
set_option maxHeartbeats 4000000
def I_TicksToDrain_l1 (g : G) (t : TE) : Nat → Int → List Item → List Chute → List Inlet → List Int → Int → Option (LR Int Unit)
  | 0, v2, w1, w2, w3, w4, v1 =>
    some (LR.out ())
  | n1 + 1, v2, w1, w2, w3, w4, v1 =>
    lP (I_CountBelt g t (Centre.mk w1 w2 w3 w4 v1)) fun x4 =>
    br (g.eq x4 0)
    (
     lP (I_CountWait g t (Centre.mk w1 w2 w3 w4 v1)) fun x5 =>
     br (g.eq x5 0)
     (
      some (LR.ret v2))
     (
      cl (I_tick g t (Centre.mk w1 w2 w3 w4 v1)) fun x6 =>
      I_TicksToDrain_l1 g t n1 (g.wrap .i64 (g.add v2 1)) x6.Belt x6.Chutes x6.Inlets x6.Plan x6.Now))
    (
     cl (I_tick g t (Centre.mk w1 w2 w3 w4 v1)) fun x7 =>
     I_TicksToDrain_l1 g t n1 (g.wrap .i64 (g.add v2 1)) x7.Belt x7.Chutes x7.Inlets x7.Plan x7.Now)
def I_TicksToDrain (g : G) (t : TE) (a0 : Centre) (a1 : Int) : Option Int :=
  cl (I_IsCentre g t a0) fun x1 =>
  br x1
  (
   lP (I_within g t a1 0 1000) fun x2 =>
   br x2
   (
    cl (I_copyCentre g t a0) fun x3 =>
    gd ((a1 ≤ 4611686018427387904)) <|
    cl (I_TicksToDrain_l1 g t (cntLe 0 a1) 0 x3.Belt x3.Chutes x3.Inlets x3.Plan x3.Now) fun o1 => lr o1 fun y1 =>
    some (-1))
   (
    some (-1)))
  (
   some (-1))
theorem fit54 : codeFit Try.prog Try.f54.ntmps (Try.f54.body.getD .skip) ir54 = true := by kernel_rfl
theorem c_I_TicksToDrain {g : G} {t : TE} {a0 : Centre} {a1 : Int} {r : Int} (hg : g = G.real) (ht : t = TE.real) (h : I_TicksToDrain g t a0 a1 = some r) : Fn Try.prog 54 [.g (Centre.rs t a0), .c (.v (.int .i64 a1))] (.c (.r (.v (.int .i64 r)))) := by
  obtain ⟨X, hX⟩ := hide (.c (.r (.v (.int .i64 r))) : X)
  rw [← hX]
  refine fn_of (rvs := rv54) (j := ir54) Try.func54 rfl fit54 (Nat.le_of_ble_eq_true rfl) (by kernel_rfl) prog_mixed ?_
  intro g2 F hg2 hF
  obtain rfl : g2 = g := hg2.unique.trans hg.symm
  clear hg2
  obtain ⟨wrap, lt, le, eq, quo, rem, band, bor, bxor, shl, shr, nat, int, add, sub, mul, cat, seq, slt, sub3, byte, llen, nadd, nsub, dlen, dapp, dset, drep, rd, rda, up, rsub, dsub, all, sle, slen, hasI, putI, hasS, putS, imin, imax, fzc⟩ := g2
  obtain ⟨r_Item, d_Item, r_Chute, d_Chute, r_Inlet, d_Inlet, r_I64, d_I64, r_U8, d_U8, d_InletF⟩ := t
  obtain ⟨a0_Belt, a0_Chutes, a0_Inlets, a0_Plan, a0_Now⟩ := a0
  unfold I_TicksToDrain at h
  try dsimp only at h
  cbv
  obtain ⟨x1, hx1, h⟩ := of_cl h
  try dsimp only at h
  refine ACall.mk _ _ rfl (hF _ _ _ (c_I_IsCentre hg ht hx1)) (.inl rfl) (Nat.le_of_ble_eq_true rfl) ?_
  cbv
  cases hb1 : x1 with
  | true =>
    rw [br_true hb1] at h
    cbv
    try (rw [hb1]; cbv)
    obtain ⟨x2, hx2, h⟩ := of_lP h
    try dsimp only at h
    refine ACall.mk _ _ rfl (hF _ _ _ (c_I_within hg ht hx2)) (.inl rfl) (Nat.le_of_ble_eq_true rfl) ?_
    cbv
    try (rw [hb1]; cbv)
    try (rw [hb1]; cbv)
    cases hb2 : x2 with
    | true =>
      rw [br_true hb2] at h
      cbv
      obtain ⟨x3, hx3, h⟩ := of_cl h
      obtain ⟨x3_Belt, x3_Chutes, x3_Inlets, x3_Plan, x3_Now⟩ := x3
      try dsimp only at h
      refine ACall.mk _ _ rfl (hF _ _ _ (c_I_copyCentre hg ht hx3)) (.inl rfl) (Nat.le_of_ble_eq_true rfl) ?_
      cbv
      obtain ⟨hB1, h⟩ := of_gd h
      obtain ⟨o1, ho1, h⟩ := of_cl h
      try dsimp only at h
      try rw [hg] at ho1
      try rw [ht] at ho1
      refine ABL.mk { p : Nat × Int × (List Item) × (List Chute) × (List Inlet) × (List Int) × Int // p.1 = cntLe p.2.1 a1 ∧ 0 ≤ p.2.1 ∧ I_TicksToDrain_l1 G.real TE.real p.1 p.2.1 p.2.2.1 p.2.2.2.1 p.2.2.2.2.1 p.2.2.2.2.2.1 p.2.2.2.2.2.2 = some o1 } (fun ⟨⟨n1, v2, w1, w2, w3, w4, v1⟩, _⟩ => ({ sl := [(1, .c (.r (.v (.int .i64 a1)))), (5, .c (.p 0 5 0 0)), (6, .c (.r (.v (.int .i64 v2))))], tab := [(0, some (.foc 5 [] [.f 1 2 0 (dlen (d_Item w1)), .f 2 3 0 (dlen (d_Chute w2)), .f 3 2 0 (dlen (d_Inlet w3)), .f 4 1 0 (dlen (d_I64 w4)), .r (.v (.int .i64 v1))] [])), (1, some (.arr 2 (d_Item w1))), (2, some (.arr 3 (d_Chute w2))), (3, some (.arr 2 (d_Inlet w3))), (4, some (.arr 1 (d_I64 w4)))] } : St)) 5 (fun p => p.1.1) ⟨(cntLe 0 a1, 0, x3_Belt, x3_Chutes, x3_Inlets, x3_Plan, x3_Now), rfl, Int.le_refl _, ho1⟩ (Unit) (fun _ => ({ sl := [], tab := [] } : St)) 0 (fun y => o1 = LR.out y) ?_ ?_ ?_
      · refine Wk.of [(0, some 192), (1, some 176), (2, some 177), (3, some 178), (4, some 179)] rfl rfl ?_ ?_
        · cbv
          all_goals exact ⟨⟨_, rfl, rfl⟩, ⟨_, rfl, rfl⟩, ⟨_, rfl, rfl⟩, trivial⟩
        · cbv
          all_goals exact ⟨⟨_, rfl, _, rfl, rfl, rfl, rfl, rfl, rfl, trivial⟩, ⟨_, rfl, rfl⟩, ⟨_, rfl, rfl⟩, ⟨_, rfl, rfl⟩, ⟨_, rfl, rfl⟩, trivial⟩
      · rintro ⟨⟨n1, v2, w1, w2, w3, w4, v1⟩, hn1, hi1, h_1⟩ hq1
        try dsimp only at hn1 hi1 h_1
        clear hq1
        cbv
        rcases n1 with _ | n1
        · have hb3 : le v2 a1 = false := leC_false hg hn1
          rw [I_TicksToDrain_l1] at h_1
          try rw [← hg] at h_1
          try rw [← ht] at h_1
          try dsimp only at h_1
          rw [hb3]
          cbv
          refine ⟨(), Wk.of [] rfl rfl ?_ ?_, (Option.some.inj h_1).symm⟩
          · cbv
            all_goals exact trivial
          · cbv
            all_goals exact trivial
        · have hb3 : le v2 a1 = true := leC_true hg hn1
          have hl1 := leC_le hn1
          have hs1 := stepleC hg hn1 hi1 hB1 (by decide)
          rw [I_TicksToDrain_l1] at h_1
          try rw [← hg] at h_1
          try rw [← ht] at h_1
          try dsimp only at h_1
          rw [hb3]
          cbv
          refine AStep.mk ⟨(lend_Item ht (dlen_Item hg ht _)), ⟨(lend_Chute ht (dlen_Chute hg ht _)), ⟨(lend_Inlet ht (dlen_Inlet hg ht _)), (lend_I64 ht (dlen_I64 hg ht _))⟩⟩⟩ ?_
          cbv
          obtain ⟨x4, hx4, h_1⟩ := of_lP h_1
          try dsimp only at h_1
          refine ACall.mk _ _ (by rw [show rd (d_Item w1) 0 (dlen (d_Item w1)) = r_Item w1 from rdw_Item hg ht (dlen_Item hg ht _), show rd (d_Chute w2) 0 (dlen (d_Chute w2)) = r_Chute w2 from rdw_Chute hg ht (dlen_Chute hg ht _), show rd (d_Inlet w3) 0 (dlen (d_Inlet w3)) = r_Inlet w3 from rdw_Inlet hg ht (dlen_Inlet hg ht _), show rd (d_I64 w4) 0 (dlen (d_I64 w4)) = r_I64 w4 from rdw_I64 hg ht (dlen_I64 hg ht _)]; try rfl) (hF _ _ _ (c_I_CountBelt hg ht hx4)) (.inr rfl) (Nat.le_of_ble_eq_true rfl) ?_
          cbv
          cases hb4 : (eq x4 0) with
          | true =>
            rw [br_true hb4] at h_1
            cbv
            try (rw [hb4]; cbv)
            refine AStep.mk ⟨(lend_Item ht (dlen_Item hg ht _)), ⟨(lend_Chute ht (dlen_Chute hg ht _)), ⟨(lend_Inlet ht (dlen_Inlet hg ht _)), (lend_I64 ht (dlen_I64 hg ht _))⟩⟩⟩ ?_
            cbv
            obtain ⟨x5, hx5, h_1⟩ := of_lP h_1
            try dsimp only at h_1
            refine ACall.mk _ _ (by rw [show rd (d_Item w1) 0 (dlen (d_Item w1)) = r_Item w1 from rdw_Item hg ht (dlen_Item hg ht _), show rd (d_Chute w2) 0 (dlen (d_Chute w2)) = r_Chute w2 from rdw_Chute hg ht (dlen_Chute hg ht _), show rd (d_Inlet w3) 0 (dlen (d_Inlet w3)) = r_Inlet w3 from rdw_Inlet hg ht (dlen_Inlet hg ht _), show rd (d_I64 w4) 0 (dlen (d_I64 w4)) = r_I64 w4 from rdw_I64 hg ht (dlen_I64 hg ht _)]; try rfl) (hF _ _ _ (c_I_CountWait hg ht hx5)) (.inr rfl) (Nat.le_of_ble_eq_true rfl) ?_
            cbv
            try (rw [hb4]; cbv)
            try (rw [hb4]; cbv)
            cases hb5 : (eq x5 0) with
            | true =>
              rw [br_true hb5] at h_1
              cbv
              obtain rfl := Option.some.inj h_1
              try dsimp only [lr, lrL, lrp, lrpL] at h
              obtain rfl := Option.some.inj h
              exact ARet.mk trivial hX.symm
            | false =>
              rw [br_false hb5] at h_1
              cbv
              refine AStep.mk ⟨⟨rfl, (dlen_Item hg ht _)⟩, ⟨⟨rfl, (dlen_Chute hg ht _)⟩, ⟨⟨rfl, (dlen_Inlet hg ht _)⟩, ⟨rfl, (dlen_I64 hg ht _)⟩⟩⟩⟩ ?_
              cbv
              obtain ⟨x6, hx6, h_1⟩ := of_cl h_1
              obtain ⟨x6_Belt, x6_Chutes, x6_Inlets, x6_Plan, x6_Now⟩ := x6
              try dsimp only at h_1
              refine ACallM.mk _ _ _ _ rfl rfl (hF _ _ _ (c_I_tick hg ht hx6)) rfl (Nat.le_of_ble_eq_true rfl) (Nat.le_of_ble_eq_true rfl) ?_
              cbv
              try rw [hg] at h_1
              try rw [ht] at h_1
              refine ⟨⟨(n1, (wrap .i64 (add v2 1)), x6_Belt, x6_Chutes, x6_Inlets, x6_Plan, x6_Now), hs1.1, hs1.2, h_1⟩, Wk.of [(0, some 0), (1, some 189), (2, some 190), (3, some 191), (4, some 192)] rfl rfl ?_ ?_, Nat.lt_succ_self _⟩
              · cbv
                all_goals exact ⟨⟨_, rfl, rfl⟩, ⟨_, rfl, rfl⟩, ⟨_, rfl, rfl⟩, trivial⟩
              · cbv
                all_goals exact ⟨⟨_, rfl, _, rfl, rfl, rfl, rfl, rfl, rfl, trivial⟩, ⟨_, rfl, rfl⟩, ⟨_, rfl, rfl⟩, ⟨_, rfl, rfl⟩, ⟨_, rfl, rfl⟩, trivial⟩
          | false =>
            rw [br_false hb4] at h_1
            cbv
            try (rw [hb4]; cbv)
            try (rw [hb4]; cbv)
            try (rw [hb4]; cbv)
            refine AStep.mk ⟨⟨rfl, (dlen_Item hg ht _)⟩, ⟨⟨rfl, (dlen_Chute hg ht _)⟩, ⟨⟨rfl, (dlen_Inlet hg ht _)⟩, ⟨rfl, (dlen_I64 hg ht _)⟩⟩⟩⟩ ?_
            cbv
            obtain ⟨x7, hx7, h_1⟩ := of_cl h_1
            obtain ⟨x7_Belt, x7_Chutes, x7_Inlets, x7_Plan, x7_Now⟩ := x7
            try dsimp only at h_1
            refine ACallM.mk _ _ _ _ rfl rfl (hF _ _ _ (c_I_tick hg ht hx7)) rfl (Nat.le_of_ble_eq_true rfl) (Nat.le_of_ble_eq_true rfl) ?_
            cbv
            try rw [hg] at h_1
            try rw [ht] at h_1
            refine ⟨⟨(n1, (wrap .i64 (add v2 1)), x7_Belt, x7_Chutes, x7_Inlets, x7_Plan, x7_Now), hs1.1, hs1.2, h_1⟩, Wk.of [(0, some 0), (1, some 189), (2, some 190), (3, some 191), (4, some 192)] rfl rfl ?_ ?_, Nat.lt_succ_self _⟩
            · cbv
              all_goals exact ⟨⟨_, rfl, rfl⟩, ⟨_, rfl, rfl⟩, ⟨_, rfl, rfl⟩, trivial⟩
            · cbv
              all_goals exact ⟨⟨_, rfl, _, rfl, rfl, rfl, rfl, rfl, rfl, trivial⟩, ⟨_, rfl, rfl⟩, ⟨_, rfl, rfl⟩, ⟨_, rfl, rfl⟩, ⟨_, rfl, rfl⟩, trivial⟩
      · rintro _ hy1
        replace hy1 := hy1.symm
        subst hy1
        try dsimp only [lr, lrL, lrp, lrpL] at h
        cbv
        obtain rfl := Option.some.inj h
        exact ARet.mk trivial hX.symm
    | false =>
      rw [br_false hb2] at h
      cbv
      obtain rfl := Option.some.inj h
      exact ARet.mk trivial hX.symm
  | false =>
    rw [br_false hb1] at h
    cbv
    try (rw [hb1]; cbv)
    try (rw [hb1]; cbv)
    try (rw [hb1]; cbv)
    obtain rfl := Option.some.inj h
    exact ARet.mk trivial hX.symm
end Go.Vs
namespace Go.Vs
set_option maxRecDepth 100000
def ir61 : J :=
  .seq (.reg none [⟨(some 2), none, .box (.t 0)⟩,
     ⟨(some 4), none, .mv (.k (V.i 0))⟩] [1, 2])
  (.seq (.seq (.reg none [⟨(some 7), none, .ld true 5 (.t 2)⟩,
      ⟨(some 8), none, .call 31 true [(.t 7)]⟩,
      ⟨(some 9), none, .not (.t 8)⟩,
      ⟨(some 10), none, .mv (.t 9)⟩,
      ⟨(some 11), (some (10, false)), .mv (.t 1)⟩,
      ⟨(some 12), (some (10, false)), .call 85 true [(.t 11), (.k (V.i 0)), (.k (V.i 1000))]⟩,
      ⟨(some 13), (some (10, false)), .not (.t 12)⟩,
      ⟨(some 14), none, .pick (.t 10) (.k (V.b true)) (.t 13)⟩] [1, 2, 14])
   (.cond (.t 14)
    (.seq (.reg none [⟨(some 4), none, .mv (.k (V.i (-1)))⟩] [4])
     (.ret))
    (.skip)))
  (.seq (.reg none [⟨(some 15), none, .ld true 5 (.t 2)⟩,
     ⟨(some 16), none, .call 106 true [(.t 15)]⟩,
     ⟨(some 5), none, .alloc [.n 2, .n 3, .n 2, .n 1, .r (.v (.int .i64 0))]⟩,
     ⟨none, none, .st 5 (.t 5) (.t 16)⟩] [1, 5])
  (.seq (.seq (.reg none [⟨(some 6), none, .mv (.k (V.i 0))⟩] [1, 5, 6])
   (.gh (.bl 0 (.seq (.seq (.reg none [⟨(some 17), none, .mv (.t 6)⟩,
        ⟨(some 18), none, .mv (.t 1)⟩,
        ⟨(some 19), none, .bin .leq .i (.t 17) (.t 18)⟩] [1, 5, 6, 19])
     (.cond (.t 19)
      (.skip)
      (.exit 0)))
    (.seq (.block 1 (.seq (.seq (.reg none [⟨(some 22), none, .ld true 5 (.t 5)⟩,
          ⟨(some 23), none, .call 29 true [(.t 22)]⟩,
          ⟨(some 24), none, .bin .eql .i (.t 23) (.k (V.i 0))⟩,
          ⟨(some 25), none, .mv (.t 24)⟩,
          ⟨(some 26), (some (25, true)), .ld true 5 (.t 5)⟩,
          ⟨(some 27), (some (25, true)), .call 25 true [(.t 26)]⟩,
          ⟨(some 28), (some (25, true)), .bin .eql .i (.t 27) (.k (V.i 0))⟩,
          ⟨(some 29), none, .pick (.t 25) (.t 28) (.k (V.b false))⟩] [1, 5, 6, 29])
       (.cond (.t 29)
        (.seq (.reg none [⟨(some 30), none, .mv (.t 6)⟩,
            ⟨(some 4), none, .mv (.t 30)⟩] [4])
         (.ret))
        (.skip)))
      (.reg none [⟨(some 31), none, .callm 107 (.t 5) []⟩] [1, 5, 6])))
    (.reg none [⟨(some 20), none, .mv (.t 6)⟩,
      ⟨(some 21), none, .bin .add .i (.t 20) (.k (V.i 1))⟩,
      ⟨(some 6), none, .mv (.t 21)⟩] [1, 5, 6]))))))
  (.seq (.reg none [⟨(some 4), none, .mv (.k (V.i (-1)))⟩] [4])
  (.ret)))))
def rv61 : List RV := [.t 4]
open Go.Proofs Go.IntWalk
set_option linter.unusedVariables false
set_option maxRecDepth 100000
set_option maxHeartbeats 4000000
def S_TicksToDrain_l1 (g : G) (t : TE) : Nat → Int → List Item → List Chute → List Inlet → List Int → Int → Option (LR Int Unit)
  | 0, v2, w1, w2, w3, w4, v1 =>
    some (LR.out ())
  | n1 + 1, v2, w1, w2, w3, w4, v1 =>
    lP (S_CountBelt g t (Centre.mk w1 w2 w3 w4 v1)) fun x4 =>
    br (g.eq x4 0)
    (
     lP (S_CountWait g t (Centre.mk w1 w2 w3 w4 v1)) fun x5 =>
     br (g.eq x5 0)
     (
      some (LR.ret v2))
     (
      cl (S_l7Tick g t (Centre.mk w1 w2 w3 w4 v1)) fun x6 =>
      S_TicksToDrain_l1 g t n1 (g.wrap .i64 (g.add v2 1)) x6.Belt x6.Chutes x6.Inlets x6.Plan x6.Now))
    (
     cl (S_l7Tick g t (Centre.mk w1 w2 w3 w4 v1)) fun x7 =>
     S_TicksToDrain_l1 g t n1 (g.wrap .i64 (g.add v2 1)) x7.Belt x7.Chutes x7.Inlets x7.Plan x7.Now)
def S_TicksToDrain (g : G) (t : TE) (a0 : Centre) (a1 : Int) : Option Int :=
  cl (S_IsCentre g t a0) fun x1 =>
  br x1
  (
   lP (S_l1In g t a1 0 1000) fun x2 =>
   br x2
   (
    cl (S_l7Copy g t a0) fun x3 =>
    gd ((a1 ≤ 4611686018427387904)) <|
    cl (S_TicksToDrain_l1 g t (cntLe 0 a1) 0 x3.Belt x3.Chutes x3.Inlets x3.Plan x3.Now) fun o1 => lr o1 fun y1 =>
    some (-1))
   (
    some (-1)))
  (
   some (-1))
theorem fit61 : codeFit Try.prog Try.f61.ntmps (Try.f61.body.getD .skip) ir61 = true := by kernel_rfl
theorem c_S_TicksToDrain {g : G} {t : TE} {a0 : Centre} {a1 : Int} {r : Int} (hg : g = G.real) (ht : t = TE.real) (h : S_TicksToDrain g t a0 a1 = some r) : Fn Try.prog 61 [.g (Centre.rs t a0), .c (.v (.int .i64 a1))] (.c (.r (.v (.int .i64 r)))) := by
  obtain ⟨X, hX⟩ := hide (.c (.r (.v (.int .i64 r))) : X)
  rw [← hX]
  refine fn_of (rvs := rv61) (j := ir61) Try.func61 rfl fit61 (Nat.le_of_ble_eq_true rfl) (by kernel_rfl) prog_mixed ?_
  intro g2 F hg2 hF
  obtain rfl : g2 = g := hg2.unique.trans hg.symm
  clear hg2
  obtain ⟨wrap, lt, le, eq, quo, rem, band, bor, bxor, shl, shr, nat, int, add, sub, mul, cat, seq, slt, sub3, byte, llen, nadd, nsub, dlen, dapp, dset, drep, rd, rda, up, rsub, dsub, all, sle, slen, hasI, putI, hasS, putS, imin, imax, fzc⟩ := g2
  obtain ⟨r_Item, d_Item, r_Chute, d_Chute, r_Inlet, d_Inlet, r_I64, d_I64, r_U8, d_U8, d_InletF⟩ := t
  obtain ⟨a0_Belt, a0_Chutes, a0_Inlets, a0_Plan, a0_Now⟩ := a0
  unfold S_TicksToDrain at h
  try dsimp only at h
  cbv
  obtain ⟨x1, hx1, h⟩ := of_cl h
  try dsimp only at h
  refine ACall.mk _ _ rfl (hF _ _ _ (c_S_IsCentre hg ht hx1)) (.inl rfl) (Nat.le_of_ble_eq_true rfl) ?_
  cbv
  cases hb1 : x1 with
  | true =>
    rw [br_true hb1] at h
    cbv
    try (rw [hb1]; cbv)
    obtain ⟨x2, hx2, h⟩ := of_lP h
    try dsimp only at h
    refine ACall.mk _ _ rfl (hF _ _ _ (c_S_l1In hg ht hx2)) (.inl rfl) (Nat.le_of_ble_eq_true rfl) ?_
    cbv
    try (rw [hb1]; cbv)
    try (rw [hb1]; cbv)
    cases hb2 : x2 with
    | true =>
      rw [br_true hb2] at h
      cbv
      obtain ⟨x3, hx3, h⟩ := of_cl h
      obtain ⟨x3_Belt, x3_Chutes, x3_Inlets, x3_Plan, x3_Now⟩ := x3
      try dsimp only at h
      refine ACall.mk _ _ rfl (hF _ _ _ (c_S_l7Copy hg ht hx3)) (.inl rfl) (Nat.le_of_ble_eq_true rfl) ?_
      cbv
      refine AGh.fzc 178 2 1 (d_Inlet x3_Inlets) (d_InletF x3_Inlets) rfl (fzc_InletF hg ht _) ?_
      cbv
      refine AGh.nil ?_
      cbv
      obtain ⟨hB1, h⟩ := of_gd h
      obtain ⟨o1, ho1, h⟩ := of_cl h
      try dsimp only at h
      try rw [hg] at ho1
      try rw [ht] at ho1
      refine ABL.mk { p : Nat × Int × (List Item) × (List Chute) × (List Inlet) × (List Int) × Int // p.1 = cntLe p.2.1 a1 ∧ 0 ≤ p.2.1 ∧ S_TicksToDrain_l1 G.real TE.real p.1 p.2.1 p.2.2.1 p.2.2.2.1 p.2.2.2.2.1 p.2.2.2.2.2.1 p.2.2.2.2.2.2 = some o1 } (fun ⟨⟨n1, v2, w1, w2, w3, w4, v1⟩, _⟩ => ({ sl := [(1, .c (.r (.v (.int .i64 a1)))), (5, .c (.p 0 5 0 0)), (6, .c (.r (.v (.int .i64 v2))))], tab := [(0, some (.foc 5 [] [.f 1 2 0 (dlen (d_Item w1)), .f 2 3 0 (dlen (d_Chute w2)), .f 3 2 0 (dlen (d_InletF w3)), .f 4 1 0 (dlen (d_I64 w4)), .r (.v (.int .i64 v1))] [])), (1, some (.arr 2 (d_Item w1))), (2, some (.arr 3 (d_Chute w2))), (3, some (.arr 2 (d_InletF w3))), (4, some (.arr 1 (d_I64 w4)))] } : St)) 5 (fun p => p.1.1) ⟨(cntLe 0 a1, 0, x3_Belt, x3_Chutes, x3_Inlets, x3_Plan, x3_Now), rfl, Int.le_refl _, ho1⟩ (Unit) (fun _ => ({ sl := [], tab := [] } : St)) 0 (fun y => o1 = LR.out y) ?_ ?_ ?_
      · refine Wk.of [(0, some 192), (1, some 176), (2, some 177), (3, some 178), (4, some 179)] rfl rfl ?_ ?_
        · cbv
          all_goals try rw [show (dlen (d_Inlet x3_Inlets)) = (dlen (d_InletF x3_Inlets)) from ((((dlen_Inlet hg ht _)).trans (by rw [d_len_Inlet ht, d_len_InletF ht]))).trans (dlen_InletF hg ht _).symm]
          all_goals exact ⟨⟨_, rfl, rfl⟩, ⟨_, rfl, rfl⟩, ⟨_, rfl, rfl⟩, trivial⟩
        · cbv
          all_goals try rw [show (dlen (d_Inlet x3_Inlets)) = (dlen (d_InletF x3_Inlets)) from ((((dlen_Inlet hg ht _)).trans (by rw [d_len_Inlet ht, d_len_InletF ht]))).trans (dlen_InletF hg ht _).symm]
          all_goals exact ⟨⟨_, rfl, _, rfl, rfl, rfl, rfl, rfl, rfl, trivial⟩, ⟨_, rfl, rfl⟩, ⟨_, rfl, rfl⟩, ⟨_, rfl, rfl⟩, ⟨_, rfl, rfl⟩, trivial⟩
      · rintro ⟨⟨n1, v2, w1, w2, w3, w4, v1⟩, hn1, hi1, h_1⟩ hq1
        try dsimp only at hn1 hi1 h_1
        clear hq1
        cbv
        rcases n1 with _ | n1
        · have hb3 : le v2 a1 = false := leC_false hg hn1
          rw [S_TicksToDrain_l1] at h_1
          try rw [← hg] at h_1
          try rw [← ht] at h_1
          try dsimp only at h_1
          rw [hb3]
          cbv
          refine ⟨(), Wk.of [] rfl rfl ?_ ?_, (Option.some.inj h_1).symm⟩
          · cbv
            all_goals exact trivial
          · cbv
            all_goals exact trivial
        · have hb3 : le v2 a1 = true := leC_true hg hn1
          have hl1 := leC_le hn1
          have hs1 := stepleC hg hn1 hi1 hB1 (by decide)
          rw [S_TicksToDrain_l1] at h_1
          try rw [← hg] at h_1
          try rw [← ht] at h_1
          try dsimp only at h_1
          rw [hb3]
          cbv
          refine AStep.mk ⟨(lend_Item ht (dlen_Item hg ht _)), ⟨(lend_Chute ht (dlen_Chute hg ht _)), ⟨(lend_InletF ht (dlen_InletF hg ht _)), (lend_I64 ht (dlen_I64 hg ht _))⟩⟩⟩ ?_
          cbv
          obtain ⟨x4, hx4, h_1⟩ := of_lP h_1
          try dsimp only at h_1
          refine ACall.mk _ _ (by rw [show rd (d_Item w1) 0 (dlen (d_Item w1)) = r_Item w1 from rdw_Item hg ht (dlen_Item hg ht _), show rd (d_Chute w2) 0 (dlen (d_Chute w2)) = r_Chute w2 from rdw_Chute hg ht (dlen_Chute hg ht _), show rd (d_InletF w3) 0 (dlen (d_InletF w3)) = r_Inlet w3 from rdw_InletF hg ht (dlen_InletF hg ht _), show rd (d_I64 w4) 0 (dlen (d_I64 w4)) = r_I64 w4 from rdw_I64 hg ht (dlen_I64 hg ht _)]; try rfl) (hF _ _ _ (c_S_CountBelt hg ht hx4)) (.inr rfl) (Nat.le_of_ble_eq_true rfl) ?_
          cbv
          cases hb4 : (eq x4 0) with
          | true =>
            rw [br_true hb4] at h_1
            cbv
            try (rw [hb4]; cbv)
            refine AStep.mk ⟨(lend_Item ht (dlen_Item hg ht _)), ⟨(lend_Chute ht (dlen_Chute hg ht _)), ⟨(lend_InletF ht (dlen_InletF hg ht _)), (lend_I64 ht (dlen_I64 hg ht _))⟩⟩⟩ ?_
            cbv
            obtain ⟨x5, hx5, h_1⟩ := of_lP h_1
            try dsimp only at h_1
            refine ACall.mk _ _ (by rw [show rd (d_Item w1) 0 (dlen (d_Item w1)) = r_Item w1 from rdw_Item hg ht (dlen_Item hg ht _), show rd (d_Chute w2) 0 (dlen (d_Chute w2)) = r_Chute w2 from rdw_Chute hg ht (dlen_Chute hg ht _), show rd (d_InletF w3) 0 (dlen (d_InletF w3)) = r_Inlet w3 from rdw_InletF hg ht (dlen_InletF hg ht _), show rd (d_I64 w4) 0 (dlen (d_I64 w4)) = r_I64 w4 from rdw_I64 hg ht (dlen_I64 hg ht _)]; try rfl) (hF _ _ _ (c_S_CountWait hg ht hx5)) (.inr rfl) (Nat.le_of_ble_eq_true rfl) ?_
            cbv
            try (rw [hb4]; cbv)
            try (rw [hb4]; cbv)
            cases hb5 : (eq x5 0) with
            | true =>
              rw [br_true hb5] at h_1
              cbv
              obtain rfl := Option.some.inj h_1
              try dsimp only [lr, lrL, lrp, lrpL] at h
              obtain rfl := Option.some.inj h
              exact ARet.mk trivial hX.symm
            | false =>
              rw [br_false hb5] at h_1
              cbv
              refine AStep.mk ⟨⟨rfl, (dlen_Item hg ht _)⟩, ⟨⟨rfl, (dlen_Chute hg ht _)⟩, ⟨⟨rfl, (dlen_InletF hg ht _)⟩, ⟨rfl, (dlen_I64 hg ht _)⟩⟩⟩⟩ ?_
              cbv
              obtain ⟨x6, hx6, h_1⟩ := of_cl h_1
              obtain ⟨x6_Belt, x6_Chutes, x6_Inlets, x6_Plan, x6_Now⟩ := x6
              try dsimp only at h_1
              refine ACallM.mk _ _ _ _ rfl rfl (hF _ _ _ (c_S_l7Tick hg ht hx6)) rfl (Nat.le_of_ble_eq_true rfl) (Nat.le_of_ble_eq_true rfl) ?_
              cbv
              try rw [hg] at h_1
              try rw [ht] at h_1
              refine ⟨⟨(n1, (wrap .i64 (add v2 1)), x6_Belt, x6_Chutes, x6_Inlets, x6_Plan, x6_Now), hs1.1, hs1.2, h_1⟩, Wk.of [(0, some 0), (1, some 189), (2, some 190), (3, some 191), (4, some 192)] rfl rfl ?_ ?_, Nat.lt_succ_self _⟩
              · cbv
                all_goals exact ⟨⟨_, rfl, rfl⟩, ⟨_, rfl, rfl⟩, ⟨_, rfl, rfl⟩, trivial⟩
              · cbv
                all_goals exact ⟨⟨_, rfl, _, rfl, rfl, rfl, rfl, rfl, rfl, trivial⟩, ⟨_, rfl, rfl⟩, ⟨_, rfl, rfl⟩, ⟨_, rfl, rfl⟩, ⟨_, rfl, rfl⟩, trivial⟩
          | false =>
            rw [br_false hb4] at h_1
            cbv
            try (rw [hb4]; cbv)
            try (rw [hb4]; cbv)
            try (rw [hb4]; cbv)
            refine AStep.mk ⟨⟨rfl, (dlen_Item hg ht _)⟩, ⟨⟨rfl, (dlen_Chute hg ht _)⟩, ⟨⟨rfl, (dlen_InletF hg ht _)⟩, ⟨rfl, (dlen_I64 hg ht _)⟩⟩⟩⟩ ?_
            cbv
            obtain ⟨x7, hx7, h_1⟩ := of_cl h_1
            obtain ⟨x7_Belt, x7_Chutes, x7_Inlets, x7_Plan, x7_Now⟩ := x7
            try dsimp only at h_1
            refine ACallM.mk _ _ _ _ rfl rfl (hF _ _ _ (c_S_l7Tick hg ht hx7)) rfl (Nat.le_of_ble_eq_true rfl) (Nat.le_of_ble_eq_true rfl) ?_
            cbv
            try rw [hg] at h_1
            try rw [ht] at h_1
            refine ⟨⟨(n1, (wrap .i64 (add v2 1)), x7_Belt, x7_Chutes, x7_Inlets, x7_Plan, x7_Now), hs1.1, hs1.2, h_1⟩, Wk.of [(0, some 0), (1, some 189), (2, some 190), (3, some 191), (4, some 192)] rfl rfl ?_ ?_, Nat.lt_succ_self _⟩
            · cbv
              all_goals exact ⟨⟨_, rfl, rfl⟩, ⟨_, rfl, rfl⟩, ⟨_, rfl, rfl⟩, trivial⟩
            · cbv
              all_goals exact ⟨⟨_, rfl, _, rfl, rfl, rfl, rfl, rfl, rfl, trivial⟩, ⟨_, rfl, rfl⟩, ⟨_, rfl, rfl⟩, ⟨_, rfl, rfl⟩, ⟨_, rfl, rfl⟩, trivial⟩
      · rintro _ hy1
        replace hy1 := hy1.symm
        subst hy1
        try dsimp only [lr, lrL, lrp, lrpL] at h
        cbv
        obtain rfl := Option.some.inj h
        exact ARet.mk trivial hX.symm
    | false =>
      rw [br_false hb2] at h
      cbv
      obtain rfl := Option.some.inj h
      exact ARet.mk trivial hX.symm
  | false =>
    rw [br_false hb1] at h
    cbv
    try (rw [hb1]; cbv)
    try (rw [hb1]; cbv)
    try (rw [hb1]; cbv)
    obtain rfl := Option.some.inj h
    exact ARet.mk trivial hX.symm
end Go.Vs
namespace Go.Vs
set_option maxRecDepth 100000
def ir16 : J :=
  .seq (.reg none [⟨(some 2), none, .box (.t 0)⟩,
     ⟨(some 4), none, .mv (.k (V.b false))⟩] [1, 2])
  (.seq (.reg none [⟨(some 5), none, .mv (.k (V.i 1048576))⟩] [1, 2, 5])
  (.seq (.reg none [⟨(some 9), none, .ld true 5 (.t 2)⟩,
     ⟨(some 10), none, .mv (.t 5)⟩,
     ⟨(some 11), none, .call 24 true [(.t 9), (.t 10)]⟩,
     ⟨(some 5), none, .mv (.t 11)⟩] [1, 2, 5])
  (.seq (.seq (.reg none [⟨(some 12), none, .mv (.t 5)⟩,
      ⟨(some 13), none, .bin .lss .i (.t 12) (.k (V.i 0))⟩] [1, 2, 13])
   (.cond (.t 13)
    (.seq (.reg none [⟨(some 4), none, .mv (.k (V.b true))⟩] [4])
     (.ret))
    (.skip)))
  (.seq (.reg none [⟨(some 14), none, .ld true 5 (.t 2)⟩,
     ⟨(some 15), none, .call 26 false [(.t 14)]⟩,
     ⟨(some 16), none, .mv (.t 1)⟩,
     ⟨(some 17), none, .call 61 true [(.t 15), (.t 16)]⟩,
     ⟨(some 6), none, .mv (.t 17)⟩] [1, 2, 6])
  (.seq (.reg none [⟨(some 18), none, .ld true 5 (.t 2)⟩,
     ⟨(some 19), none, .call 26 false [(.t 18)]⟩,
     ⟨(some 7), none, .alloc [.n 2, .n 3, .n 2, .n 1, .r (.v (.int .i64 0))]⟩,
     ⟨none, none, .st 5 (.t 7) (.t 19)⟩] [1, 2, 6, 7])
  (.seq (.reg none [⟨(some 20), none, .ld true 5 (.t 7)⟩,
     ⟨(some 21), none, .mv (.t 1)⟩,
     ⟨(some 22), none, .call 54 true [(.t 20), (.t 21)]⟩,
     ⟨(some 8), none, .mv (.t 22)⟩] [2, 6, 7, 8])
  (.seq (.seq (.reg none [⟨(some 23), none, .mv (.t 8)⟩,
      ⟨(some 24), none, .mv (.t 6)⟩,
      ⟨(some 25), none, .bin .neq .i (.t 23) (.t 24)⟩] [2, 7, 25])
   (.cond (.t 25)
    (.seq (.reg none [⟨(some 4), none, .mv (.k (V.b false))⟩] [4])
     (.ret))
    (.skip)))
  (.seq (.seq (.reg (some [[], [], [1], [0, 1, 2], [0, 1, 2, 3]]) [⟨(some 26), none, .ld true 5 (.t 7)⟩,
      ⟨(some 27), none, .ld true 5 (.t 2)⟩,
      ⟨(some 28), none, .call 26 false [(.t 27)]⟩,
      ⟨(some 29), none, .call 28 true [(.t 26), (.t 28)]⟩,
      ⟨(some 30), none, .not (.t 29)⟩] [30])
   (.cond (.t 30)
    (.seq (.reg none [⟨(some 4), none, .mv (.k (V.b false))⟩] [4])
     (.ret))
    (.skip)))
  (.seq (.reg none [⟨(some 4), none, .mv (.k (V.b true))⟩] [4])
  (.ret))))))))))
def rv16 : List RV := [.t 4]
open Go.Proofs Go.IntWalk
set_option linter.unusedVariables false
set_option maxRecDepth 100000
set_option maxHeartbeats 4000000
def L_FnExactTicksToDrain (g : G) (t : TE) (a0 : Centre) (a1 : Int) : Option Bool :=
  lP (L_szCentre g t a0 1048576) fun x1 =>
  br (g.lt x1 0)
  (
   some true)
  (
   cl (L_toCentre g t a0) fun x2 =>
   cl (S_TicksToDrain g t x2 a1) fun x3 =>
   cl (L_toCentre g t a0) fun x4 =>
   cl (I_TicksToDrain g t x4 a1) fun x5 =>
   br (g.eq x5 x3)
   (
    cl (L_toCentre g t a0) fun x6 =>
    cl (L_eqCentre g t x4 x6) fun x7 =>
    br x7
    (
     some true)
    (
     some false))
   (
    some false))
theorem fit16 : codeFit Try.prog Try.f16.ntmps (Try.f16.body.getD .skip) ir16 = true := by kernel_rfl
theorem c_L_FnExactTicksToDrain {g : G} {t : TE} {a0 : Centre} {a1 : Int} {r : Bool} (hg : g = G.real) (ht : t = TE.real) (h : L_FnExactTicksToDrain g t a0 a1 = some r) : Fn Try.prog 16 [.g (Centre.rs t a0), .c (.v (.int .i64 a1))] (.c (.r (.v (.bool r)))) := by
  obtain ⟨X, hX⟩ := hide (.c (.r (.v (.bool r))) : X)
  rw [← hX]
  refine fn_of (rvs := rv16) (j := ir16) Try.func16 rfl fit16 (Nat.le_of_ble_eq_true rfl) (by kernel_rfl) prog_mixed ?_
  intro g2 F hg2 hF
  obtain rfl : g2 = g := hg2.unique.trans hg.symm
  clear hg2
  obtain ⟨wrap, lt, le, eq, quo, rem, band, bor, bxor, shl, shr, nat, int, add, sub, mul, cat, seq, slt, sub3, byte, llen, nadd, nsub, dlen, dapp, dset, drep, rd, rda, up, rsub, dsub, all, sle, slen, hasI, putI, hasS, putS, imin, imax, fzc⟩ := g2
  obtain ⟨r_Item, d_Item, r_Chute, d_Chute, r_Inlet, d_Inlet, r_I64, d_I64, r_U8, d_U8, d_InletF⟩ := t
  obtain ⟨a0_Belt, a0_Chutes, a0_Inlets, a0_Plan, a0_Now⟩ := a0
  have hrda_Item : ∀ l, rda (d_Item l) = r_Item l := rda_Item hg ht
  have hrda_Chute : ∀ l, rda (d_Chute l) = r_Chute l := rda_Chute hg ht
  have hrda_Inlet : ∀ l, rda (d_Inlet l) = r_Inlet l := rda_Inlet hg ht
  have hrda_I64 : ∀ l, rda (d_I64 l) = r_I64 l := rda_I64 hg ht
  unfold L_FnExactTicksToDrain at h
  try dsimp only at h
  cbv
  obtain ⟨x1, hx1, h⟩ := of_lP h
  try dsimp only at h
  refine ACall.mk _ _ rfl (hF _ _ _ (c_L_szCentre hg ht hx1)) (.inl rfl) (Nat.le_of_ble_eq_true rfl) ?_
  cbv
  cases hb1 : (lt x1 0) with
  | true =>
    rw [br_true hb1] at h
    cbv
    obtain rfl := Option.some.inj h
    exact ARet.mk trivial hX.symm
  | false =>
    rw [br_false hb1] at h
    cbv
    obtain ⟨x2, hx2, h⟩ := of_cl h
    obtain ⟨x2_Belt, x2_Chutes, x2_Inlets, x2_Plan, x2_Now⟩ := x2
    try dsimp only at h
    refine ACallR.mk _ _ (.g [.r (.s 2 (r_Item x2_Belt)), .r (.s 3 (r_Chute x2_Chutes)), .r (.s 2 (r_Inlet x2_Inlets)), .r (.s 1 (r_I64 x2_Plan)), .r (.v (.int .i64 x2_Now))]) rfl (hF _ _ _ (c_L_toCentre hg ht hx2)) (.inl rfl) (Nat.le_of_ble_eq_true rfl) (by cbv; (try simp only [hrda_Chute, hrda_I64, hrda_Inlet, hrda_Item])) ?_
    cbv
    obtain ⟨x3, hx3, h⟩ := of_cl h
    try dsimp only at h
    refine ACall.mk _ _ rfl (hF _ _ _ (c_S_TicksToDrain hg ht hx3)) (.inl rfl) (Nat.le_of_ble_eq_true rfl) ?_
    cbv
    obtain ⟨x4, hx4, h⟩ := of_cl h
    obtain ⟨x4_Belt, x4_Chutes, x4_Inlets, x4_Plan, x4_Now⟩ := x4
    try dsimp only at h
    refine ACallR.mk _ _ (.g [.r (.s 2 (r_Item x4_Belt)), .r (.s 3 (r_Chute x4_Chutes)), .r (.s 2 (r_Inlet x4_Inlets)), .r (.s 1 (r_I64 x4_Plan)), .r (.v (.int .i64 x4_Now))]) rfl (hF _ _ _ (c_L_toCentre hg ht hx4)) (.inl rfl) (Nat.le_of_ble_eq_true rfl) (by cbv; (try simp only [hrda_Chute, hrda_I64, hrda_Inlet, hrda_Item])) ?_
    cbv
    obtain ⟨x5, hx5, h⟩ := of_cl h
    try dsimp only at h
    refine ACall.mk _ _ rfl (hF _ _ _ (c_I_TicksToDrain hg ht hx5)) (.inl rfl) (Nat.le_of_ble_eq_true rfl) ?_
    cbv
    cases hb2 : (eq x5 x3) with
    | true =>
      rw [br_true hb2] at h
      cbv
      obtain ⟨x6, hx6, h⟩ := of_cl h
      obtain ⟨x6_Belt, x6_Chutes, x6_Inlets, x6_Plan, x6_Now⟩ := x6
      try dsimp only at h
      refine ACallR.mk _ _ (.g [.r (.s 2 (r_Item x6_Belt)), .r (.s 3 (r_Chute x6_Chutes)), .r (.s 2 (r_Inlet x6_Inlets)), .r (.s 1 (r_I64 x6_Plan)), .r (.v (.int .i64 x6_Now))]) rfl (hF _ _ _ (c_L_toCentre hg ht hx6)) (.inl rfl) (Nat.le_of_ble_eq_true rfl) (by cbv; (try simp only [hrda_Chute, hrda_I64, hrda_Inlet, hrda_Item])) ?_
      cbv
      obtain ⟨x7, hx7, h⟩ := of_cl h
      try dsimp only at h
      refine ACall.mk _ _ rfl (hF _ _ _ (c_L_eqCentre hg ht hx7)) (.inl rfl) (Nat.le_of_ble_eq_true rfl) ?_
      cbv
      cases hb3 : x7 with
      | true =>
        rw [br_true hb3] at h
        cbv
        obtain rfl := Option.some.inj h
        exact ARet.mk trivial hX.symm
      | false =>
        rw [br_false hb3] at h
        cbv
        obtain rfl := Option.some.inj h
        exact ARet.mk trivial hX.symm
    | false =>
      rw [br_false hb2] at h
      cbv
      obtain rfl := Option.some.inj h
      exact ARet.mk trivial hX.symm
end Go.Vs
