/- Part of the proofs of this seat's laws: Lad. No condition. -/
import Derived.Test.YtieeagobedjogaaTy
import Derived.Test.YtieeagobedjogaaTIRall
import Derived.Test.YtieeagobedjogaaLaa
import Derived.Test.YtieeagobedjogaaLab
import Derived.Test.YtieeagobedjogaaLac
set_option linter.unusedVariables false
set_option linter.unusedSimpArgs false
set_option linter.unusedSectionVars false
namespace Go.Vs
set_option maxRecDepth 100000
def ir54 : J :=
  .seq (.reg none [⟨(some 2), none, .box (.t 0)⟩,
     ⟨(some 4), none, .mv (.k (V.i 0))⟩] [1, 2])
  (.seq (.seq (.reg none [⟨(some 7), none, .ld true 5 (.t 2)⟩,
      ⟨(some 8), none, .call 32 true [(.t 7)]⟩,
      ⟨(some 9), none, .not (.t 8)⟩,
      ⟨(some 10), none, .mv (.t 9)⟩,
      ⟨(some 11), (some (10, false)), .mv (.t 1)⟩,
      ⟨(some 12), (some (10, false)), .call 89 true [(.t 11), (.k (V.i 0)), (.k (V.i 1000))]⟩,
      ⟨(some 13), (some (10, false)), .not (.t 12)⟩,
      ⟨(some 14), none, .pick (.t 10) (.k (V.b true)) (.t 13)⟩] [1, 2, 14])
   (.cond (.t 14)
    (.seq (.reg none [⟨(some 4), none, .mv (.k (V.i (-1)))⟩] [4])
     (.ret))
    (.skip)))
  (.seq (.reg none [⟨(some 15), none, .ld true 5 (.t 2)⟩,
     ⟨(some 16), none, .call 94 true [(.t 15)]⟩,
     ⟨(some 5), none, .alloc [.n 2, .n 3, .n 2, .n 1, .r (.v (.int .i64 0))]⟩,
     ⟨none, none, .st 5 (.t 5) (.t 16)⟩] [1, 5])
  (.seq (.seq (.reg none [⟨(some 6), none, .mv (.k (V.i 0))⟩] [1, 5, 6])
   (.bl 0 (.seq (.seq (.reg none [⟨(some 17), none, .mv (.t 6)⟩,
        ⟨(some 18), none, .mv (.t 1)⟩,
        ⟨(some 19), none, .bin .leq .i (.t 17) (.t 18)⟩] [1, 5, 6, 19])
     (.cond (.t 19)
      (.skip)
      (.exit 0)))
    (.seq (.block 1 (.seq (.seq (.reg none [⟨(some 22), none, .ld true 5 (.t 5)⟩,
          ⟨(some 23), none, .call 30 true [(.t 22)]⟩,
          ⟨(some 24), none, .bin .eql .i (.t 23) (.k (V.i 0))⟩,
          ⟨(some 25), none, .mv (.t 24)⟩,
          ⟨(some 26), (some (25, true)), .ld true 5 (.t 5)⟩,
          ⟨(some 27), (some (25, true)), .call 27 true [(.t 26)]⟩,
          ⟨(some 28), (some (25, true)), .bin .eql .i (.t 27) (.k (V.i 0))⟩,
          ⟨(some 29), none, .pick (.t 25) (.t 28) (.k (V.b false))⟩] [1, 5, 6, 29])
       (.cond (.t 29)
        (.seq (.reg none [⟨(some 30), none, .mv (.t 6)⟩,
            ⟨(some 4), none, .mv (.t 30)⟩] [4])
         (.ret))
        (.skip)))
      (.reg none [⟨(some 31), none, .callm 95 (.t 5) []⟩] [1, 5, 6])))
    (.reg none [⟨(some 20), none, .mv (.t 6)⟩,
      ⟨(some 21), none, .bin .add .i (.t 20) (.k (V.i 1))⟩,
      ⟨(some 6), none, .mv (.t 21)⟩] [1, 5, 6])))))
  (.seq (.reg none [⟨(some 4), none, .mv (.k (V.i (-1)))⟩] [4])
  (.ret)))))
def rv54 : List RV := [.t 4]
open Go.Proofs Go.IntWalk
set_option linter.unusedVariables false
set_option maxRecDepth 100000
set_option maxHeartbeats 4000000
def I_TicksToDrain_l1 (g : G) (t : TE) : Nat → Int → List Item → List Chute → List Inlet → List Int → Int → Option (LR Int Unit)
  | 0, v2, w1, w2, w3, w4, v1 =>
    some (LR.out ())
  | n1 + 1, v2, w1, w2, w3, w4, v1 =>
    lP (I_CountBelt g t (Centre.mk w1 w2 w3 w4 v1)) fun x4 =>
    br (g.eq x4 0)
    (
     lP (I_CountWait g t (Centre.mk w1 w2 w3 w4 v1)) fun x5 =>
     br (g.eq x5 0)
     (
      some (LR.ret v2))
     (
      cl (I_tick g t (Centre.mk w1 w2 w3 w4 v1)) fun x6 =>
      I_TicksToDrain_l1 g t n1 (g.wrap .i64 (g.add v2 1)) x6.Belt x6.Chutes x6.Inlets x6.Plan x6.Now))
    (
     cl (I_tick g t (Centre.mk w1 w2 w3 w4 v1)) fun x7 =>
     I_TicksToDrain_l1 g t n1 (g.wrap .i64 (g.add v2 1)) x7.Belt x7.Chutes x7.Inlets x7.Plan x7.Now)
def I_TicksToDrain (g : G) (t : TE) (a0 : Centre) (a1 : Int) : Option Int :=
  cl (I_IsCentre g t a0) fun x1 =>
  br x1
  (
   lP (I_within g t a1 0 1000) fun x2 =>
   br x2
   (
    cl (I_copyCentre g t a0) fun x3 =>
    gd ((a1 ≤ 4611686018427387904)) <|
    cl (I_TicksToDrain_l1 g t (cntLe 0 a1) 0 x3.Belt x3.Chutes x3.Inlets x3.Plan x3.Now) fun o1 => lr o1 fun y1 =>
    some (-1))
   (
    some (-1)))
  (
   some (-1))
theorem fit54 : codeFit Try.prog Try.f54.ntmps (Try.f54.body.getD .skip) ir54 = true := by kernel_rfl
theorem c_I_TicksToDrain {g : G} {t : TE} {a0 : Centre} {a1 : Int} {r : Int} (hg : g = G.real) (ht : t = TE.real) (h : I_TicksToDrain g t a0 a1 = some r) : Fn Try.prog 54 [.g (Centre.rs t a0), .c (.v (.int .i64 a1))] (.c (.r (.v (.int .i64 r)))) := by
  obtain ⟨X, hX⟩ := hide (.c (.r (.v (.int .i64 r))) : X)
  rw [← hX]
  refine fn_of (rvs := rv54) (j := ir54) Try.func54 rfl fit54 (Nat.le_of_ble_eq_true rfl) (by kernel_rfl) prog_mixed ?_
  intro g2 F hg2 hF
  obtain rfl : g2 = g := hg2.unique.trans hg.symm
  clear hg2
  obtain ⟨wrap, lt, le, eq, quo, rem, band, bor, bxor, shl, shr, nat, int, add, sub, mul, cat, seq, slt, sub3, byte, llen, nadd, nsub, dlen, dapp, dset, drep, rd, rda, up, rsub, dsub, all, sle, slen, hasI, putI, hasS, putS, imin, imax, fzc⟩ := g2
  obtain ⟨r_Item, d_Item, r_Chute, d_Chute, r_Inlet, d_Inlet, r_I64, d_I64, r_U8, d_U8, d_InletF⟩ := t
  obtain ⟨a0_Belt, a0_Chutes, a0_Inlets, a0_Plan, a0_Now⟩ := a0
  unfold I_TicksToDrain at h
  try dsimp only at h
  cbv
  obtain ⟨x1, hx1, h⟩ := of_cl h
  try dsimp only at h
  refine ACall.mk _ _ rfl (hF _ _ _ (c_I_IsCentre hg ht hx1)) (.inl rfl) (Nat.le_of_ble_eq_true rfl) ?_
  cbv
  cases hb1 : x1 with
  | true =>
    rw [br_true hb1] at h
    cbv
    try (rw [hb1]; cbv)
    obtain ⟨x2, hx2, h⟩ := of_lP h
    try dsimp only at h
    refine ACall.mk _ _ rfl (hF _ _ _ (c_I_within hg ht hx2)) (.inl rfl) (Nat.le_of_ble_eq_true rfl) ?_
    cbv
    try (rw [hb1]; cbv)
    try (rw [hb1]; cbv)
    cases hb2 : x2 with
    | true =>
      rw [br_true hb2] at h
      cbv
      obtain ⟨x3, hx3, h⟩ := of_cl h
      obtain ⟨x3_Belt, x3_Chutes, x3_Inlets, x3_Plan, x3_Now⟩ := x3
      try dsimp only at h
      refine ACall.mk _ _ rfl (hF _ _ _ (c_I_copyCentre hg ht hx3)) (.inl rfl) (Nat.le_of_ble_eq_true rfl) ?_
      cbv
      obtain ⟨hB1, h⟩ := of_gd h
      obtain ⟨o1, ho1, h⟩ := of_cl h
      try dsimp only at h
      try rw [hg] at ho1
      try rw [ht] at ho1
      refine ABL.mk { p : Nat × Int × (List Item) × (List Chute) × (List Inlet) × (List Int) × Int // p.1 = cntLe p.2.1 a1 ∧ 0 ≤ p.2.1 ∧ I_TicksToDrain_l1 G.real TE.real p.1 p.2.1 p.2.2.1 p.2.2.2.1 p.2.2.2.2.1 p.2.2.2.2.2.1 p.2.2.2.2.2.2 = some o1 } (fun ⟨⟨n1, v2, w1, w2, w3, w4, v1⟩, _⟩ => ({ sl := [(1, .c (.r (.v (.int .i64 a1)))), (5, .c (.p 0 5 0 0)), (6, .c (.r (.v (.int .i64 v2))))], tab := [(0, some (.foc 5 [] [.f 1 2 0 (dlen (d_Item w1)), .f 2 3 0 (dlen (d_Chute w2)), .f 3 2 0 (dlen (d_Inlet w3)), .f 4 1 0 (dlen (d_I64 w4)), .r (.v (.int .i64 v1))] [])), (1, some (.arr 2 (d_Item w1))), (2, some (.arr 3 (d_Chute w2))), (3, some (.arr 2 (d_Inlet w3))), (4, some (.arr 1 (d_I64 w4)))] } : St)) 5 (fun p => p.1.1) ⟨(cntLe 0 a1, 0, x3_Belt, x3_Chutes, x3_Inlets, x3_Plan, x3_Now), rfl, Int.le_refl _, ho1⟩ (Unit) (fun _ => ({ sl := [], tab := [] } : St)) 0 (fun y => o1 = LR.out y) ?_ ?_ ?_
      · refine Wk.of [(0, some 192), (1, some 176), (2, some 177), (3, some 178), (4, some 179)] rfl rfl ?_ ?_
        · cbv
          all_goals exact ⟨⟨_, rfl, rfl⟩, ⟨_, rfl, rfl⟩, ⟨_, rfl, rfl⟩, trivial⟩
        · cbv
          all_goals exact ⟨⟨_, rfl, _, rfl, rfl, rfl, rfl, rfl, rfl, trivial⟩, ⟨_, rfl, rfl⟩, ⟨_, rfl, rfl⟩, ⟨_, rfl, rfl⟩, ⟨_, rfl, rfl⟩, trivial⟩
      · rintro ⟨⟨n1, v2, w1, w2, w3, w4, v1⟩, hn1, hi1, h_1⟩ hq1
        try dsimp only at hn1 hi1 h_1
        clear hq1
        cbv
        rcases n1 with _ | n1
        · have hb3 : le v2 a1 = false := leC_false hg hn1
          rw [I_TicksToDrain_l1] at h_1
          try rw [← hg] at h_1
          try rw [← ht] at h_1
          try dsimp only at h_1
          rw [hb3]
          cbv
          refine ⟨(), Wk.of [] rfl rfl ?_ ?_, (Option.some.inj h_1).symm⟩
          · cbv
            all_goals exact trivial
          · cbv
            all_goals exact trivial
        · have hb3 : le v2 a1 = true := leC_true hg hn1
          have hl1 := leC_le hn1
          have hs1 := stepleC hg hn1 hi1 hB1 (by decide)
          rw [I_TicksToDrain_l1] at h_1
          try rw [← hg] at h_1
          try rw [← ht] at h_1
          try dsimp only at h_1
          rw [hb3]
          cbv
          refine AStep.mk ⟨(lend_Item ht (dlen_Item hg ht _)), ⟨(lend_Chute ht (dlen_Chute hg ht _)), ⟨(lend_Inlet ht (dlen_Inlet hg ht _)), (lend_I64 ht (dlen_I64 hg ht _))⟩⟩⟩ ?_
          cbv
          obtain ⟨x4, hx4, h_1⟩ := of_lP h_1
          try dsimp only at h_1
          refine ACall.mk _ _ (by rw [show rd (d_Item w1) 0 (dlen (d_Item w1)) = r_Item w1 from rdw_Item hg ht (dlen_Item hg ht _), show rd (d_Chute w2) 0 (dlen (d_Chute w2)) = r_Chute w2 from rdw_Chute hg ht (dlen_Chute hg ht _), show rd (d_Inlet w3) 0 (dlen (d_Inlet w3)) = r_Inlet w3 from rdw_Inlet hg ht (dlen_Inlet hg ht _), show rd (d_I64 w4) 0 (dlen (d_I64 w4)) = r_I64 w4 from rdw_I64 hg ht (dlen_I64 hg ht _)]; try rfl) (hF _ _ _ (c_I_CountBelt hg ht hx4)) (.inr rfl) (Nat.le_of_ble_eq_true rfl) ?_
          cbv
          cases hb4 : (eq x4 0) with
          | true =>
            rw [br_true hb4] at h_1
            cbv
            try (rw [hb4]; cbv)
            refine AStep.mk ⟨(lend_Item ht (dlen_Item hg ht _)), ⟨(lend_Chute ht (dlen_Chute hg ht _)), ⟨(lend_Inlet ht (dlen_Inlet hg ht _)), (lend_I64 ht (dlen_I64 hg ht _))⟩⟩⟩ ?_
            cbv
            obtain ⟨x5, hx5, h_1⟩ := of_lP h_1
            try dsimp only at h_1
            refine ACall.mk _ _ (by rw [show rd (d_Item w1) 0 (dlen (d_Item w1)) = r_Item w1 from rdw_Item hg ht (dlen_Item hg ht _), show rd (d_Chute w2) 0 (dlen (d_Chute w2)) = r_Chute w2 from rdw_Chute hg ht (dlen_Chute hg ht _), show rd (d_Inlet w3) 0 (dlen (d_Inlet w3)) = r_Inlet w3 from rdw_Inlet hg ht (dlen_Inlet hg ht _), show rd (d_I64 w4) 0 (dlen (d_I64 w4)) = r_I64 w4 from rdw_I64 hg ht (dlen_I64 hg ht _)]; try rfl) (hF _ _ _ (c_I_CountWait hg ht hx5)) (.inr rfl) (Nat.le_of_ble_eq_true rfl) ?_
            cbv
            try (rw [hb4]; cbv)
            try (rw [hb4]; cbv)
            cases hb5 : (eq x5 0) with
            | true =>
              rw [br_true hb5] at h_1
              cbv
              obtain rfl := Option.some.inj h_1
              try dsimp only [lr, lrL, lrp, lrpL] at h
              obtain rfl := Option.some.inj h
              exact ARet.mk trivial hX.symm
            | false =>
              rw [br_false hb5] at h_1
              cbv
              refine AStep.mk ⟨⟨rfl, (dlen_Item hg ht _)⟩, ⟨⟨rfl, (dlen_Chute hg ht _)⟩, ⟨⟨rfl, (dlen_Inlet hg ht _)⟩, ⟨rfl, (dlen_I64 hg ht _)⟩⟩⟩⟩ ?_
              cbv
              obtain ⟨x6, hx6, h_1⟩ := of_cl h_1
              obtain ⟨x6_Belt, x6_Chutes, x6_Inlets, x6_Plan, x6_Now⟩ := x6
              try dsimp only at h_1
              refine ACallM.mk _ _ _ _ rfl rfl (hF _ _ _ (c_I_tick hg ht hx6)) rfl (Nat.le_of_ble_eq_true rfl) (Nat.le_of_ble_eq_true rfl) ?_
              cbv
              try rw [hg] at h_1
              try rw [ht] at h_1
              refine ⟨⟨(n1, (wrap .i64 (add v2 1)), x6_Belt, x6_Chutes, x6_Inlets, x6_Plan, x6_Now), hs1.1, hs1.2, h_1⟩, Wk.of [(0, some 0), (1, some 189), (2, some 190), (3, some 191), (4, some 192)] rfl rfl ?_ ?_, Nat.lt_succ_self _⟩
              · cbv
                all_goals exact ⟨⟨_, rfl, rfl⟩, ⟨_, rfl, rfl⟩, ⟨_, rfl, rfl⟩, trivial⟩
              · cbv
                all_goals exact ⟨⟨_, rfl, _, rfl, rfl, rfl, rfl, rfl, rfl, trivial⟩, ⟨_, rfl, rfl⟩, ⟨_, rfl, rfl⟩, ⟨_, rfl, rfl⟩, ⟨_, rfl, rfl⟩, trivial⟩
          | false =>
            rw [br_false hb4] at h_1
            cbv
            try (rw [hb4]; cbv)
            try (rw [hb4]; cbv)
            try (rw [hb4]; cbv)
            refine AStep.mk ⟨⟨rfl, (dlen_Item hg ht _)⟩, ⟨⟨rfl, (dlen_Chute hg ht _)⟩, ⟨⟨rfl, (dlen_Inlet hg ht _)⟩, ⟨rfl, (dlen_I64 hg ht _)⟩⟩⟩⟩ ?_
            cbv
            obtain ⟨x7, hx7, h_1⟩ := of_cl h_1
            obtain ⟨x7_Belt, x7_Chutes, x7_Inlets, x7_Plan, x7_Now⟩ := x7
            try dsimp only at h_1
            refine ACallM.mk _ _ _ _ rfl rfl (hF _ _ _ (c_I_tick hg ht hx7)) rfl (Nat.le_of_ble_eq_true rfl) (Nat.le_of_ble_eq_true rfl) ?_
            cbv
            try rw [hg] at h_1
            try rw [ht] at h_1
            refine ⟨⟨(n1, (wrap .i64 (add v2 1)), x7_Belt, x7_Chutes, x7_Inlets, x7_Plan, x7_Now), hs1.1, hs1.2, h_1⟩, Wk.of [(0, some 0), (1, some 189), (2, some 190), (3, some 191), (4, some 192)] rfl rfl ?_ ?_, Nat.lt_succ_self _⟩
            · cbv
              all_goals exact ⟨⟨_, rfl, rfl⟩, ⟨_, rfl, rfl⟩, ⟨_, rfl, rfl⟩, trivial⟩
            · cbv
              all_goals exact ⟨⟨_, rfl, _, rfl, rfl, rfl, rfl, rfl, rfl, trivial⟩, ⟨_, rfl, rfl⟩, ⟨_, rfl, rfl⟩, ⟨_, rfl, rfl⟩, ⟨_, rfl, rfl⟩, trivial⟩
      · rintro _ hy1
        replace hy1 := hy1.symm
        subst hy1
        try dsimp only [lr, lrL, lrp, lrpL] at h
        cbv
        obtain rfl := Option.some.inj h
        exact ARet.mk trivial hX.symm
    | false =>
      rw [br_false hb2] at h
      cbv
      obtain rfl := Option.some.inj h
      exact ARet.mk trivial hX.symm
  | false =>
    rw [br_false hb1] at h
    cbv
    try (rw [hb1]; cbv)
    try (rw [hb1]; cbv)
    try (rw [hb1]; cbv)
    obtain rfl := Option.some.inj h
    exact ARet.mk trivial hX.symm
end Go.Vs
namespace Go.Vs
set_option maxRecDepth 100000
def ir56 : J :=
  .seq (.reg none [⟨(some 1), none, .box (.t 0)⟩,
     ⟨(some 2), none, .mv (.k (V.b false))⟩] [1])
  (.seq (.reg none [⟨(some 3), none, .ld true 5 (.t 1)⟩,
     ⟨(some 4), none, .call 32 true [(.t 3)]⟩,
     ⟨(some 5), none, .mv (.t 4)⟩,
     ⟨(some 6), (some (5, true)), .ld true 5 (.t 1)⟩,
     ⟨(some 7), (some (5, true)), .call 30 true [(.t 6)]⟩,
     ⟨(some 8), (some (5, true)), .bin .eql .i (.t 7) (.k (V.i 0))⟩,
     ⟨(some 9), none, .pick (.t 5) (.t 8) (.k (V.b false))⟩,
     ⟨(some 10), none, .mv (.t 9)⟩,
     ⟨(some 11), (some (10, true)), .ld true 5 (.t 1)⟩,
     ⟨(some 12), (some (10, true)), .call 27 true [(.t 11)]⟩,
     ⟨(some 13), (some (10, true)), .bin .eql .i (.t 12) (.k (V.i 0))⟩,
     ⟨(some 14), none, .pick (.t 10) (.t 13) (.k (V.b false))⟩,
     ⟨(some 2), none, .mv (.t 14)⟩] [2])
  (.ret))
def rv56 : List RV := [.t 2]
open Go.Proofs Go.IntWalk
set_option linter.unusedVariables false
set_option maxRecDepth 100000
set_option maxHeartbeats 4000000
def I_IsDrained (g : G) (t : TE) (a0 : Centre) : Option Bool :=
  cl (I_IsCentre g t a0) fun x1 =>
  br x1
  (
   lP (I_CountBelt g t a0) fun x2 =>
   br (g.eq x2 0)
   (
    lP (I_CountWait g t a0) fun x3 =>
    some (g.eq x3 0))
   (
    some false))
  (
   some false)
theorem fit56 : codeFit Try.prog Try.f56.ntmps (Try.f56.body.getD .skip) ir56 = true := by kernel_rfl
theorem c_I_IsDrained {g : G} {t : TE} {a0 : Centre} {r : Bool} (hg : g = G.real) (ht : t = TE.real) (h : I_IsDrained g t a0 = some r) : Fn Try.prog 56 [.g (Centre.rs t a0)] (.c (.r (.v (.bool r)))) := by
  obtain ⟨X, hX⟩ := hide (.c (.r (.v (.bool r))) : X)
  rw [← hX]
  refine fn_of (rvs := rv56) (j := ir56) Try.func56 rfl fit56 (Nat.le_of_ble_eq_true rfl) (by kernel_rfl) prog_mixed ?_
  intro g2 F hg2 hF
  obtain rfl : g2 = g := hg2.unique.trans hg.symm
  clear hg2
  obtain ⟨wrap, lt, le, eq, quo, rem, band, bor, bxor, shl, shr, nat, int, add, sub, mul, cat, seq, slt, sub3, byte, llen, nadd, nsub, dlen, dapp, dset, drep, rd, rda, up, rsub, dsub, all, sle, slen, hasI, putI, hasS, putS, imin, imax, fzc⟩ := g2
  obtain ⟨r_Item, d_Item, r_Chute, d_Chute, r_Inlet, d_Inlet, r_I64, d_I64, r_U8, d_U8, d_InletF⟩ := t
  obtain ⟨a0_Belt, a0_Chutes, a0_Inlets, a0_Plan, a0_Now⟩ := a0
  unfold I_IsDrained at h
  try dsimp only at h
  cbv
  obtain ⟨x1, hx1, h⟩ := of_cl h
  try dsimp only at h
  refine ACall.mk _ _ rfl (hF _ _ _ (c_I_IsCentre hg ht hx1)) (.inl rfl) (Nat.le_of_ble_eq_true rfl) ?_
  cbv
  cases hb1 : x1 with
  | true =>
    rw [br_true hb1] at h
    cbv
    try (rw [hb1]; cbv)
    obtain ⟨x2, hx2, h⟩ := of_lP h
    try dsimp only at h
    refine ACall.mk _ _ rfl (hF _ _ _ (c_I_CountBelt hg ht hx2)) (.inl rfl) (Nat.le_of_ble_eq_true rfl) ?_
    cbv
    try (rw [hb1]; cbv)
    try (rw [hb1]; cbv)
    cases hb2 : (eq x2 0) with
    | true =>
      rw [br_true hb2] at h
      cbv
      try (rw [hb2]; cbv)
      obtain ⟨x3, hx3, h⟩ := of_lP h
      try dsimp only at h
      refine ACall.mk _ _ rfl (hF _ _ _ (c_I_CountWait hg ht hx3)) (.inl rfl) (Nat.le_of_ble_eq_true rfl) ?_
      cbv
      try (rw [hb2]; cbv)
      try (rw [hb2]; cbv)
      obtain rfl := Option.some.inj h
      exact ARet.mk trivial hX.symm
    | false =>
      rw [br_false hb2] at h
      cbv
      try (rw [hb2]; cbv)
      try (rw [hb2]; cbv)
      try (rw [hb2]; cbv)
      obtain rfl := Option.some.inj h
      exact ARet.mk trivial hX.symm
  | false =>
    rw [br_false hb1] at h
    cbv
    try (rw [hb1]; cbv)
    try (rw [hb1]; cbv)
    try (rw [hb1]; cbv)
    obtain rfl := Option.some.inj h
    exact ARet.mk trivial hX.symm
end Go.Vs
namespace Go.Vs
set_option maxRecDepth 100000
def ir55 : J :=
  .seq (.reg none [⟨(some 1), none, .box (.t 0)⟩,
     ⟨(some 2), none, .mv (.k (V.b false))⟩] [1])
  (.seq (.seq (.reg none [⟨(some 6), none, .ld true 5 (.t 1)⟩,
      ⟨(some 7), none, .call 32 true [(.t 6)]⟩,
      ⟨(some 8), none, .not (.t 7)⟩,
      ⟨(some 9), none, .mv (.t 8)⟩,
      ⟨(some 10), (some (9, false)), .ld true 5 (.t 1)⟩,
      ⟨(some 11), (some (9, false)), .call 56 true [(.t 10)]⟩,
      ⟨(some 12), none, .pick (.t 9) (.k (V.b true)) (.t 11)⟩] [1, 12])
   (.cond (.t 12)
    (.seq (.reg none [⟨(some 2), none, .mv (.k (V.b false))⟩] [2])
     (.ret))
    (.skip)))
  (.seq (.seq (.reg none [⟨(some 13), none, .fa 0 (.t 1)⟩,
      ⟨(some 14), none, .ld false 1 (.t 13)⟩,
      ⟨(some 15), none, .len false (.t 14)⟩,
      ⟨(some 16), none, .mv (.k (V.i 0))⟩] [1, 14, 15, 16])
   (.bl 0 (.seq (.reg none [⟨(some 17), none, .bin .lss .i (.t 16) (.t 15)⟩] [1, 14, 15, 16, 17])
    (.seq (.cond (.t 17)
      (.skip)
      (.exit 0))
    (.seq (.block 1 (.seq (.reg none [⟨(some 18), none, .ia 2 (.t 14) (.t 16)⟩,
         ⟨(some 19), none, .ld true 2 (.t 18)⟩,
         ⟨(some 4), none, .alloc [.r (.v (.int .i64 0)), .r (.v (.int .i64 0))]⟩,
         ⟨none, none, .st 2 (.t 4) (.t 19)⟩] [1, 4, 14, 15, 16])
      (.seq (.reg none [⟨(some 20), none, .ld true 2 (.t 4)⟩,
         ⟨(some 21), none, .bld [.r (.v (.int .i64 0)), .r (.v (.int .i64 0))] []⟩,
         ⟨(some 22), none, .eqs true [.i, .i] (.t 20) (.t 21)⟩] [1, 4, 14, 15, 16, 22])
      (.cond (.t 22)
       (.seq (.reg (some [[], [0], [], [2], [], [4], [2, 3, 4, 5], [2, 3, 4, 5, 6], [0, 1, 2, 3, 4, 5, 6, 7], [0, 1, 2, 3, 4, 5, 6, 7, 8], [], [0, 1, 2, 3, 4, 5, 6, 7, 8, 9, 10]]) [⟨(some 23), none, .fa 1 (.t 1)⟩,
           ⟨(some 24), none, .ld false 1 (.t 23)⟩,
           ⟨(some 25), none, .fa 3 (.t 1)⟩,
           ⟨(some 26), none, .ld false 1 (.t 25)⟩,
           ⟨(some 27), none, .fa 1 (.t 4)⟩,
           ⟨(some 28), none, .ld false 1 (.t 27)⟩,
           ⟨(some 29), none, .ia 1 (.t 26) (.t 28)⟩,
           ⟨(some 30), none, .ld false 1 (.t 29)⟩,
           ⟨(some 31), none, .ia 3 (.t 24) (.t 30)⟩,
           ⟨(some 32), none, .ld true 3 (.t 31)⟩,
           ⟨(some 5), none, .alloc [.r (.v (.int .i64 0)), .r (.v (.int .i64 0)), .n 2]⟩,
           ⟨none, none, .st 3 (.t 5) (.t 32)⟩] [1, 5, 14, 15, 16])
        (.seq (.reg none [⟨(some 33), none, .fa 2 (.t 5)⟩,
           ⟨(some 34), none, .ld false 1 (.t 33)⟩,
           ⟨(some 35), none, .len false (.t 34)⟩,
           ⟨(some 36), none, .fa 1 (.t 5)⟩,
           ⟨(some 37), none, .ld false 1 (.t 36)⟩,
           ⟨(some 38), none, .bin .lss .i (.t 35) (.t 37)⟩] [1, 14, 15, 16, 38])
        (.cond (.t 38)
         (.seq (.reg none [⟨(some 2), none, .mv (.k (V.b false))⟩] [2])
          (.ret))
         (.skip))))
       (.skip)))))
    (.reg none [⟨(some 39), none, .bin .add .i (.t 16) (.k (V.i 1))⟩,
      ⟨(some 16), none, .mv (.t 39)⟩] [1, 14, 15, 16]))))))
  (.seq (.reg (some [[], [0], [0, 1], [0, 1, 2], [0, 1, 2, 3], [0, 1, 2, 3, 4], [0, 1, 2, 3], [0, 1, 2, 3, 6], [0, 1, 2, 3, 6, 7], [0, 1, 2, 3, 4, 5, 6, 7, 8], [0, 1, 2, 3, 4, 5, 6, 7, 8, 9], [0, 1, 2, 3, 4, 5, 6, 7, 8, 9, 10]]) [⟨(some 40), none, .ld true 5 (.t 1)⟩,
     ⟨(some 41), none, .call 27 true [(.t 40)]⟩,
     ⟨(some 42), none, .bin .eql .i (.t 41) (.k (V.i 0))⟩,
     ⟨(some 43), none, .mv (.t 42)⟩,
     ⟨(some 44), (some (43, false)), .ld true 5 (.t 1)⟩,
     ⟨(some 45), (some (43, false)), .call 30 true [(.t 44)]⟩,
     ⟨(some 46), (some (43, false)), .fa 0 (.t 1)⟩,
     ⟨(some 47), (some (43, false)), .ld false 1 (.t 46)⟩,
     ⟨(some 48), (some (43, false)), .len false (.t 47)⟩,
     ⟨(some 49), (some (43, false)), .bin .eql .i (.t 45) (.t 48)⟩,
     ⟨(some 50), none, .pick (.t 43) (.k (V.b true)) (.t 49)⟩,
     ⟨(some 2), none, .mv (.t 50)⟩] [2])
  (.ret))))
def rv55 : List RV := [.t 2]
open Go.Proofs Go.IntWalk
set_option linter.unusedVariables false
set_option maxRecDepth 100000
set_option maxHeartbeats 4000000
def I_IsStuck_l1 (g : G) (t : TE) (a0 : Centre) : List Item → Option (LR Bool Unit)
  | [] =>
    some (LR.out ())
  | z1 :: ls1 =>
    br (g.all [(g.eq z1.Id 0), (g.eq z1.Dest 0)])
    (
     I_IsStuck_l1 g t a0 ls1)
    (
     gd (((0 : Int) ≤ z1.Dest)) <|
     gt a0.Plan (g.nat z1.Dest) fun x3 =>
     gd (((0 : Int) ≤ x3)) <|
     gt a0.Chutes (g.nat x3) fun x4 =>
     br (g.lt (g.llen (t.r_Item x4.Held)) x4.Room)
     (
      some (LR.ret false))
     (
      I_IsStuck_l1 g t a0 ls1))
def I_IsStuck (g : G) (t : TE) (a0 : Centre) : Option Bool :=
  cl (I_IsCentre g t a0) fun x1 =>
  br x1
  (
   cl (I_IsDrained g t a0) fun x2 =>
   br x2
   (
    some false)
   (
    cl (I_IsStuck_l1 g t a0 a0.Belt) fun o1 => lr o1 fun y1 =>
    lP (I_CountWait g t a0) fun x5 =>
    br (g.eq x5 0)
    (
     some true)
    (
     lP (I_CountBelt g t a0) fun x6 =>
     some (g.eq x6 (g.llen (t.r_Item a0.Belt))))))
  (
   some false)
theorem fit55 : codeFit Try.prog Try.f55.ntmps (Try.f55.body.getD .skip) ir55 = true := by kernel_rfl
theorem c_I_IsStuck {g : G} {t : TE} {a0 : Centre} {r : Bool} (hg : g = G.real) (ht : t = TE.real) (h : I_IsStuck g t a0 = some r) : Fn Try.prog 55 [.g (Centre.rs t a0)] (.c (.r (.v (.bool r)))) := by
  obtain ⟨X, hX⟩ := hide (.c (.r (.v (.bool r))) : X)
  rw [← hX]
  refine fn_of (rvs := rv55) (j := ir55) Try.func55 rfl fit55 (Nat.le_of_ble_eq_true rfl) (by kernel_rfl) prog_mixed ?_
  intro g2 F hg2 hF
  obtain rfl : g2 = g := hg2.unique.trans hg.symm
  clear hg2
  obtain ⟨wrap, lt, le, eq, quo, rem, band, bor, bxor, shl, shr, nat, int, add, sub, mul, cat, seq, slt, sub3, byte, llen, nadd, nsub, dlen, dapp, dset, drep, rd, rda, up, rsub, dsub, all, sle, slen, hasI, putI, hasS, putS, imin, imax, fzc⟩ := g2
  obtain ⟨r_Item, d_Item, r_Chute, d_Chute, r_Inlet, d_Inlet, r_I64, d_I64, r_U8, d_U8, d_InletF⟩ := t
  obtain ⟨a0_Belt, a0_Chutes, a0_Inlets, a0_Plan, a0_Now⟩ := a0
  unfold I_IsStuck at h
  try dsimp only at h
  cbv
  obtain ⟨x1, hx1, h⟩ := of_cl h
  try dsimp only at h
  refine ACall.mk _ _ rfl (hF _ _ _ (c_I_IsCentre hg ht hx1)) (.inl rfl) (Nat.le_of_ble_eq_true rfl) ?_
  cbv
  cases hb1 : x1 with
  | true =>
    rw [br_true hb1] at h
    cbv
    try (rw [hb1]; cbv)
    obtain ⟨x2, hx2, h⟩ := of_cl h
    try dsimp only at h
    refine ACall.mk _ _ rfl (hF _ _ _ (c_I_IsDrained hg ht hx2)) (.inl rfl) (Nat.le_of_ble_eq_true rfl) ?_
    cbv
    try (rw [hb1]; cbv)
    cases hb2 : x2 with
    | true =>
      rw [br_true hb2] at h
      cbv
      obtain rfl := Option.some.inj h
      exact ARet.mk trivial hX.symm
    | false =>
      rw [br_false hb2] at h
      cbv
      obtain ⟨o1, ho1, h⟩ := of_cl h
      try dsimp only at h
      try rw [hg] at ho1
      try rw [ht] at ho1
      refine ABL.mk { p : Nat × Int // p.1 ≤ a0_Belt.length ∧ p.2 = ((p.1 : Nat) : Int) ∧ I_IsStuck_l1 G.real TE.real (Centre.mk a0_Belt a0_Chutes a0_Inlets a0_Plan a0_Now) (List.drop p.1 a0_Belt) = some o1 } (fun ⟨⟨k1, v1⟩, _⟩ => ({ sl := [(1, .c (.p 0 5 0 0)), (14, .c (.r (.s 2 (r_Item a0_Belt)))), (15, .c (.r (.v (.int .i64 (llen (r_Item a0_Belt)))))), (16, .c (.r (.v (.int .i64 v1))))], tab := [(0, some (.foc 5 [] [.r (.s 2 (r_Item a0_Belt)), .r (.s 3 (r_Chute a0_Chutes)), .r (.s 2 (r_Inlet a0_Inlets)), .r (.s 1 (r_I64 a0_Plan)), .r (.v (.int .i64 a0_Now))] []))] } : St)) 1 (fun p => a0_Belt.length - p.1.1) ⟨(0, 0), Nat.zero_le _, rfl, ho1⟩ (Unit) (fun _ => ({ sl := [(1, .c (.p 0 5 0 0))], tab := [(0, some (.foc 5 [] [.r (.s 2 (r_Item a0_Belt)), .r (.s 3 (r_Chute a0_Chutes)), .r (.s 2 (r_Inlet a0_Inlets)), .r (.s 1 (r_I64 a0_Plan)), .r (.v (.int .i64 a0_Now))] []))] } : St)) 1 (fun y => o1 = LR.out y) ?_ ?_ ?_
      · refine Wk.of [(0, some 0)] rfl rfl ?_ ?_
        · cbv
          all_goals exact ⟨⟨_, rfl, rfl⟩, ⟨_, rfl, rfl⟩, ⟨_, rfl, rfl⟩, ⟨_, rfl, rfl⟩, trivial⟩
        · cbv
          all_goals exact ⟨⟨_, rfl, _, rfl, rfl, rfl, rfl, rfl, rfl, trivial⟩, trivial⟩
      · rintro ⟨⟨k1, v1⟩, hk1, hi1, h_1⟩ hq1
        have hm1 := (hq1.1 14 _ _ rfl)
        try dsimp only at hk1 hi1 h_1
        clear hq1
        cbv
        by_cases hc1_ : k1 < a0_Belt.length
        · have hb3 : lt v1 (llen (r_Item a0_Belt)) = true := ltL_true_Item hg ht hi1 hc1_
          have hs1 := stepL_Item hg ht hi1 hc1_ hm1
          obtain ⟨z1, hz1⟩ := some_of_lt hc1_
          rw [drop_of_some hz1] at h_1
          rw [I_IsStuck_l1] at h_1
          obtain ⟨z1_Id, z1_Dest⟩ := z1
          try rw [← hg] at h_1
          try rw [← ht] at h_1
          try dsimp only at h_1
          rw [hb3]
          cbv
          refine AStep.mk (nn_L hi1) ?_
          cbv
          refine AGet.mk _ (r_getL_Item hg ht hi1 hz1) ?_
          cbv
          cases hb4 : (all [(eq z1_Id 0), (eq z1_Dest 0)]) with
          | true =>
            rw [br_true hb4] at h_1
            cbv
            try rw [hg] at h_1
            try rw [ht] at h_1
            refine ⟨⟨(k1 + 1, (wrap .i64 (add v1 1))), hc1_, hs1, h_1⟩, Wk.of [(0, some 0)] rfl rfl ?_ ?_, meas_L hc1_⟩
            · cbv
              all_goals exact ⟨⟨_, rfl, rfl⟩, ⟨_, rfl, rfl⟩, ⟨_, rfl, rfl⟩, ⟨_, rfl, rfl⟩, trivial⟩
            · cbv
              all_goals exact ⟨⟨_, rfl, _, rfl, rfl, rfl, rfl, rfl, rfl, trivial⟩, trivial⟩
          | false =>
            rw [br_false hb4] at h_1
            cbv
            obtain ⟨hc1, h_1⟩ := of_gd h_1
            refine AStep.mk hc1 ?_
            cbv
            obtain ⟨x3, hx3, h_1⟩ := of_gt h_1
            try dsimp only at h_1
            refine AGet.mk _ (r_get_I64 hg ht hx3) ?_
            cbv
            obtain ⟨hc2, h_1⟩ := of_gd h_1
            refine AStep.mk hc2 ?_
            cbv
            obtain ⟨x4, hx4, h_1⟩ := of_gt h_1
            obtain ⟨x4_Cell, x4_Room, x4_Held⟩ := x4
            try dsimp only at h_1
            refine AGet.mk _ (r_get_Chute hg ht hx4) ?_
            cbv
            cases hb5 : (lt (llen (r_Item x4_Held)) x4_Room) with
            | true =>
              rw [br_true hb5] at h_1
              cbv
              obtain rfl := Option.some.inj h_1
              try dsimp only [lr, lrL, lrp, lrpL] at h
              obtain rfl := Option.some.inj h
              exact ARet.mk trivial hX.symm
            | false =>
              rw [br_false hb5] at h_1
              cbv
              try rw [hg] at h_1
              try rw [ht] at h_1
              refine ⟨⟨(k1 + 1, (wrap .i64 (add v1 1))), hc1_, hs1, h_1⟩, Wk.of [(0, some 0)] rfl rfl ?_ ?_, meas_L hc1_⟩
              · cbv
                all_goals exact ⟨⟨_, rfl, rfl⟩, ⟨_, rfl, rfl⟩, ⟨_, rfl, rfl⟩, ⟨_, rfl, rfl⟩, trivial⟩
              · cbv
                all_goals exact ⟨⟨_, rfl, _, rfl, rfl, rfl, rfl, rfl, rfl, trivial⟩, trivial⟩
        · have hb3 : lt v1 (llen (r_Item a0_Belt)) = false := ltL_false_Item hg ht hi1 hc1_
          rw [List.drop_of_length_le (Nat.le_of_not_lt hc1_)] at h_1
          rw [I_IsStuck_l1] at h_1
          try rw [← hg] at h_1
          try rw [← ht] at h_1
          try dsimp only at h_1
          rw [hb3]
          cbv
          refine ⟨(), Wk.of [(0, some 0)] rfl rfl ?_ ?_, (Option.some.inj h_1).symm⟩
          · cbv
            all_goals exact ⟨⟨_, rfl, rfl⟩, trivial⟩
          · cbv
            all_goals exact ⟨⟨_, rfl, _, rfl, rfl, rfl, rfl, rfl, rfl, trivial⟩, trivial⟩
      · rintro _ hy1
        replace hy1 := hy1.symm
        subst hy1
        try dsimp only [lr, lrL, lrp, lrpL] at h
        cbv
        obtain ⟨x5, hx5, h⟩ := of_lP h
        try dsimp only at h
        refine ACall.mk _ _ rfl (hF _ _ _ (c_I_CountWait hg ht hx5)) (.inl rfl) (Nat.le_of_ble_eq_true rfl) ?_
        cbv
        cases hb6 : (eq x5 0) with
        | true =>
          rw [br_true hb6] at h
          cbv
          try (rw [hb6]; cbv)
          try (rw [hb6]; cbv)
          try (rw [hb6]; cbv)
          try (rw [hb6]; cbv)
          try (rw [hb6]; cbv)
          try (rw [hb6]; cbv)
          obtain rfl := Option.some.inj h
          exact ARet.mk trivial hX.symm
        | false =>
          rw [br_false hb6] at h
          cbv
          try (rw [hb6]; cbv)
          obtain ⟨x6, hx6, h⟩ := of_lP h
          try dsimp only at h
          refine ACall.mk _ _ rfl (hF _ _ _ (c_I_CountBelt hg ht hx6)) (.inl rfl) (Nat.le_of_ble_eq_true rfl) ?_
          cbv
          try (rw [hb6]; cbv)
          try (rw [hb6]; cbv)
          try (rw [hb6]; cbv)
          try (rw [hb6]; cbv)
          try (rw [hb6]; cbv)
          obtain rfl := Option.some.inj h
          exact ARet.mk trivial hX.symm
  | false =>
    rw [br_false hb1] at h
    cbv
    try (rw [hb1]; cbv)
    try (rw [hb1]; cbv)
    obtain rfl := Option.some.inj h
    exact ARet.mk trivial hX.symm
end Go.Vs
namespace Go.Vs
set_option maxRecDepth 100000
def ir11 : J :=
  .seq (.reg none [⟨(some 2), none, .mv (.k (V.b false))⟩] [0])
  (.seq (.seq (.reg none [⟨(some 12), none, .mv (.t 0)⟩,
      ⟨(some 13), none, .call 33 true [(.t 12)]⟩] [0, 13])
   (.cond (.t 13)
    (.seq (.reg none [⟨(some 2), none, .mv (.k (V.b true))⟩] [2])
     (.ret))
    (.skip)))
  (.seq (.reg none [⟨(some 15), none, .mv (.t 0)⟩,
     ⟨(some 16), none, .call 53 false [(.t 15)]⟩,
     ⟨(some 14), none, .mv (.t 16)⟩,
     ⟨(some 17), none, .ext 0 (.t 14)⟩,
     ⟨(some 18), none, .ext 1 (.t 14)⟩,
     ⟨(some 3), none, .alloc [.n 2, .n 3, .n 2, .n 1, .r (.v (.int .i64 0))]⟩,
     ⟨none, none, .st 5 (.t 3) (.t 17)⟩,
     ⟨(some 4), none, .mv (.t 18)⟩] [3])
  (.seq (.seq (.reg none [⟨(some 19), none, .ld true 5 (.t 3)⟩,
      ⟨(some 20), none, .call 31 true [(.t 19)]⟩,
      ⟨(some 21), none, .not (.t 20)⟩] [3, 21])
   (.cond (.t 21)
    (.seq (.reg none [⟨(some 22), none, .ld true 5 (.t 3)⟩,
        ⟨(some 23), none, .call 54 true [(.t 22), (.k (V.i 1000))]⟩,
        ⟨(some 24), none, .bin .eql .i (.t 23) (.k (V.i (-1)))⟩,
        ⟨(some 2), none, .mv (.t 24)⟩] [2])
     (.ret))
    (.skip)))
  (.seq (.reg none [⟨(some 25), none, .fa 1 (.t 3)⟩,
     ⟨(some 26), none, .ld false 1 (.t 25)⟩,
     ⟨(some 27), none, .len false (.t 26)⟩,
     ⟨(some 28), none, .mk 1 8 [.r (.v (.int .i64 0))] (.t 27)⟩,
     ⟨(some 5), none, .mv (.t 28)⟩] [3, 5])
  (.seq (.seq (.reg none [⟨(some 6), none, .mv (.k (V.i 0))⟩] [3, 5, 6])
   (.bl 0 (.seq (.seq (.reg none [⟨(some 29), none, .mv (.t 6)⟩,
        ⟨(some 30), none, .fa 1 (.t 3)⟩,
        ⟨(some 31), none, .ld false 1 (.t 30)⟩,
        ⟨(some 32), none, .len false (.t 31)⟩,
        ⟨(some 33), none, .bin .lss .i (.t 29) (.t 32)⟩] [3, 5, 6, 33])
     (.cond (.t 33)
      (.skip)
      (.exit 0)))
    (.seq (.block 1 (.gh (.ga (.reg (some [[], [], [], [2], [], [2, 3, 4], [2, 3, 4, 5], [2, 3, 4, 5, 6], [], [8], [], [8, 9, 10], [8, 9, 10, 11], [8, 9, 10, 11, 12], [8, 9, 10, 11, 12, 13], [2, 3, 4, 5, 6, 7, 8, 9, 10, 11, 12, 13, 14], [0, 1, 2, 3, 4, 5, 6, 7, 8, 9, 10, 11, 12, 13, 14, 15], [0, 1, 2, 3, 4, 5, 6, 7, 8, 9, 10, 11, 12, 13, 14, 15, 16]]) [⟨(some 36), none, .mv (.t 5)⟩,
         ⟨(some 37), none, .mv (.t 6)⟩,
         ⟨(some 38), none, .fa 1 (.t 3)⟩,
         ⟨(some 39), none, .ld false 1 (.t 38)⟩,
         ⟨(some 40), none, .mv (.t 6)⟩,
         ⟨(some 41), none, .ia 3 (.t 39) (.t 40)⟩,
         ⟨(some 42), none, .fa 1 (.t 41)⟩,
         ⟨(some 43), none, .ld false 1 (.t 42)⟩,
         ⟨(some 44), none, .fa 1 (.t 3)⟩,
         ⟨(some 45), none, .ld false 1 (.t 44)⟩,
         ⟨(some 46), none, .mv (.t 6)⟩,
         ⟨(some 47), none, .ia 3 (.t 45) (.t 46)⟩,
         ⟨(some 48), none, .fa 2 (.t 47)⟩,
         ⟨(some 49), none, .ld false 1 (.t 48)⟩,
         ⟨(some 50), none, .len false (.t 49)⟩,
         ⟨(some 51), none, .bin .sub .i (.t 43) (.t 50)⟩,
         ⟨(some 52), none, .ia 1 (.t 36) (.t 37)⟩,
         ⟨none, none, .st 1 (.t 52) (.t 51)⟩] [3, 5, 6]))))
    (.reg none [⟨(some 34), none, .mv (.t 6)⟩,
      ⟨(some 35), none, .bin .add .i (.t 34) (.k (V.i 1))⟩,
      ⟨(some 6), none, .mv (.t 35)⟩] [3, 5, 6])))))
  (.seq (.reg none [⟨(some 53), none, .bsl 2 []⟩,
     ⟨(some 54), none, .fa 0 (.t 3)⟩,
     ⟨(some 55), none, .ld false 1 (.t 54)⟩,
     ⟨(some 56), none, .app 2 16 false (.t 53) (.t 55)⟩,
     ⟨(some 7), none, .mv (.t 56)⟩] [3, 5, 7])
  (.seq (.seq (.reg none [⟨(some 8), none, .mv (.k (V.i 0))⟩] [3, 5, 7, 8])
   (.bl 2 (.seq (.seq (.reg none [⟨(some 57), none, .mv (.t 8)⟩,
        ⟨(some 58), none, .fa 2 (.t 3)⟩,
        ⟨(some 59), none, .ld false 1 (.t 58)⟩,
        ⟨(some 60), none, .len false (.t 59)⟩,
        ⟨(some 61), none, .bin .lss .i (.t 57) (.t 60)⟩] [3, 5, 7, 8, 61])
     (.cond (.t 61)
      (.skip)
      (.exit 2)))
    (.seq (.block 3 (.gh (.ga (.reg none [⟨(some 64), none, .mv (.t 7)⟩,
         ⟨(some 65), none, .fa 2 (.t 3)⟩,
         ⟨(some 66), none, .ld false 1 (.t 65)⟩,
         ⟨(some 67), none, .mv (.t 8)⟩,
         ⟨(some 68), none, .ia 2 (.t 66) (.t 67)⟩,
         ⟨(some 69), none, .fa 1 (.t 68)⟩,
         ⟨(some 70), none, .ld false 1 (.t 69)⟩,
         ⟨(some 71), none, .app 2 16 false (.t 64) (.t 70)⟩,
         ⟨(some 7), none, .mv (.t 71)⟩] [3, 5, 7, 8]))))
    (.reg none [⟨(some 62), none, .mv (.t 8)⟩,
      ⟨(some 63), none, .bin .add .i (.t 62) (.k (V.i 1))⟩,
      ⟨(some 8), none, .mv (.t 63)⟩] [3, 5, 7, 8])))))
  (.seq (.seq (.reg none [⟨(some 9), none, .mv (.k (V.i 0))⟩] [3, 5, 7, 9])
   (.bl 4 (.seq (.seq (.reg none [⟨(some 72), none, .mv (.t 9)⟩,
        ⟨(some 73), none, .mv (.t 7)⟩,
        ⟨(some 74), none, .len false (.t 73)⟩,
        ⟨(some 75), none, .bin .lss .i (.t 72) (.t 74)⟩] [3, 5, 7, 9, 75])
     (.cond (.t 75)
      (.skip)
      (.exit 4)))
    (.seq (.block 5 (.seq (.reg none [⟨(some 78), none, .mv (.t 7)⟩,
         ⟨(some 79), none, .mv (.t 9)⟩,
         ⟨(some 80), none, .ia 2 (.t 78) (.t 79)⟩,
         ⟨(some 81), none, .fa 0 (.t 80)⟩,
         ⟨(some 82), none, .ld false 1 (.t 81)⟩,
         ⟨(some 83), none, .bin .neq .i (.t 82) (.k (V.i 0))⟩] [3, 5, 7, 9, 83])
      (.cond (.t 83)
       (.reg (some [[], [], [1], [], [], [3, 4], [3, 4, 5], [3, 4, 5, 6], [1, 2, 3, 4, 5, 6, 7], [1, 2, 3, 4, 5, 6, 7, 8], [], [], [11], [], [], [13, 14], [13, 14, 15], [13, 14, 15, 16], [11, 12, 13, 14, 15, 16, 17], [11, 12, 13, 14, 15, 16, 17, 18], [10, 11, 12, 13, 14, 15, 16, 17, 18, 19], [10, 11, 12, 13, 14, 15, 16, 17, 18, 19, 20], [10, 11, 12, 13, 14, 15, 16, 17, 18, 19, 20, 21], [0, 1, 2, 3, 4, 5, 6, 7, 8, 9, 10, 11, 12, 13, 14, 15, 16, 17, 18, 19, 20, 21, 22], [0, 1, 2, 3, 4, 5, 6, 7, 8, 9, 10, 11, 12, 13, 14, 15, 16, 17, 18, 19, 20, 21, 22, 23]]) [⟨(some 84), none, .mv (.t 5)⟩,
          ⟨(some 85), none, .fa 3 (.t 3)⟩,
          ⟨(some 86), none, .ld false 1 (.t 85)⟩,
          ⟨(some 87), none, .mv (.t 7)⟩,
          ⟨(some 88), none, .mv (.t 9)⟩,
          ⟨(some 89), none, .ia 2 (.t 87) (.t 88)⟩,
          ⟨(some 90), none, .fa 1 (.t 89)⟩,
          ⟨(some 91), none, .ld false 1 (.t 90)⟩,
          ⟨(some 92), none, .ia 1 (.t 86) (.t 91)⟩,
          ⟨(some 93), none, .ld false 1 (.t 92)⟩,
          ⟨(some 94), none, .mv (.t 5)⟩,
          ⟨(some 95), none, .fa 3 (.t 3)⟩,
          ⟨(some 96), none, .ld false 1 (.t 95)⟩,
          ⟨(some 97), none, .mv (.t 7)⟩,
          ⟨(some 98), none, .mv (.t 9)⟩,
          ⟨(some 99), none, .ia 2 (.t 97) (.t 98)⟩,
          ⟨(some 100), none, .fa 1 (.t 99)⟩,
          ⟨(some 101), none, .ld false 1 (.t 100)⟩,
          ⟨(some 102), none, .ia 1 (.t 96) (.t 101)⟩,
          ⟨(some 103), none, .ld false 1 (.t 102)⟩,
          ⟨(some 104), none, .ia 1 (.t 94) (.t 103)⟩,
          ⟨(some 105), none, .ld false 1 (.t 104)⟩,
          ⟨(some 106), none, .bin .sub .i (.t 105) (.k (V.i 1))⟩,
          ⟨(some 107), none, .ia 1 (.t 84) (.t 93)⟩,
          ⟨none, none, .st 1 (.t 107) (.t 106)⟩] [3, 5, 7, 9])
       (.skip))))
    (.reg none [⟨(some 76), none, .mv (.t 9)⟩,
      ⟨(some 77), none, .bin .add .i (.t 76) (.k (V.i 1))⟩,
      ⟨(some 9), none, .mv (.t 77)⟩] [3, 5, 7, 9])))))
  (.seq (.seq (.reg none [⟨(some 10), none, .mv (.k (V.i 0))⟩] [3, 5, 10])
   (.bl 6 (.seq (.seq (.reg none [⟨(some 108), none, .mv (.t 10)⟩,
        ⟨(some 109), none, .mv (.t 5)⟩,
        ⟨(some 110), none, .len false (.t 109)⟩,
        ⟨(some 111), none, .bin .lss .i (.t 108) (.t 110)⟩] [3, 5, 10, 111])
     (.cond (.t 111)
      (.skip)
      (.exit 6)))
    (.seq (.block 7 (.seq (.reg none [⟨(some 114), none, .mv (.t 5)⟩,
         ⟨(some 115), none, .mv (.t 10)⟩,
         ⟨(some 116), none, .ia 1 (.t 114) (.t 115)⟩,
         ⟨(some 117), none, .ld false 1 (.t 116)⟩,
         ⟨(some 118), none, .bin .lss .i (.t 117) (.k (V.i 0))⟩] [3, 5, 10, 118])
      (.cond (.t 118)
       (.seq (.reg none [⟨(some 2), none, .mv (.k (V.b true))⟩] [2])
        (.ret))
       (.skip))))
    (.reg none [⟨(some 112), none, .mv (.t 10)⟩,
      ⟨(some 113), none, .bin .add .i (.t 112) (.k (V.i 1))⟩,
      ⟨(some 10), none, .mv (.t 113)⟩] [3, 5, 10])))))
  (.seq (.reg none [⟨(some 119), none, .ld true 5 (.t 3)⟩,
     ⟨(some 120), none, .call 54 true [(.t 119), (.k (V.i 1000))]⟩,
     ⟨(some 11), none, .mv (.t 120)⟩] [3, 11])
  (.seq (.seq (.reg (some [[], [0], [0, 1], [0, 1, 2], [0, 1, 2], [0, 1, 2, 4], [0, 1, 2], [0, 1, 2, 4, 5, 6], [0, 1, 2, 4, 5, 6, 7], [0, 1, 2], [0, 1, 2, 9], [0, 1, 2, 9, 10], [0, 1, 2, 4, 5, 6, 7, 8, 9, 10, 11], [0, 1, 2, 3, 4, 5, 6, 7, 8, 9, 10, 11, 12], [0, 1, 2, 3, 4, 5, 6, 7, 8, 9, 10, 11, 12, 13], [0, 1, 2, 3, 4, 5, 6, 7, 8, 9, 10, 11, 12, 13, 14], [0, 1, 2, 3, 4, 5, 6, 7, 8, 9, 10, 11, 12, 13, 14, 15], [0, 1, 2, 3, 4, 5, 6, 7, 8, 9, 10, 11, 12, 13, 14, 15, 16], [0, 1, 2, 3, 4, 5, 6, 7, 8, 9, 10, 11, 12, 13, 14, 15, 16, 17]]) [⟨(some 121), none, .mv (.t 11)⟩,
      ⟨(some 122), none, .bin .lss .i (.t 121) (.k (V.i 0))⟩,
      ⟨(some 123), none, .mv (.t 122)⟩,
      ⟨(some 124), (some (123, false)), .mv (.t 11)⟩,
      ⟨(some 125), (some (123, false)), .ld true 5 (.t 3)⟩,
      ⟨(some 126), (some (123, false)), .call 30 true [(.t 125)]⟩,
      ⟨(some 127), (some (123, false)), .ld true 5 (.t 3)⟩,
      ⟨(some 128), (some (123, false)), .call 27 true [(.t 127)]⟩,
      ⟨(some 129), (some (123, false)), .bin .add .i (.t 126) (.t 128)⟩,
      ⟨(some 130), (some (123, false)), .fa 0 (.t 3)⟩,
      ⟨(some 131), (some (123, false)), .ld false 1 (.t 130)⟩,
      ⟨(some 132), (some (123, false)), .len false (.t 131)⟩,
      ⟨(some 133), (some (123, false)), .bin .add .i (.t 129) (.t 132)⟩,
      ⟨(some 134), (some (123, false)), .bin .gtr .i (.t 124) (.t 133)⟩,
      ⟨(some 135), none, .pick (.t 123) (.k (V.b true)) (.t 134)⟩,
      ⟨(some 136), none, .mv (.t 135)⟩,
      ⟨(some 137), (some (136, false)), .ld true 5 (.t 3)⟩,
      ⟨(some 138), (some (136, false)), .call 55 true [(.t 137)]⟩,
      ⟨(some 139), none, .pick (.t 136) (.k (V.b true)) (.t 138)⟩] [3, 11, 139])
   (.cond (.t 139)
    (.seq (.reg none [⟨(some 2), none, .mv (.k (V.b false))⟩] [2])
     (.ret))
    (.skip)))
  (.seq (.reg none [⟨(some 140), none, .fa 4 (.t 3)⟩,
     ⟨(some 141), none, .ld false 1 (.t 140)⟩,
     ⟨(some 142), none, .bin .gtr .i (.t 141) (.k (V.i 90000))⟩,
     ⟨(some 143), none, .mv (.t 142)⟩,
     ⟨(some 144), (some (143, false)), .ld true 5 (.t 3)⟩,
     ⟨(some 145), (some (143, false)), .mv (.t 11)⟩,
     ⟨(some 146), (some (143, false)), .call 36 false [(.t 144), (.t 145)]⟩,
     ⟨(some 147), (some (143, false)), .call 56 true [(.t 146)]⟩,
     ⟨(some 148), none, .pick (.t 143) (.k (V.b true)) (.t 147)⟩,
     ⟨(some 2), none, .mv (.t 148)⟩] [2])
  (.ret)))))))))))))
def rv11 : List RV := [.t 2]
open Go.Proofs Go.IntWalk
set_option linter.unusedVariables false
set_option maxRecDepth 100000
set_option maxHeartbeats 4000000
def L_FnBeltDrains_l4 (g : G) (t : TE) (y3 : List Int) : Nat → Int → Option (LR Bool Unit)
  | 0, v4 =>
    some (LR.out ())
  | n4 + 1, v4 =>
    gt y3 (g.nat v4) fun x8 =>
    br (g.lt x8 0)
    (
     some (LR.ret true))
    (
     L_FnBeltDrains_l4 g t y3 n4 (g.wrap .i64 (g.add v4 1)))
def L_FnBeltDrains_l3 (g : G) (t : TE) (x2 : Centre × Int) (y2 : List Item) : Nat → Int → List Int → Option (List Int)
  | 0, v3, w3 =>
    some w3
  | n3 + 1, v3, w3 =>
    gt y2 (g.nat v3) fun x5 =>
    br (g.eq x5.Id 0)
    (
     L_FnBeltDrains_l3 g t x2 y2 n3 (g.wrap .i64 (g.add v3 1)) w3)
    (
     gd (((0 : Int) ≤ x5.Dest)) <|
     gt x2.1.Plan (g.nat x5.Dest) fun x6 =>
     gd (((0 : Int) ≤ x5.Dest)) <|
     gd (((0 : Int) ≤ x6 ∧ x6 < (((g.dlen (t.d_I64 w3)) : Nat) : Int))) <|
     gt w3 (g.nat x6) fun x7 =>
     gd (((0 : Int) ≤ x6 ∧ x6 < (((g.dlen (t.d_I64 w3)) : Nat) : Int))) <|
     lP (List.set w3 (g.nat x6) (g.wrap .i64 (g.sub x7 1))) fun (l6 : List Int) =>
     L_FnBeltDrains_l3 g t x2 y2 n3 (g.wrap .i64 (g.add v3 1)) l6)
def L_FnBeltDrains_l2 (g : G) (t : TE) : List Inlet → List Item → Option (List Item)
  | [], w2 =>
    some w2
  | z2 :: ls2, w2 =>
    gd (((w2.length + z2.Wait.length) * 16 ≤ 70368744177664)) <|
    lP (w2 ++ z2.Wait) fun (l5 : List Item) =>
    L_FnBeltDrains_l2 g t ls2 l5
def L_FnBeltDrains_l1 (g : G) (t : TE) : List Chute → Int → List Int → Option (List Int)
  | [], v1, w1 =>
    some w1
  | z1 :: ls1, v1, w1 =>
    gd (((0 : Int) ≤ v1 ∧ v1 < (((g.dlen (t.d_I64 w1)) : Nat) : Int))) <|
    gt w1 (g.nat v1) fun x4 =>
    lP (List.set w1 (g.nat v1) (g.wrap .i64 (g.sub z1.Room (g.llen (t.r_Item z1.Held))))) fun (l2 : List Int) =>
    L_FnBeltDrains_l1 g t ls1 (g.wrap .i64 (g.add v1 1)) l2
def L_FnBeltDrains (g : G) (t : TE) (a0 : List Int) : Option Bool :=
  lP (L_big g t a0) fun x1 =>
  br x1
  (
   some true)
  (
   cl (S_DrawTicksToDrain g t a0) fun x2 =>
   cl (S_IsCentre g t (Centre.mk x2.1.Belt x2.1.Chutes x2.1.Inlets x2.1.Plan x2.1.Now)) fun x3 =>
   br x3
   (
    gd (((0 : Int) ≤ (g.llen (t.r_Chute x2.1.Chutes)) ∧ 8 * (g.llen (t.r_Chute x2.1.Chutes)) ≤ 70368744177664 ∧ (g.llen (t.r_Chute x2.1.Chutes)) ≤ 4611686018427387904)) <|
    lP (List.replicate (g.nat (g.llen (t.r_Chute x2.1.Chutes))) 0) fun (l1 : List Int) =>
    cl (L_FnBeltDrains_l1 g t x2.1.Chutes 0 l1) fun y1 =>
    lP ([]) fun (l3 : List Item) =>
    gd (((l3.length + x2.1.Belt.length) * 16 ≤ 70368744177664)) <|
    lP (l3 ++ x2.1.Belt) fun (l4 : List Item) =>
    cl (L_FnBeltDrains_l2 g t x2.1.Inlets l4) fun y2 =>
    gd (((g.int (g.dlen (t.d_Item y2))) ≤ 4611686018427387904)) <|
    cl (L_FnBeltDrains_l3 g t x2 y2 (cntLt 0 (g.int (g.dlen (t.d_Item y2)))) 0 y1) fun y3 =>
    gd (((g.int (g.dlen (t.d_I64 y3))) ≤ 4611686018427387904)) <|
    cl (L_FnBeltDrains_l4 g t y3 (cntLt 0 (g.int (g.dlen (t.d_I64 y3)))) 0) fun o4 => lr o4 fun y4 =>
    cl (I_TicksToDrain g t (Centre.mk x2.1.Belt x2.1.Chutes x2.1.Inlets x2.1.Plan x2.1.Now) 1000) fun x9 =>
    br (g.lt x9 0)
    (
     some false)
    (
     lP (I_CountBelt g t (Centre.mk x2.1.Belt x2.1.Chutes x2.1.Inlets x2.1.Plan x2.1.Now)) fun x10 =>
     lP (I_CountWait g t (Centre.mk x2.1.Belt x2.1.Chutes x2.1.Inlets x2.1.Plan x2.1.Now)) fun x11 =>
     br (g.lt (g.wrap .i64 (g.add (g.wrap .i64 (g.add x10 x11)) (g.llen (t.r_Item x2.1.Belt)))) x9)
     (
      some false)
     (
      cl (I_IsStuck g t (Centre.mk x2.1.Belt x2.1.Chutes x2.1.Inlets x2.1.Plan x2.1.Now)) fun x12 =>
      br x12
      (
       some false)
      (
       br (g.lt 90000 x2.1.Now)
       (
        some true)
       (
        cl (I_RunCentre g t (Centre.mk x2.1.Belt x2.1.Chutes x2.1.Inlets x2.1.Plan x2.1.Now) x9) fun x13 =>
        cl (I_IsDrained g t x13) fun x14 =>
        some x14)))))
   (
    cl (I_TicksToDrain g t (Centre.mk x2.1.Belt x2.1.Chutes x2.1.Inlets x2.1.Plan x2.1.Now) 1000) fun x15 =>
    some (g.eq x15 (-1))))
theorem fit11 : codeFit Try.prog Try.f11.ntmps (Try.f11.body.getD .skip) ir11 = true := by kernel_rfl
theorem c_L_FnBeltDrains {g : G} {t : TE} {a0 : List Int} {r : Bool} (hg : g = G.real) (ht : t = TE.real) (h : L_FnBeltDrains g t a0 = some r) : Fn Try.prog 11 [.c (.s 1 (t.r_U8 a0))] (.c (.r (.v (.bool r)))) := by
  obtain ⟨X, hX⟩ := hide (.c (.r (.v (.bool r))) : X)
  rw [← hX]
  refine fn_of (rvs := rv11) (j := ir11) Try.func11 rfl fit11 (Nat.le_of_ble_eq_true rfl) (by kernel_rfl) prog_mixed ?_
  intro g2 F hg2 hF
  obtain rfl : g2 = g := hg2.unique.trans hg.symm
  clear hg2
  obtain ⟨wrap, lt, le, eq, quo, rem, band, bor, bxor, shl, shr, nat, int, add, sub, mul, cat, seq, slt, sub3, byte, llen, nadd, nsub, dlen, dapp, dset, drep, rd, rda, up, rsub, dsub, all, sle, slen, hasI, putI, hasS, putS, imin, imax, fzc⟩ := g2
  obtain ⟨r_Item, d_Item, r_Chute, d_Chute, r_Inlet, d_Inlet, r_I64, d_I64, r_U8, d_U8, d_InletF⟩ := t
  have hrda_Item : ∀ l, rda (d_Item l) = r_Item l := rda_Item hg ht
  have hrda_Chute : ∀ l, rda (d_Chute l) = r_Chute l := rda_Chute hg ht
  have hrda_Inlet : ∀ l, rda (d_Inlet l) = r_Inlet l := rda_Inlet hg ht
  have hrda_I64 : ∀ l, rda (d_I64 l) = r_I64 l := rda_I64 hg ht
  unfold L_FnBeltDrains at h
  try dsimp only at h
  cbv
  obtain ⟨x1, hx1, h⟩ := of_lP h
  try dsimp only at h
  refine ACall.mk _ _ rfl (hF _ _ _ (c_L_big hg ht hx1)) (.inl rfl) (Nat.le_of_ble_eq_true rfl) ?_
  cbv
  cases hb1 : x1 with
  | true =>
    rw [br_true hb1] at h
    cbv
    obtain rfl := Option.some.inj h
    exact ARet.mk trivial hX.symm
  | false =>
    rw [br_false hb1] at h
    cbv
    obtain ⟨x2, hx2, h⟩ := of_cl h
    obtain ⟨⟨x2_1_Belt, x2_1_Chutes, x2_1_Inlets, x2_1_Plan, x2_1_Now⟩, x2_2⟩ := x2
    try dsimp only at h
    refine ACallR.mk _ _ (.u [.g [.r (.s 2 (r_Item x2_1_Belt)), .r (.s 3 (r_Chute x2_1_Chutes)), .r (.s 2 (r_Inlet x2_1_Inlets)), .r (.s 1 (r_I64 x2_1_Plan)), .r (.v (.int .i64 x2_1_Now))], .c (.r (.v (.int .i64 x2_2)))]) rfl (hF _ _ _ (c_S_DrawTicksToDrain hg ht hx2)) (.inl rfl) (Nat.le_of_ble_eq_true rfl) (by cbv; (try simp only [hrda_Chute, hrda_I64, hrda_Inlet, hrda_Item])) ?_
    cbv
    obtain ⟨x3, hx3, h⟩ := of_cl h
    try dsimp only at h
    refine ACall.mk _ _ rfl (hF _ _ _ (c_S_IsCentre hg ht hx3)) (.inl rfl) (Nat.le_of_ble_eq_true rfl) ?_
    cbv
    cases hb2 : x3 with
    | true =>
      rw [br_true hb2] at h
      cbv
      obtain ⟨hc8, h⟩ := of_gd h
      refine AStep.mk (mk_ok hc8) ?_
      cbv
      obtain ⟨l1, hl1, h⟩ := of_lP h
      try dsimp only at h
      refine ANew.mk (d_I64 l1) (dlen (d_I64 l1)) (by rw [← hl1]; exact drep_I64 hg ht _ 0) (by rw [← hl1]; exact drepn_I64 hg ht _ 0) ?_
      cbv
      obtain ⟨o1, ho1, h⟩ := of_cl h
      try dsimp only at h
      try rw [hg] at ho1
      try rw [ht] at ho1
      refine ABL.mk { p : Nat × Int × List Int // p.1 ≤ x2_1_Chutes.length ∧ p.2.1 = ((p.1 : Nat) : Int) ∧ L_FnBeltDrains_l1 G.real TE.real (List.drop p.1 x2_1_Chutes) p.2.1 p.2.2 = some o1 } (fun ⟨⟨k1, v1, w1⟩, _⟩ => ({ sl := [(3, .c (.p 0 5 0 0)), (5, .c (.f 1 1 0 (dlen (d_I64 w1)))), (6, .c (.r (.v (.int .i64 v1))))], tab := [(0, some (.foc 5 [] [.r (.s 2 (r_Item x2_1_Belt)), .r (.s 3 (r_Chute x2_1_Chutes)), .r (.s 2 (r_Inlet x2_1_Inlets)), .r (.s 1 (r_I64 x2_1_Plan)), .r (.v (.int .i64 x2_1_Now))] [])), (1, some (.arr 1 (d_I64 w1)))] } : St)) 2 (fun p => x2_1_Chutes.length - p.1.1) ⟨(0, 0, l1), Nat.zero_le _, rfl, ho1⟩ (List Int) (fun y1 => ({ sl := [(3, .c (.p 0 5 0 0)), (5, .c (.f 1 1 0 (dlen (d_I64 y1))))], tab := [(0, some (.foc 5 [] [.r (.s 2 (r_Item x2_1_Belt)), .r (.s 3 (r_Chute x2_1_Chutes)), .r (.s 2 (r_Inlet x2_1_Inlets)), .r (.s 1 (r_I64 x2_1_Plan)), .r (.v (.int .i64 x2_1_Now))] [])), (1, some (.arr 1 (d_I64 y1)))] } : St)) 2 (fun y => o1 = y) ?_ ?_ ?_
      · refine Wk.of [(0, some 128), (1, some 272)] rfl rfl ?_ ?_
        · cbv
          all_goals exact ⟨⟨_, rfl, rfl⟩, ⟨_, rfl, rfl⟩, ⟨_, rfl, rfl⟩, trivial⟩
        · cbv
          all_goals exact ⟨⟨_, rfl, _, rfl, rfl, rfl, rfl, rfl, rfl, trivial⟩, ⟨_, rfl, rfl⟩, trivial⟩
      · rintro ⟨⟨k1, v1, w1⟩, hk1, hi1, h_1⟩ hq1
        have hm1 := (hq1.2.2.1 0 _ _ _ _ 1 _ _ rfl rfl)
        try dsimp only at hk1 hi1 h_1
        clear hq1
        cbv
        by_cases hc1_ : k1 < x2_1_Chutes.length
        · have hb3 : lt v1 (llen (r_Chute x2_1_Chutes)) = true := ltL_true_Chute hg ht hi1 hc1_
          have hs1 := stepL_Chute hg ht hi1 hc1_ hm1
          obtain ⟨z1, hz1⟩ := some_of_lt hc1_
          rw [drop_of_some hz1] at h_1
          rw [L_FnBeltDrains_l1] at h_1
          obtain ⟨z1_Cell, z1_Room, z1_Held⟩ := z1
          try rw [← hg] at h_1
          try rw [← ht] at h_1
          try dsimp only at h_1
          rw [hb3]
          cbv
          refine AGh.nil ?_
          cbv
          refine AStep.mk (nn_L hi1) ?_
          cbv
          refine AGet.mk _ (r_getL_Chute hg ht hi1 hz1) ?_
          cbv
          refine AStep.mk (nn_L hi1) ?_
          cbv
          refine AGet.mk _ (r_getL_Chute hg ht hi1 hz1) ?_
          cbv
          obtain ⟨hc1, h_1⟩ := of_gd h_1
          refine AStep.mk hc1 ?_
          cbv
          obtain ⟨x4, hx4, h_1⟩ := of_gt h_1
          try dsimp only at h_1
          refine AGet.mk _ (d_get_I64 hg ht hx4) ?_
          cbv
          obtain ⟨l2, hl2, h_1⟩ := of_lP h_1
          try dsimp only at h_1
          refine ANew.mk (d_I64 l2) _ (by rw [← hl2]; exact dset_I64 hg ht _ _ (wrap .i64 (sub z1_Room (llen (r_Item z1_Held))))) rfl ?_
          have hnl2 : (dlen (d_I64 w1)) = (d_I64 l2).length := (by rw [← hl2, dsetl_I64 ht]; exact (dlen_I64 hg ht _))
          cbv
          refine AGh.nil ?_
          cbv
          try rw [hg] at h_1
          try rw [ht] at h_1
          refine ⟨⟨(k1 + 1, (wrap .i64 (add v1 1)), l2), hc1_, hs1, h_1⟩, Wk.of [(0, some 0), (1, some 1)] rfl rfl ?_ ?_, meas_L hc1_⟩
          · cbv
            all_goals try rw [show (dlen (d_I64 w1)) = (dlen (d_I64 l2)) from (hnl2).trans (dlen_I64 hg ht _).symm]
            all_goals exact ⟨⟨_, rfl, rfl⟩, ⟨_, rfl, rfl⟩, ⟨_, rfl, rfl⟩, trivial⟩
          · cbv
            all_goals try rw [show (dlen (d_I64 w1)) = (dlen (d_I64 l2)) from (hnl2).trans (dlen_I64 hg ht _).symm]
            all_goals exact ⟨⟨_, rfl, _, rfl, rfl, rfl, rfl, rfl, rfl, trivial⟩, ⟨_, rfl, rfl⟩, trivial⟩
        · have hb3 : lt v1 (llen (r_Chute x2_1_Chutes)) = false := ltL_false_Chute hg ht hi1 hc1_
          rw [List.drop_of_length_le (Nat.le_of_not_lt hc1_)] at h_1
          rw [L_FnBeltDrains_l1] at h_1
          try rw [← hg] at h_1
          try rw [← ht] at h_1
          try dsimp only at h_1
          rw [hb3]
          cbv
          refine ⟨w1, Wk.of [(0, some 0), (1, some 1)] rfl rfl ?_ ?_, (Option.some.inj h_1).symm⟩
          · cbv
            all_goals exact ⟨⟨_, rfl, rfl⟩, ⟨_, rfl, rfl⟩, trivial⟩
          · cbv
            all_goals exact ⟨⟨_, rfl, _, rfl, rfl, rfl, rfl, rfl, rfl, trivial⟩, ⟨_, rfl, rfl⟩, trivial⟩
      · rintro y1 hy1
        replace hy1 := hy1.symm
        subst hy1
        try dsimp only [lr, lrL, lrp, lrpL] at h
        cbv
        obtain ⟨l3, hl3, h⟩ := of_lP h
        try dsimp only at h
        refine ANew.mk (d_Item l3) (dlen (d_Item l3)) (by rw [← hl3]; exact lit_Item hg ht []) (by rw [← hl3]; exact litn_Item hg ht []) ?_
        cbv
        obtain ⟨hc7, h⟩ := of_gd h
        refine AStep.mk (app_ok_Item hg ht (dlen_Item hg ht _) (up_Item hg ht _) hc7) ?_
        cbv
        obtain ⟨l4, hl4, h⟩ := of_lP h
        try dsimp only at h
        refine ANew.mk (d_Item l4) (dlen (d_Item l4)) (by rw [← hl4]; exact app_Item hg ht (dlen_Item hg ht _) (up_Item hg ht _)) (by rw [← hl4]; exact appl_Item hg ht (dlen_Item hg ht _) (up_Item hg ht _)) ?_
        cbv
        obtain ⟨o2, ho2, h⟩ := of_cl h
        try dsimp only at h
        try rw [hg] at ho2
        try rw [ht] at ho2
        refine ABL.mk { p : Nat × Int × List Item // p.1 ≤ x2_1_Inlets.length ∧ p.2.1 = ((p.1 : Nat) : Int) ∧ L_FnBeltDrains_l2 G.real TE.real (List.drop p.1 x2_1_Inlets) p.2.2 = some o2 } (fun ⟨⟨k2, v2, w2⟩, _⟩ => ({ sl := [(3, .c (.p 0 5 0 0)), (5, .c (.f 1 1 0 (dlen (d_I64 y1)))), (7, .c (.f 2 2 0 (dlen (d_Item w2)))), (8, .c (.r (.v (.int .i64 v2))))], tab := [(0, some (.foc 5 [] [.r (.s 2 (r_Item x2_1_Belt)), .r (.s 3 (r_Chute x2_1_Chutes)), .r (.s 2 (r_Inlet x2_1_Inlets)), .r (.s 1 (r_I64 x2_1_Plan)), .r (.v (.int .i64 x2_1_Now))] [])), (1, some (.arr 1 (d_I64 y1))), (2, some (.arr 2 (d_Item w2)))] } : St)) 3 (fun p => x2_1_Inlets.length - p.1.1) ⟨(0, 0, l4), Nat.zero_le _, rfl, ho2⟩ (List Item) (fun y2 => ({ sl := [(3, .c (.p 0 5 0 0)), (5, .c (.f 1 1 0 (dlen (d_I64 y1)))), (7, .c (.f 2 2 0 (dlen (d_Item y2))))], tab := [(0, some (.foc 5 [] [.r (.s 2 (r_Item x2_1_Belt)), .r (.s 3 (r_Chute x2_1_Chutes)), .r (.s 2 (r_Inlet x2_1_Inlets)), .r (.s 1 (r_I64 x2_1_Plan)), .r (.v (.int .i64 x2_1_Now))] [])), (1, some (.arr 1 (d_I64 y1))), (2, some (.arr 2 (d_Item y2)))] } : St)) 3 (fun y => o2 = y) ?_ ?_ ?_
        · refine Wk.of [(0, some 0), (1, some 1), (2, some 50)] rfl rfl ?_ ?_
          · cbv
            all_goals exact ⟨⟨_, rfl, rfl⟩, ⟨_, rfl, rfl⟩, ⟨_, rfl, rfl⟩, ⟨_, rfl, rfl⟩, trivial⟩
          · cbv
            all_goals exact ⟨⟨_, rfl, _, rfl, rfl, rfl, rfl, rfl, rfl, trivial⟩, ⟨_, rfl, rfl⟩, ⟨_, rfl, rfl⟩, trivial⟩
        · rintro ⟨⟨k2, v2, w2⟩, hk2, hi2, h_2⟩ hq2
          have hm2 := (hq2.2.2.1 0 _ _ _ _ 2 _ _ rfl rfl)
          try dsimp only at hk2 hi2 h_2
          clear hq2
          cbv
          by_cases hc2_ : k2 < x2_1_Inlets.length
          · have hb4 : lt v2 (llen (r_Inlet x2_1_Inlets)) = true := ltL_true_Inlet hg ht hi2 hc2_
            have hs2 := stepL_Inlet hg ht hi2 hc2_ hm2
            obtain ⟨z2, hz2⟩ := some_of_lt hc2_
            rw [drop_of_some hz2] at h_2
            rw [L_FnBeltDrains_l2] at h_2
            obtain ⟨z2_Cell, z2_Wait⟩ := z2
            try rw [← hg] at h_2
            try rw [← ht] at h_2
            try dsimp only at h_2
            rw [hb4]
            cbv
            refine AGh.nil ?_
            cbv
            refine AStep.mk (nn_L hi2) ?_
            cbv
            refine AGet.mk _ (r_getL_Inlet hg ht hi2 hz2) ?_
            cbv
            obtain ⟨hc2, h_2⟩ := of_gd h_2
            refine AStep.mk (app_ok_Item hg ht (dlen_Item hg ht _) (up_Item hg ht _) hc2) ?_
            cbv
            obtain ⟨l5, hl5, h_2⟩ := of_lP h_2
            try dsimp only at h_2
            refine ANew.mk (d_Item l5) (dlen (d_Item l5)) (by rw [← hl5]; exact app_Item hg ht (dlen_Item hg ht _) (up_Item hg ht _)) (by rw [← hl5]; exact appl_Item hg ht (dlen_Item hg ht _) (up_Item hg ht _)) ?_
            cbv
            refine AGh.nil ?_
            cbv
            try rw [hg] at h_2
            try rw [ht] at h_2
            refine ⟨⟨(k2 + 1, (wrap .i64 (add v2 1)), l5), hc2_, hs2, h_2⟩, Wk.of [(0, some 0), (1, some 1), (2, some 195)] rfl rfl ?_ ?_, meas_L hc2_⟩
            · cbv
              all_goals exact ⟨⟨_, rfl, rfl⟩, ⟨_, rfl, rfl⟩, ⟨_, rfl, rfl⟩, ⟨_, rfl, rfl⟩, trivial⟩
            · cbv
              all_goals exact ⟨⟨_, rfl, _, rfl, rfl, rfl, rfl, rfl, rfl, trivial⟩, ⟨_, rfl, rfl⟩, ⟨_, rfl, rfl⟩, trivial⟩
          · have hb4 : lt v2 (llen (r_Inlet x2_1_Inlets)) = false := ltL_false_Inlet hg ht hi2 hc2_
            rw [List.drop_of_length_le (Nat.le_of_not_lt hc2_)] at h_2
            rw [L_FnBeltDrains_l2] at h_2
            try rw [← hg] at h_2
            try rw [← ht] at h_2
            try dsimp only at h_2
            rw [hb4]
            cbv
            refine ⟨w2, Wk.of [(0, some 0), (1, some 1), (2, some 2)] rfl rfl ?_ ?_, (Option.some.inj h_2).symm⟩
            · cbv
              all_goals exact ⟨⟨_, rfl, rfl⟩, ⟨_, rfl, rfl⟩, ⟨_, rfl, rfl⟩, trivial⟩
            · cbv
              all_goals exact ⟨⟨_, rfl, _, rfl, rfl, rfl, rfl, rfl, rfl, trivial⟩, ⟨_, rfl, rfl⟩, ⟨_, rfl, rfl⟩, trivial⟩
        · rintro y2 hy2
          replace hy2 := hy2.symm
          subst hy2
          try dsimp only [lr, lrL, lrp, lrpL] at h
          cbv
          obtain ⟨hB3, h⟩ := of_gd h
          obtain ⟨o3, ho3, h⟩ := of_cl h
          try dsimp only at h
          try rw [hg] at ho3
          try rw [ht] at ho3
          refine ABL.mk { p : Nat × Int × List Int // p.1 = cntLt p.2.1 (int (dlen (d_Item y2))) ∧ 0 ≤ p.2.1 ∧ L_FnBeltDrains_l3 G.real TE.real ((Centre.mk x2_1_Belt x2_1_Chutes x2_1_Inlets x2_1_Plan x2_1_Now), x2_2) y2 p.1 p.2.1 p.2.2 = some o3 } (fun ⟨⟨n3, v3, w3⟩, _⟩ => ({ sl := [(3, .c (.p 0 5 0 0)), (5, .c (.f 1 1 0 (dlen (d_I64 w3)))), (7, .c (.f 2 2 0 (dlen (d_Item y2)))), (9, .c (.r (.v (.int .i64 v3))))], tab := [(0, some (.foc 5 [] [.r (.s 2 (r_Item x2_1_Belt)), .r (.s 3 (r_Chute x2_1_Chutes)), .r (.s 2 (r_Inlet x2_1_Inlets)), .r (.s 1 (r_I64 x2_1_Plan)), .r (.v (.int .i64 x2_1_Now))] [])), (1, some (.arr 1 (d_I64 w3))), (2, some (.arr 2 (d_Item y2)))] } : St)) 3 (fun p => p.1.1) ⟨(cntLt 0 (int (dlen (d_Item y2))), 0, y1), rfl, Int.le_refl _, ho3⟩ (List Int) (fun y3 => ({ sl := [(3, .c (.p 0 5 0 0)), (5, .c (.f 1 1 0 (dlen (d_I64 y3))))], tab := [(0, some (.foc 5 [] [.r (.s 2 (r_Item x2_1_Belt)), .r (.s 3 (r_Chute x2_1_Chutes)), .r (.s 2 (r_Inlet x2_1_Inlets)), .r (.s 1 (r_I64 x2_1_Plan)), .r (.v (.int .i64 x2_1_Now))] [])), (1, some (.arr 1 (d_I64 y3)))] } : St)) 2 (fun y => o3 = y) ?_ ?_ ?_
          · refine Wk.of [(0, some 0), (1, some 1), (2, some 2)] rfl rfl ?_ ?_
            · cbv
              all_goals exact ⟨⟨_, rfl, rfl⟩, ⟨_, rfl, rfl⟩, ⟨_, rfl, rfl⟩, ⟨_, rfl, rfl⟩, trivial⟩
            · cbv
              all_goals exact ⟨⟨_, rfl, _, rfl, rfl, rfl, rfl, rfl, rfl, trivial⟩, ⟨_, rfl, rfl⟩, ⟨_, rfl, rfl⟩, trivial⟩
          · rintro ⟨⟨n3, v3, w3⟩, hn3, hi3, h_3⟩ hq3
            try dsimp only at hn3 hi3 h_3
            clear hq3
            cbv
            rcases n3 with _ | n3
            · have hb5 : lt v3 (int (dlen (d_Item y2))) = false := ltC_false hg hn3
              rw [L_FnBeltDrains_l3] at h_3
              try rw [← hg] at h_3
              try rw [← ht] at h_3
              try dsimp only at h_3
              rw [hb5]
              cbv
              refine ⟨w3, Wk.of [(0, some 0), (1, some 1)] rfl rfl ?_ ?_, (Option.some.inj h_3).symm⟩
              · cbv
                all_goals exact ⟨⟨_, rfl, rfl⟩, ⟨_, rfl, rfl⟩, trivial⟩
              · cbv
                all_goals exact ⟨⟨_, rfl, _, rfl, rfl, rfl, rfl, rfl, rfl, trivial⟩, ⟨_, rfl, rfl⟩, trivial⟩
            · have hb5 : lt v3 (int (dlen (d_Item y2))) = true := ltC_true hg hn3
              have hl3 := ltC_le hn3
              have hs3 := stepltC hg hn3 hi3 hB3 (by decide)
              rw [L_FnBeltDrains_l3] at h_3
              try rw [← hg] at h_3
              try rw [← ht] at h_3
              try dsimp only at h_3
              rw [hb5]
              cbv
              refine AStep.mk (rg_int hg hi3 hl3) ?_
              cbv
              obtain ⟨x5, hx5, h_3⟩ := of_gt h_3
              obtain ⟨x5_Id, x5_Dest⟩ := x5
              try dsimp only at h_3
              refine AGet.mk _ (d_get_Item hg ht hx5) ?_
              cbv
              cases hb6 : (eq x5_Id 0) with
              | true =>
                rw [br_true hb6] at h_3
                cbv
                try rw [hg] at h_3
                try rw [ht] at h_3
                refine ⟨⟨(n3, (wrap .i64 (add v3 1)), w3), hs3.1, hs3.2, h_3⟩, Wk.of [(0, some 0), (1, some 1), (2, some 2)] rfl rfl ?_ ?_, Nat.lt_succ_self _⟩
                · cbv
                  all_goals exact ⟨⟨_, rfl, rfl⟩, ⟨_, rfl, rfl⟩, ⟨_, rfl, rfl⟩, ⟨_, rfl, rfl⟩, trivial⟩
                · cbv
                  all_goals exact ⟨⟨_, rfl, _, rfl, rfl, rfl, rfl, rfl, rfl, trivial⟩, ⟨_, rfl, rfl⟩, ⟨_, rfl, rfl⟩, trivial⟩
              | false =>
                rw [br_false hb6] at h_3
                cbv
                refine AStep.mk (rg_int hg hi3 hl3) ?_
                cbv
                refine AGet.mk _ (d_get_Item hg ht hx5) ?_
                cbv
                obtain ⟨hc3, h_3⟩ := of_gd h_3
                refine AStep.mk hc3 ?_
                cbv
                obtain ⟨x6, hx6, h_3⟩ := of_gt h_3
                try dsimp only at h_3
                refine AGet.mk _ (r_get_I64 hg ht hx6) ?_
                cbv
                refine AStep.mk (rg_int hg hi3 hl3) ?_
                cbv
                refine AGet.mk _ (d_get_Item hg ht hx5) ?_
                cbv
                obtain ⟨hc4, h_3⟩ := of_gd h_3
                refine AStep.mk hc4 ?_
                cbv
                refine AGet.mk _ (r_get_I64 hg ht hx6) ?_
                cbv
                obtain ⟨hc5, h_3⟩ := of_gd h_3
                refine AStep.mk hc5 ?_
                cbv
                obtain ⟨x7, hx7, h_3⟩ := of_gt h_3
                try dsimp only at h_3
                refine AGet.mk _ (d_get_I64 hg ht hx7) ?_
                cbv
                obtain ⟨hc6, h_3⟩ := of_gd h_3
                refine AStep.mk hc6 ?_
                cbv
                refine AGet.mk _ (d_get_I64 hg ht hx7) ?_
                cbv
                obtain ⟨l6, hl6, h_3⟩ := of_lP h_3
                try dsimp only at h_3
                refine ANew.mk (d_I64 l6) _ (by rw [← hl6]; exact dset_I64 hg ht _ _ (wrap .i64 (sub x7 1))) rfl ?_
                have hnl6 : (dlen (d_I64 w3)) = (d_I64 l6).length := (by rw [← hl6, dsetl_I64 ht]; exact (dlen_I64 hg ht _))
                cbv
                try rw [hg] at h_3
                try rw [ht] at h_3
                refine ⟨⟨(n3, (wrap .i64 (add v3 1)), l6), hs3.1, hs3.2, h_3⟩, Wk.of [(0, some 0), (1, some 1), (2, some 2)] rfl rfl ?_ ?_, Nat.lt_succ_self _⟩
                · cbv
                  all_goals try rw [show (dlen (d_I64 w3)) = (dlen (d_I64 l6)) from (hnl6).trans (dlen_I64 hg ht _).symm]
                  all_goals exact ⟨⟨_, rfl, rfl⟩, ⟨_, rfl, rfl⟩, ⟨_, rfl, rfl⟩, ⟨_, rfl, rfl⟩, trivial⟩
                · cbv
                  all_goals try rw [show (dlen (d_I64 w3)) = (dlen (d_I64 l6)) from (hnl6).trans (dlen_I64 hg ht _).symm]
                  all_goals exact ⟨⟨_, rfl, _, rfl, rfl, rfl, rfl, rfl, rfl, trivial⟩, ⟨_, rfl, rfl⟩, ⟨_, rfl, rfl⟩, trivial⟩
          · rintro y3 hy3
            replace hy3 := hy3.symm
            subst hy3
            try dsimp only [lr, lrL, lrp, lrpL] at h
            cbv
            obtain ⟨hB4, h⟩ := of_gd h
            obtain ⟨o4, ho4, h⟩ := of_cl h
            try dsimp only at h
            try rw [hg] at ho4
            try rw [ht] at ho4
            refine ABL.mk { p : Nat × Int // p.1 = cntLt p.2 (int (dlen (d_I64 y3))) ∧ 0 ≤ p.2 ∧ L_FnBeltDrains_l4 G.real TE.real y3 p.1 p.2 = some o4 } (fun ⟨⟨n4, v4⟩, _⟩ => ({ sl := [(3, .c (.p 0 5 0 0)), (5, .c (.f 1 1 0 (dlen (d_I64 y3)))), (10, .c (.r (.v (.int .i64 v4))))], tab := [(0, some (.foc 5 [] [.r (.s 2 (r_Item x2_1_Belt)), .r (.s 3 (r_Chute x2_1_Chutes)), .r (.s 2 (r_Inlet x2_1_Inlets)), .r (.s 1 (r_I64 x2_1_Plan)), .r (.v (.int .i64 x2_1_Now))] [])), (1, some (.arr 1 (d_I64 y3)))] } : St)) 2 (fun p => p.1.1) ⟨(cntLt 0 (int (dlen (d_I64 y3))), 0), rfl, Int.le_refl _, ho4⟩ (Unit) (fun _ => ({ sl := [(3, .c (.p 0 5 0 0))], tab := [(0, some (.foc 5 [] [.r (.s 2 (r_Item x2_1_Belt)), .r (.s 3 (r_Chute x2_1_Chutes)), .r (.s 2 (r_Inlet x2_1_Inlets)), .r (.s 1 (r_I64 x2_1_Plan)), .r (.v (.int .i64 x2_1_Now))] []))] } : St)) 1 (fun y => o4 = LR.out y) ?_ ?_ ?_
            · refine Wk.of [(0, some 0), (1, some 1)] rfl rfl ?_ ?_
              · cbv
                all_goals exact ⟨⟨_, rfl, rfl⟩, ⟨_, rfl, rfl⟩, ⟨_, rfl, rfl⟩, trivial⟩
              · cbv
                all_goals exact ⟨⟨_, rfl, _, rfl, rfl, rfl, rfl, rfl, rfl, trivial⟩, ⟨_, rfl, rfl⟩, trivial⟩
            · rintro ⟨⟨n4, v4⟩, hn4, hi4, h_4⟩ hq4
              try dsimp only at hn4 hi4 h_4
              clear hq4
              cbv
              rcases n4 with _ | n4
              · have hb7 : lt v4 (int (dlen (d_I64 y3))) = false := ltC_false hg hn4
                rw [L_FnBeltDrains_l4] at h_4
                try rw [← hg] at h_4
                try rw [← ht] at h_4
                try dsimp only at h_4
                rw [hb7]
                cbv
                refine ⟨(), Wk.of [(0, some 0)] rfl rfl ?_ ?_, (Option.some.inj h_4).symm⟩
                · cbv
                  all_goals exact ⟨⟨_, rfl, rfl⟩, trivial⟩
                · cbv
                  all_goals exact ⟨⟨_, rfl, _, rfl, rfl, rfl, rfl, rfl, rfl, trivial⟩, trivial⟩
              · have hb7 : lt v4 (int (dlen (d_I64 y3))) = true := ltC_true hg hn4
                have hl4 := ltC_le hn4
                have hs4 := stepltC hg hn4 hi4 hB4 (by decide)
                rw [L_FnBeltDrains_l4] at h_4
                try rw [← hg] at h_4
                try rw [← ht] at h_4
                try dsimp only at h_4
                rw [hb7]
                cbv
                refine AStep.mk (rg_int hg hi4 hl4) ?_
                cbv
                obtain ⟨x8, hx8, h_4⟩ := of_gt h_4
                try dsimp only at h_4
                refine AGet.mk _ (d_get_I64 hg ht hx8) ?_
                cbv
                cases hb8 : (lt x8 0) with
                | true =>
                  rw [br_true hb8] at h_4
                  cbv
                  obtain rfl := Option.some.inj h_4
                  try dsimp only [lr, lrL, lrp, lrpL] at h
                  obtain rfl := Option.some.inj h
                  exact ARet.mk trivial hX.symm
                | false =>
                  rw [br_false hb8] at h_4
                  cbv
                  try rw [hg] at h_4
                  try rw [ht] at h_4
                  refine ⟨⟨(n4, (wrap .i64 (add v4 1))), hs4.1, hs4.2, h_4⟩, Wk.of [(0, some 0), (1, some 1)] rfl rfl ?_ ?_, Nat.lt_succ_self _⟩
                  · cbv
                    all_goals exact ⟨⟨_, rfl, rfl⟩, ⟨_, rfl, rfl⟩, ⟨_, rfl, rfl⟩, trivial⟩
                  · cbv
                    all_goals exact ⟨⟨_, rfl, _, rfl, rfl, rfl, rfl, rfl, rfl, trivial⟩, ⟨_, rfl, rfl⟩, trivial⟩
            · rintro _ hy4
              replace hy4 := hy4.symm
              subst hy4
              try dsimp only [lr, lrL, lrp, lrpL] at h
              cbv
              obtain ⟨x9, hx9, h⟩ := of_cl h
              try dsimp only at h
              refine ACall.mk _ _ rfl (hF _ _ _ (c_I_TicksToDrain hg ht hx9)) (.inl rfl) (Nat.le_of_ble_eq_true rfl) ?_
              cbv
              cases hb9 : (lt x9 0) with
              | true =>
                rw [br_true hb9] at h
                cbv
                try (rw [hb9]; cbv)
                try (rw [hb9]; cbv)
                try (rw [hb9]; cbv)
                try (rw [hb9]; cbv)
                try (rw [hb9]; cbv)
                try (rw [hb9]; cbv)
                try (rw [hb9]; cbv)
                try (rw [hb9]; cbv)
                try (rw [hb9]; cbv)
                try (rw [hb9]; cbv)
                try (rw [hb9]; cbv)
                obtain rfl := Option.some.inj h
                exact ARet.mk trivial hX.symm
              | false =>
                rw [br_false hb9] at h
                cbv
                try (rw [hb9]; cbv)
                try (rw [hb9]; cbv)
                obtain ⟨x10, hx10, h⟩ := of_lP h
                try dsimp only at h
                refine ACall.mk _ _ rfl (hF _ _ _ (c_I_CountBelt hg ht hx10)) (.inl rfl) (Nat.le_of_ble_eq_true rfl) ?_
                cbv
                try (rw [hb9]; cbv)
                try (rw [hb9]; cbv)
                obtain ⟨x11, hx11, h⟩ := of_lP h
                try dsimp only at h
                refine ACall.mk _ _ rfl (hF _ _ _ (c_I_CountWait hg ht hx11)) (.inl rfl) (Nat.le_of_ble_eq_true rfl) ?_
                cbv
                try (rw [hb9]; cbv)
                try (rw [hb9]; cbv)
                try (rw [hb9]; cbv)
                try (rw [hb9]; cbv)
                try (rw [hb9]; cbv)
                try (rw [hb9]; cbv)
                try (rw [hb9]; cbv)
                cases hb10 : (lt (wrap .i64 (add (wrap .i64 (add x10 x11)) (llen (r_Item x2_1_Belt)))) x9) with
                | true =>
                  rw [br_true hb10] at h
                  cbv
                  try (rw [hb10]; cbv)
                  try (rw [hb10]; cbv)
                  obtain rfl := Option.some.inj h
                  exact ARet.mk trivial hX.symm
                | false =>
                  rw [br_false hb10] at h
                  cbv
                  try (rw [hb10]; cbv)
                  obtain ⟨x12, hx12, h⟩ := of_cl h
                  try dsimp only at h
                  refine ACall.mk _ _ rfl (hF _ _ _ (c_I_IsStuck hg ht hx12)) (.inl rfl) (Nat.le_of_ble_eq_true rfl) ?_
                  cbv
                  try (rw [hb10]; cbv)
                  cases hb11 : x12 with
                  | true =>
                    rw [br_true hb11] at h
                    cbv
                    obtain rfl := Option.some.inj h
                    exact ARet.mk trivial hX.symm
                  | false =>
                    rw [br_false hb11] at h
                    cbv
                    cases hb12 : (lt 90000 x2_1_Now) with
                    | true =>
                      rw [br_true hb12] at h
                      cbv
                      try (rw [hb12]; cbv)
                      try (rw [hb12]; cbv)
                      try (rw [hb12]; cbv)
                      try (rw [hb12]; cbv)
                      obtain rfl := Option.some.inj h
                      exact ARet.mk trivial hX.symm
                    | false =>
                      rw [br_false hb12] at h
                      cbv
                      try (rw [hb12]; cbv)
                      try (rw [hb12]; cbv)
                      obtain ⟨x13, hx13, h⟩ := of_cl h
                      obtain ⟨x13_Belt, x13_Chutes, x13_Inlets, x13_Plan, x13_Now⟩ := x13
                      try dsimp only at h
                      refine ACallR.mk _ _ (.g [.r (.s 2 (r_Item x13_Belt)), .r (.s 3 (r_Chute x13_Chutes)), .r (.s 2 (r_Inlet x13_Inlets)), .r (.s 1 (r_I64 x13_Plan)), .r (.v (.int .i64 x13_Now))]) rfl (hF _ _ _ (c_I_RunCentre hg ht hx13)) (.inl rfl) (Nat.le_of_ble_eq_true rfl) (by cbv; (try simp only [hrda_Chute, hrda_I64, hrda_Inlet, hrda_Item])) ?_
                      cbv
                      try (rw [hb12]; cbv)
                      obtain ⟨x14, hx14, h⟩ := of_cl h
                      try dsimp only at h
                      refine ACall.mk _ _ rfl (hF _ _ _ (c_I_IsDrained hg ht hx14)) (.inl rfl) (Nat.le_of_ble_eq_true rfl) ?_
                      cbv
                      try (rw [hb12]; cbv)
                      obtain rfl := Option.some.inj h
                      exact ARet.mk trivial hX.symm
    | false =>
      rw [br_false hb2] at h
      cbv
      obtain ⟨x15, hx15, h⟩ := of_cl h
      try dsimp only at h
      refine ACall.mk _ _ rfl (hF _ _ _ (c_I_TicksToDrain hg ht hx15)) (.inl rfl) (Nat.le_of_ble_eq_true rfl) ?_
      cbv
      obtain rfl := Option.some.inj h
      exact ARet.mk trivial hX.symm
end Go.Vs
namespace Go.Vs
set_option maxRecDepth 100000
def ir37 : J :=
  .seq (.reg none [⟨(some 4), none, .mv (.k (V.b false))⟩] [0, 1])
  (.seq (.seq (.reg none [⟨(some 6), none, .mv (.t 0)⟩,
      ⟨(some 7), none, .len false (.t 6)⟩,
      ⟨(some 8), none, .mv (.t 1)⟩,
      ⟨(some 9), none, .len false (.t 8)⟩,
      ⟨(some 10), none, .bin .neq .i (.t 7) (.t 9)⟩] [0, 1, 10])
   (.cond (.t 10)
    (.seq (.reg none [⟨(some 4), none, .mv (.k (V.b false))⟩] [4])
     (.ret))
    (.skip)))
  (.seq (.seq (.reg none [⟨(some 5), none, .mv (.k (V.i 0))⟩] [0, 1, 5])
   (.bl 0 (.seq (.seq (.reg none [⟨(some 11), none, .mv (.t 5)⟩,
        ⟨(some 12), none, .mv (.t 0)⟩,
        ⟨(some 13), none, .len false (.t 12)⟩,
        ⟨(some 14), none, .bin .lss .i (.t 11) (.t 13)⟩] [0, 1, 5, 14])
     (.cond (.t 14)
      (.skip)
      (.exit 0)))
    (.seq (.block 1 (.seq (.reg (some [[], [], [0, 1], [0, 1, 2], [], [], [4, 5], [4, 5, 6], [0, 1, 2, 3, 4, 5, 6, 7]]) [⟨(some 17), none, .mv (.t 0)⟩,
         ⟨(some 18), none, .mv (.t 5)⟩,
         ⟨(some 19), none, .ia 2 (.t 17) (.t 18)⟩,
         ⟨(some 20), none, .ld true 2 (.t 19)⟩,
         ⟨(some 21), none, .mv (.t 1)⟩,
         ⟨(some 22), none, .mv (.t 5)⟩,
         ⟨(some 23), none, .ia 2 (.t 21) (.t 22)⟩,
         ⟨(some 24), none, .ld true 2 (.t 23)⟩,
         ⟨(some 25), none, .eqs true [.i, .i] (.t 20) (.t 24)⟩] [0, 1, 5, 25])
      (.cond (.t 25)
       (.seq (.reg none [⟨(some 4), none, .mv (.k (V.b false))⟩] [4])
        (.ret))
       (.skip))))
    (.reg none [⟨(some 15), none, .mv (.t 5)⟩,
      ⟨(some 16), none, .bin .add .i (.t 15) (.k (V.i 1))⟩,
      ⟨(some 5), none, .mv (.t 16)⟩] [0, 1, 5])))))
  (.seq (.reg none [⟨(some 4), none, .mv (.k (V.b true))⟩] [4])
  (.ret))))
def rv37 : List RV := [.t 4]
open Go.Proofs Go.IntWalk
set_option linter.unusedVariables false
set_option maxRecDepth 100000
set_option maxHeartbeats 4000000
def L_items_l1 (g : G) (t : TE) (a1 : List Item) : List Item → Int → Option (LR Bool Unit)
  | [], v1 =>
    some (LR.out ())
  | z1 :: ls1, v1 =>
    gt a1 (g.nat v1) fun x1 =>
    br (g.all [(g.eq z1.Id x1.Id), (g.eq z1.Dest x1.Dest)])
    (
     L_items_l1 g t a1 ls1 (g.wrap .i64 (g.add v1 1)))
    (
     some (LR.ret false))
def L_items (g : G) (t : TE) (a0 : List Item) (a1 : List Item) : Option Bool :=
  br (g.eq (g.llen (t.r_Item a0)) (g.llen (t.r_Item a1)))
  (
   cl (L_items_l1 g t a1 a0 0) fun o1 => lr o1 fun y1 =>
   some true)
  (
   some false)
theorem fit37 : codeFit Try.prog Try.f37.ntmps (Try.f37.body.getD .skip) ir37 = true := by kernel_rfl
theorem c_L_items {g : G} {t : TE} {a0 : List Item} {a1 : List Item} {r : Bool} (hg : g = G.real) (ht : t = TE.real) (h : L_items g t a0 a1 = some r) : Fn Try.prog 37 [.c (.s 2 (t.r_Item a0)), .c (.s 2 (t.r_Item a1))] (.c (.r (.v (.bool r)))) := by
  obtain ⟨X, hX⟩ := hide (.c (.r (.v (.bool r))) : X)
  rw [← hX]
  refine fn_of (rvs := rv37) (j := ir37) Try.func37 rfl fit37 (Nat.le_of_ble_eq_true rfl) (by kernel_rfl) prog_mixed ?_
  intro g2 F hg2 hF
  obtain rfl : g2 = g := hg2.unique.trans hg.symm
  clear hg2
  obtain ⟨wrap, lt, le, eq, quo, rem, band, bor, bxor, shl, shr, nat, int, add, sub, mul, cat, seq, slt, sub3, byte, llen, nadd, nsub, dlen, dapp, dset, drep, rd, rda, up, rsub, dsub, all, sle, slen, hasI, putI, hasS, putS, imin, imax, fzc⟩ := g2
  obtain ⟨r_Item, d_Item, r_Chute, d_Chute, r_Inlet, d_Inlet, r_I64, d_I64, r_U8, d_U8, d_InletF⟩ := t
  unfold L_items at h
  try dsimp only at h
  cbv
  cases hb1 : (eq (llen (r_Item a0)) (llen (r_Item a1))) with
  | true =>
    rw [br_true hb1] at h
    cbv
    obtain ⟨o1, ho1, h⟩ := of_cl h
    try dsimp only at h
    try rw [hg] at ho1
    try rw [ht] at ho1
    refine ABL.mk { p : Nat × Int // p.1 ≤ a0.length ∧ p.2 = ((p.1 : Nat) : Int) ∧ L_items_l1 G.real TE.real a1 (List.drop p.1 a0) p.2 = some o1 } (fun ⟨⟨k1, v1⟩, _⟩ => ({ sl := [(0, .c (.r (.s 2 (r_Item a0)))), (1, .c (.r (.s 2 (r_Item a1)))), (5, .c (.r (.v (.int .i64 v1))))], tab := [] } : St)) 0 (fun p => a0.length - p.1.1) ⟨(0, 0), Nat.zero_le _, rfl, ho1⟩ (Unit) (fun _ => ({ sl := [], tab := [] } : St)) 0 (fun y => o1 = LR.out y) ?_ ?_ ?_
    · refine Wk.of [] rfl rfl ?_ ?_
      · cbv
        all_goals exact ⟨⟨_, rfl, rfl⟩, ⟨_, rfl, rfl⟩, ⟨_, rfl, rfl⟩, trivial⟩
      · cbv
        all_goals exact trivial
    · rintro ⟨⟨k1, v1⟩, hk1, hi1, h_1⟩ hq1
      have hm1 := (hq1.1 0 _ _ rfl)
      try dsimp only at hk1 hi1 h_1
      clear hq1
      cbv
      by_cases hc1_ : k1 < a0.length
      · have hb2 : lt v1 (llen (r_Item a0)) = true := ltL_true_Item hg ht hi1 hc1_
        have hs1 := stepL_Item hg ht hi1 hc1_ hm1
        obtain ⟨z1, hz1⟩ := some_of_lt hc1_
        rw [drop_of_some hz1] at h_1
        rw [L_items_l1] at h_1
        obtain ⟨z1_Id, z1_Dest⟩ := z1
        try rw [← hg] at h_1
        try rw [← ht] at h_1
        try dsimp only at h_1
        rw [hb2]
        cbv
        refine AStep.mk (nn_L hi1) ?_
        cbv
        refine AGet.mk _ (r_getL_Item hg ht hi1 hz1) ?_
        cbv
        refine AStep.mk (nn_L hi1) ?_
        cbv
        obtain ⟨x1, hx1, h_1⟩ := of_gt h_1
        obtain ⟨x1_Id, x1_Dest⟩ := x1
        try dsimp only at h_1
        refine AGet.mk _ (r_get_Item hg ht hx1) ?_
        cbv
        cases hb3 : (all [(eq z1_Id x1_Id), (eq z1_Dest x1_Dest)]) with
        | true =>
          rw [br_true hb3] at h_1
          cbv
          try rw [hg] at h_1
          try rw [ht] at h_1
          refine ⟨⟨(k1 + 1, (wrap .i64 (add v1 1))), hc1_, hs1, h_1⟩, Wk.of [] rfl rfl ?_ ?_, meas_L hc1_⟩
          · cbv
            all_goals exact ⟨⟨_, rfl, rfl⟩, ⟨_, rfl, rfl⟩, ⟨_, rfl, rfl⟩, trivial⟩
          · cbv
            all_goals exact trivial
        | false =>
          rw [br_false hb3] at h_1
          cbv
          obtain rfl := Option.some.inj h_1
          try dsimp only [lr, lrL, lrp, lrpL] at h
          obtain rfl := Option.some.inj h
          exact ARet.mk trivial hX.symm
      · have hb2 : lt v1 (llen (r_Item a0)) = false := ltL_false_Item hg ht hi1 hc1_
        rw [List.drop_of_length_le (Nat.le_of_not_lt hc1_)] at h_1
        rw [L_items_l1] at h_1
        try rw [← hg] at h_1
        try rw [← ht] at h_1
        try dsimp only at h_1
        rw [hb2]
        cbv
        refine ⟨(), Wk.of [] rfl rfl ?_ ?_, (Option.some.inj h_1).symm⟩
        · cbv
          all_goals exact trivial
        · cbv
          all_goals exact trivial
    · rintro _ hy1
      replace hy1 := hy1.symm
      subst hy1
      try dsimp only [lr, lrL, lrp, lrpL] at h
      cbv
      obtain rfl := Option.some.inj h
      exact ARet.mk trivial hX.symm
  | false =>
    rw [br_false hb1] at h
    cbv
    obtain rfl := Option.some.inj h
    exact ARet.mk trivial hX.symm
end Go.Vs
namespace Go.Vs
set_option maxRecDepth 100000
def ir39 : J :=
  .seq (.reg none [⟨(some 4), none, .mv (.k (V.i 0))⟩] [0, 1])
  (.seq (.seq (.reg none [⟨(some 5), none, .mv (.t 1)⟩,
      ⟨(some 6), none, .mv (.t 0)⟩,
      ⟨(some 7), none, .len false (.t 6)⟩,
      ⟨(some 8), none, .bin .geq .i (.t 5) (.t 7)⟩] [0, 1, 8])
   (.cond (.t 8)
    (.seq (.reg none [⟨(some 4), none, .mv (.k (V.i 0))⟩] [4])
     (.ret))
    (.skip)))
  (.seq (.reg none [⟨(some 9), none, .mv (.t 0)⟩,
     ⟨(some 10), none, .mv (.t 1)⟩,
     ⟨(some 11), none, .ia 1 (.t 9) (.t 10)⟩,
     ⟨(some 12), none, .ld false 1 (.t 11)⟩,
     ⟨(some 13), none, .cvt .i64 (.t 12)⟩,
     ⟨(some 4), none, .mv (.t 13)⟩] [4])
  (.ret)))
def rv39 : List RV := [.t 4]
open Go.Proofs Go.IntWalk
set_option linter.unusedVariables false
set_option maxRecDepth 100000
set_option maxHeartbeats 4000000
def L_at (g : G) (t : TE) (a0 : List Int) (a1 : Int) : Option Int :=
  br (g.le (g.llen (t.r_U8 a0)) a1)
  (
   some 0)
  (
   gd (((0 : Int) ≤ a1)) <|
   gt a0 (g.nat a1) fun x1 =>
   some (g.wrap .i64 x1))
theorem fit39 : codeFit Try.prog Try.f39.ntmps (Try.f39.body.getD .skip) ir39 = true := by kernel_rfl
theorem c_L_at {g : G} {t : TE} {a0 : List Int} {a1 : Int} {r : Int} (hg : g = G.real) (ht : t = TE.real) (h : L_at g t a0 a1 = some r) : Fn Try.prog 39 [.c (.s 1 (t.r_U8 a0)), .c (.v (.int .i64 a1))] (.c (.r (.v (.int .i64 r)))) := by
  obtain ⟨X, hX⟩ := hide (.c (.r (.v (.int .i64 r))) : X)
  rw [← hX]
  refine fn_of (rvs := rv39) (j := ir39) Try.func39 rfl fit39 (Nat.le_of_ble_eq_true rfl) (by kernel_rfl) prog_mixed ?_
  intro g2 F hg2 hF
  obtain rfl : g2 = g := hg2.unique.trans hg.symm
  clear hg2
  obtain ⟨wrap, lt, le, eq, quo, rem, band, bor, bxor, shl, shr, nat, int, add, sub, mul, cat, seq, slt, sub3, byte, llen, nadd, nsub, dlen, dapp, dset, drep, rd, rda, up, rsub, dsub, all, sle, slen, hasI, putI, hasS, putS, imin, imax, fzc⟩ := g2
  obtain ⟨r_Item, d_Item, r_Chute, d_Chute, r_Inlet, d_Inlet, r_I64, d_I64, r_U8, d_U8, d_InletF⟩ := t
  unfold L_at at h
  try dsimp only at h
  cbv
  cases hb1 : (le (llen (r_U8 a0)) a1) with
  | true =>
    rw [br_true hb1] at h
    cbv
    obtain rfl := Option.some.inj h
    exact ARet.mk trivial hX.symm
  | false =>
    rw [br_false hb1] at h
    cbv
    obtain ⟨hc1, h⟩ := of_gd h
    refine AStep.mk hc1 ?_
    cbv
    obtain ⟨x1, hx1, h⟩ := of_gt h
    try dsimp only at h
    refine AGet.mk _ (r_get_U8 hg ht hx1) ?_
    cbv
    obtain rfl := Option.some.inj h
    exact ARet.mk trivial hX.symm
end Go.Vs
namespace Go.Vs
set_option maxRecDepth 100000
def ir46 : J :=
  .seq (.reg none [⟨(some 10), none, .alloc [.n 2, .n 3, .n 2, .n 1, .r (.v (.int .i64 0))]⟩,
     ⟨(some 11), none, .mv (.k (V.b false))⟩] [0, 1, 2, 3, 4, 10])
  (.seq (.seq (.reg none [⟨(some 17), none, .mv (.t 0)⟩,
      ⟨(some 18), none, .call 89 true [(.t 17), (.k (V.i 2)), (.k (V.i 24))]⟩,
      ⟨(some 19), none, .not (.t 18)⟩] [0, 1, 2, 3, 4, 10, 19])
   (.cond (.t 19)
    (.seq (.reg none [⟨(some 20), none, .bld [.n 2, .n 3, .n 2, .n 1, .r (.v (.int .i64 0))] []⟩,
        ⟨none, none, .st 5 (.t 10) (.t 20)⟩,
        ⟨(some 11), none, .mv (.k (V.b false))⟩] [10, 11])
     (.ret))
    (.skip)))
  (.seq (.reg (some [[], [0], [], [], [2, 3], [0, 1, 2, 3, 4], [], [0, 1, 2, 3, 4, 5, 6]]) [⟨(some 21), none, .mv (.t 0)⟩,
     ⟨(some 22), none, .mk 2 16 [.r (.v (.int .i64 0)), .r (.v (.int .i64 0))] (.t 21)⟩,
     ⟨(some 23), none, .bsl 1 []⟩,
     ⟨(some 24), none, .mv (.t 4)⟩,
     ⟨(some 25), none, .app 1 8 false (.t 23) (.t 24)⟩,
     ⟨(some 26), none, .bld [.n 2, .n 3, .n 2, .n 1, .r (.v (.int .i64 0))] [(0, 1, (.t 22)), (3, 1, (.t 25))]⟩,
     ⟨(some 12), none, .alloc [.n 2, .n 3, .n 2, .n 1, .r (.v (.int .i64 0))]⟩,
     ⟨none, none, .st 5 (.t 12) (.t 26)⟩] [1, 2, 3, 10, 12])
  (.seq (.seq (.reg none [⟨(some 27), none, .mv (.t 1)⟩,
      ⟨(some 28), none, .len false (.t 27)⟩,
      ⟨(some 29), none, .mv (.k (V.i 0))⟩] [2, 3, 10, 12, 27, 28, 29])
   (.bl 0 (.seq (.reg none [⟨(some 30), none, .bin .lss .i (.t 29) (.t 28)⟩] [2, 3, 10, 12, 27, 28, 29, 30])
    (.seq (.cond (.t 30)
      (.skip)
      (.exit 0))
    (.seq (.block 1 (.seq (.reg none [⟨(some 31), none, .ia 1 (.t 27) (.t 29)⟩,
         ⟨(some 32), none, .ld false 1 (.t 31)⟩,
         ⟨(some 14), none, .mv (.t 32)⟩] [2, 3, 10, 12, 14, 27, 28, 29])
      (.reg none [⟨(some 33), none, .fa 1 (.t 12)⟩,
        ⟨(some 34), none, .ld false 1 (.t 33)⟩,
        ⟨(some 35), none, .mv (.t 14)⟩,
        ⟨(some 36), none, .mv (.t 2)⟩,
        ⟨(some 37), none, .bld [.r (.v (.int .i64 0)), .r (.v (.int .i64 0)), .n 2] [(0, 1, (.t 35)), (1, 1, (.t 36))]⟩,
        ⟨(some 38), none, .bsl 3 [(.t 37)]⟩,
        ⟨(some 39), none, .app 3 40 true (.t 34) (.t 38)⟩,
        ⟨(some 40), none, .fa 1 (.t 12)⟩,
        ⟨none, none, .st 1 (.t 40) (.t 39)⟩] [2, 3, 10, 12, 27, 28, 29])))
    (.reg none [⟨(some 41), none, .bin .add .i (.t 29) (.k (V.i 1))⟩,
      ⟨(some 29), none, .mv (.t 41)⟩] [2, 3, 10, 12, 27, 28, 29]))))))
  (.seq (.seq (.reg none [⟨(some 42), none, .mv (.t 3)⟩,
      ⟨(some 43), none, .len false (.t 42)⟩,
      ⟨(some 44), none, .mv (.k (V.i 0))⟩] [10, 12, 42, 43, 44])
   (.bl 2 (.seq (.reg none [⟨(some 45), none, .bin .lss .i (.t 44) (.t 43)⟩] [10, 12, 42, 43, 44, 45])
    (.seq (.cond (.t 45)
      (.skip)
      (.exit 2))
    (.seq (.block 3 (.seq (.reg none [⟨(some 46), none, .ia 1 (.t 42) (.t 44)⟩,
         ⟨(some 47), none, .ld false 1 (.t 46)⟩,
         ⟨(some 16), none, .mv (.t 47)⟩] [10, 12, 16, 42, 43, 44])
      (.reg none [⟨(some 48), none, .fa 2 (.t 12)⟩,
        ⟨(some 49), none, .ld false 1 (.t 48)⟩,
        ⟨(some 50), none, .mv (.t 16)⟩,
        ⟨(some 51), none, .bld [.r (.v (.int .i64 0)), .n 2] [(0, 1, (.t 50))]⟩,
        ⟨(some 52), none, .bsl 2 [(.t 51)]⟩,
        ⟨(some 53), none, .app 2 32 true (.t 49) (.t 52)⟩,
        ⟨(some 54), none, .fa 2 (.t 12)⟩,
        ⟨none, none, .st 1 (.t 54) (.t 53)⟩] [10, 12, 42, 43, 44])))
    (.reg none [⟨(some 55), none, .bin .add .i (.t 44) (.k (V.i 1))⟩,
      ⟨(some 44), none, .mv (.t 55)⟩] [10, 12, 42, 43, 44]))))))
  (.seq (.seq (.reg none [⟨(some 56), none, .ld true 5 (.t 12)⟩,
      ⟨(some 57), none, .call 32 true [(.t 56)]⟩,
      ⟨(some 58), none, .not (.t 57)⟩] [10, 12, 58])
   (.cond (.t 58)
    (.seq (.reg none [⟨(some 59), none, .bld [.n 2, .n 3, .n 2, .n 1, .r (.v (.int .i64 0))] []⟩,
        ⟨none, none, .st 5 (.t 10) (.t 59)⟩,
        ⟨(some 11), none, .mv (.k (V.b false))⟩] [10, 11])
     (.ret))
    (.skip)))
  (.seq (.reg none [⟨(some 60), none, .ld true 5 (.t 12)⟩,
     ⟨none, none, .st 5 (.t 10) (.t 60)⟩,
     ⟨(some 11), none, .mv (.k (V.b true))⟩] [10, 11])
  (.ret)))))))
def rv46 : List RV := [.c 10 true 5, .t 11]
open Go.Proofs Go.IntWalk
set_option linter.unusedVariables false
set_option maxRecDepth 100000
set_option maxHeartbeats 4000000
def I_NewCentre_l2 (g : G) (t : TE) : List Int → List Inlet → Option (List Inlet)
  | [], w2 =>
    some w2
  | z2 :: ls2, w2 =>
    lP ([(Inlet.mk z2 [])]) fun (l6 : List Inlet) =>
    gd (((w2.length + l6.length) * 32 ≤ 70368744177664)) <|
    lP (w2 ++ l6) fun (l7 : List Inlet) =>
    I_NewCentre_l2 g t ls2 l7
def I_NewCentre_l1 (g : G) (t : TE) (a2 : Int) : List Int → List Chute → Option (List Chute)
  | [], w1 =>
    some w1
  | z1 :: ls1, w1 =>
    lP ([(Chute.mk z1 a2 [])]) fun (l4 : List Chute) =>
    gd (((w1.length + l4.length) * 40 ≤ 70368744177664)) <|
    lP (w1 ++ l4) fun (l5 : List Chute) =>
    I_NewCentre_l1 g t a2 ls1 l5
def I_NewCentre (g : G) (t : TE) (a0 : Int) (a1 : List Int) (a2 : Int) (a3 : List Int) (a4 : List Int) : Option (Centre × Bool) :=
  lP (I_within g t a0 2 24) fun x1 =>
  br x1
  (
   gd (((0 : Int) ≤ a0 ∧ 16 * a0 ≤ 70368744177664 ∧ a0 ≤ 4611686018427387904)) <|
   lP (List.replicate (g.nat a0) (Item.mk 0 0)) fun (l1 : List Item) =>
   lP ([]) fun (l2 : List Int) =>
   gd (((l2.length + a4.length) * 8 ≤ 70368744177664)) <|
   lP (l2 ++ a4) fun (l3 : List Int) =>
   cl (I_NewCentre_l1 g t a2 a1 []) fun y1 =>
   cl (I_NewCentre_l2 g t a3 []) fun y2 =>
   cl (I_IsCentre g t (Centre.mk l1 y1 y2 l3 0)) fun x2 =>
   br x2
   (
    some (((Centre.mk l1 y1 y2 l3 0), true)))
   (
    some (((Centre.mk [] [] [] [] 0), false))))
  (
   some (((Centre.mk [] [] [] [] 0), false)))
theorem fit46 : codeFit Try.prog Try.f46.ntmps (Try.f46.body.getD .skip) ir46 = true := by kernel_rfl
theorem c_I_NewCentre {g : G} {t : TE} {a0 : Int} {a1 : List Int} {a2 : Int} {a3 : List Int} {a4 : List Int} {r : Centre × Bool} (hg : g = G.real) (ht : t = TE.real) (h : I_NewCentre g t a0 a1 a2 a3 a4 = some r) : Fn Try.prog 46 [.c (.v (.int .i64 a0)), .c (.s 1 (t.r_I64 a1)), .c (.v (.int .i64 a2)), .c (.s 1 (t.r_I64 a3)), .c (.s 1 (t.r_I64 a4))] (.u [.g (Centre.ds t r.1), .c (.r (.v (.bool r.2)))]) := by
  obtain ⟨X, hX⟩ := hide (.u [.g (Centre.ds t r.1), .c (.r (.v (.bool r.2)))] : X)
  rw [← hX]
  refine fn_of (rvs := rv46) (j := ir46) Try.func46 rfl fit46 (Nat.le_of_ble_eq_true rfl) (by kernel_rfl) prog_mixed ?_
  intro g2 F hg2 hF
  obtain rfl : g2 = g := hg2.unique.trans hg.symm
  clear hg2
  obtain ⟨wrap, lt, le, eq, quo, rem, band, bor, bxor, shl, shr, nat, int, add, sub, mul, cat, seq, slt, sub3, byte, llen, nadd, nsub, dlen, dapp, dset, drep, rd, rda, up, rsub, dsub, all, sle, slen, hasI, putI, hasS, putS, imin, imax, fzc⟩ := g2
  obtain ⟨r_Item, d_Item, r_Chute, d_Chute, r_Inlet, d_Inlet, r_I64, d_I64, r_U8, d_U8, d_InletF⟩ := t
  have hnil_Item : d_Item [] = [] := d_nil_Item ht
  have hnil_Chute : d_Chute [] = [] := d_nil_Chute ht
  have hnil_Inlet : d_Inlet [] = [] := d_nil_Inlet ht
  have hnil_I64 : d_I64 [] = [] := d_nil_I64 ht
  have hnil_U8 : d_U8 [] = [] := d_nil_U8 ht
  unfold I_NewCentre at h
  try dsimp only at h
  cbv
  obtain ⟨x1, hx1, h⟩ := of_lP h
  try dsimp only at h
  refine ACall.mk _ _ rfl (hF _ _ _ (c_I_within hg ht hx1)) (.inl rfl) (Nat.le_of_ble_eq_true rfl) ?_
  cbv
  cases hb1 : x1 with
  | true =>
    rw [br_true hb1] at h
    cbv
    obtain ⟨hc4, h⟩ := of_gd h
    refine AStep.mk (mk_ok hc4) ?_
    cbv
    obtain ⟨l1, hl1, h⟩ := of_lP h
    try dsimp only at h
    refine ANew.mk (d_Item l1) (dlen (d_Item l1)) (by rw [← hl1]; exact drep_Item hg ht _ (Item.mk 0 0)) (by rw [← hl1]; exact drepn_Item hg ht _ (Item.mk 0 0)) ?_
    cbv
    obtain ⟨l2, hl2, h⟩ := of_lP h
    try dsimp only at h
    refine ANew.mk (d_I64 l2) (dlen (d_I64 l2)) (by rw [← hl2]; exact lit_I64 hg ht []) (by rw [← hl2]; exact litn_I64 hg ht []) ?_
    cbv
    obtain ⟨hc3, h⟩ := of_gd h
    refine AStep.mk (app_ok_I64 hg ht (dlen_I64 hg ht _) (up_I64 hg ht _) hc3) ?_
    cbv
    obtain ⟨l3, hl3, h⟩ := of_lP h
    try dsimp only at h
    refine ANew.mk (d_I64 l3) (dlen (d_I64 l3)) (by rw [← hl3]; exact app_I64 hg ht (dlen_I64 hg ht _) (up_I64 hg ht _)) (by rw [← hl3]; exact appl_I64 hg ht (dlen_I64 hg ht _) (up_I64 hg ht _)) ?_
    cbv
    obtain ⟨o1, ho1, h⟩ := of_cl h
    try dsimp only at h
    try rw [hg] at ho1
    try rw [ht] at ho1
    refine ABL.mk { p : Nat × Int × List Chute // p.1 ≤ a1.length ∧ p.2.1 = ((p.1 : Nat) : Int) ∧ I_NewCentre_l1 G.real TE.real a2 (List.drop p.1 a1) p.2.2 = some o1 } (fun ⟨⟨k1, v1, w1⟩, _⟩ => ({ sl := [(2, .c (.r (.v (.int .i64 a2)))), (3, .c (.r (.s 1 (r_I64 a3)))), (10, .c (.p 0 5 0 0)), (12, .c (.p 1 5 0 0)), (27, .c (.r (.s 1 (r_I64 a1)))), (28, .c (.r (.v (.int .i64 (llen (r_I64 a1)))))), (29, .c (.r (.v (.int .i64 v1))))], tab := [(0, some (.foc 5 [] [.n 2, .n 3, .n 2, .n 1, .r (.v (.int .i64 0))] [])), (1, some (.foc 5 [] [.f 2 2 0 (dlen (d_Item l1)), .f 3 3 0 (dlen (d_Chute w1)), .n 2, .f 4 1 0 (dlen (d_I64 l3)), .r (.v (.int .i64 0))] [])), (2, some (.arr 2 (d_Item l1))), (3, some (.arr 3 (d_Chute w1))), (4, some (.arr 1 (d_I64 l3)))] } : St)) 5 (fun p => a1.length - p.1.1) ⟨(0, 0, []), Nat.zero_le _, rfl, ho1⟩ (List Chute) (fun y1 => ({ sl := [(3, .c (.r (.s 1 (r_I64 a3)))), (10, .c (.p 0 5 0 0)), (12, .c (.p 1 5 0 0))], tab := [(0, some (.foc 5 [] [.n 2, .n 3, .n 2, .n 1, .r (.v (.int .i64 0))] [])), (1, some (.foc 5 [] [.f 2 2 0 (dlen (d_Item l1)), .f 3 3 0 (dlen (d_Chute y1)), .n 2, .f 4 1 0 (dlen (d_I64 l3)), .r (.v (.int .i64 0))] [])), (2, some (.arr 2 (d_Item l1))), (3, some (.arr 3 (d_Chute y1))), (4, some (.arr 1 (d_I64 l3)))] } : St)) 5 (fun y => o1 = y) ?_ ?_ ?_
    · refine Wk.of [(0, some 0), (1, some 176), (2, some 96), (3, none), (4, some 144)] rfl rfl ?_ ?_
      · cbv
        all_goals try rw [show dlen (d_Chute []) = 0 from dlen_nil_Chute hg ht]
        all_goals try rw [hnil_Chute]
        all_goals exact ⟨⟨_, rfl, rfl⟩, ⟨_, rfl, rfl⟩, ⟨_, rfl, rfl⟩, ⟨_, rfl, rfl⟩, ⟨_, rfl, rfl⟩, ⟨_, rfl, rfl⟩, ⟨_, rfl, rfl⟩, trivial⟩
      · cbv
        all_goals try rw [show dlen (d_Chute []) = 0 from dlen_nil_Chute hg ht]
        all_goals try rw [hnil_Chute]
        all_goals exact ⟨⟨_, rfl, _, rfl, rfl, rfl, rfl, rfl, rfl, trivial⟩, ⟨_, rfl, _, rfl, rfl, ⟨⟨_, rfl⟩, rfl, rfl⟩, rfl, rfl, rfl, trivial⟩, ⟨_, rfl, rfl⟩, ⟨_, rfl⟩, ⟨_, rfl, rfl⟩, trivial⟩
    · rintro ⟨⟨k1, v1, w1⟩, hk1, hi1, h_1⟩ hq1
      have hm1 := (hq1.1 27 _ _ rfl)
      try dsimp only at hk1 hi1 h_1
      clear hq1
      cbv
      by_cases hc1_ : k1 < a1.length
      · have hb2 : lt v1 (llen (r_I64 a1)) = true := ltL_true_I64 hg ht hi1 hc1_
        have hs1 := stepL_I64 hg ht hi1 hc1_ hm1
        obtain ⟨z1, hz1⟩ := some_of_lt hc1_
        rw [drop_of_some hz1] at h_1
        rw [I_NewCentre_l1] at h_1
        try rw [← hg] at h_1
        try rw [← ht] at h_1
        try dsimp only at h_1
        rw [hb2]
        cbv
        refine AStep.mk (nn_L hi1) ?_
        cbv
        refine AGet.mk _ (r_getL_I64 hg ht hi1 hz1) ?_
        cbv
        obtain ⟨l4, hl4, h_1⟩ := of_lP h_1
        try dsimp only at h_1
        refine ANew.mk (d_Chute l4) (dlen (d_Chute l4)) (by rw [← hl4]; have e := lit_Chute hg ht [(Chute.mk z1 a2 [])]; dsimp only [List.map, Chute.ds] at e; (try simp only [hnil_Item, hnil_Chute, hnil_Inlet, hnil_I64, hnil_U8] at e); exact e) (by rw [← hl4]; exact litn_Chute hg ht [(Chute.mk z1 a2 [])]) ?_
        cbv
        obtain ⟨hc1, h_1⟩ := of_gd h_1
        refine AStep.mk ⟨⟨rfl, (dlen_Chute hg ht _)⟩, (app_ok_Chute hg ht (dlen_Chute hg ht _) rfl hc1)⟩ ?_
        cbv
        obtain ⟨l5, hl5, h_1⟩ := of_lP h_1
        try dsimp only at h_1
        refine ANew.mk (d_Chute l5) (dlen (d_Chute l5)) (by rw [← hl5]; exact app_Chute hg ht (dlen_Chute hg ht _) rfl) (by rw [← hl5]; exact appl_Chute hg ht (dlen_Chute hg ht _) rfl) ?_
        cbv
        try rw [hg] at h_1
        try rw [ht] at h_1
        refine ⟨⟨(k1 + 1, (wrap .i64 (add v1 1)), l5), hc1_, hs1, h_1⟩, Wk.of [(0, some 0), (1, some 1), (2, some 2), (3, some 165), (4, some 4)] rfl rfl ?_ ?_, meas_L hc1_⟩
        · cbv
          all_goals exact ⟨⟨_, rfl, rfl⟩, ⟨_, rfl, rfl⟩, ⟨_, rfl, rfl⟩, ⟨_, rfl, rfl⟩, ⟨_, rfl, rfl⟩, ⟨_, rfl, rfl⟩, ⟨_, rfl, rfl⟩, trivial⟩
        · cbv
          all_goals exact ⟨⟨_, rfl, _, rfl, rfl, rfl, rfl, rfl, rfl, trivial⟩, ⟨_, rfl, _, rfl, rfl, rfl, rfl, rfl, rfl, trivial⟩, ⟨_, rfl, rfl⟩, ⟨_, rfl, rfl⟩, ⟨_, rfl, rfl⟩, trivial⟩
      · have hb2 : lt v1 (llen (r_I64 a1)) = false := ltL_false_I64 hg ht hi1 hc1_
        rw [List.drop_of_length_le (Nat.le_of_not_lt hc1_)] at h_1
        rw [I_NewCentre_l1] at h_1
        try rw [← hg] at h_1
        try rw [← ht] at h_1
        try dsimp only at h_1
        rw [hb2]
        cbv
        refine ⟨w1, Wk.of [(0, some 0), (1, some 1), (2, some 2), (3, some 3), (4, some 4)] rfl rfl ?_ ?_, (Option.some.inj h_1).symm⟩
        · cbv
          all_goals exact ⟨⟨_, rfl, rfl⟩, ⟨_, rfl, rfl⟩, ⟨_, rfl, rfl⟩, trivial⟩
        · cbv
          all_goals exact ⟨⟨_, rfl, _, rfl, rfl, rfl, rfl, rfl, rfl, trivial⟩, ⟨_, rfl, _, rfl, rfl, rfl, rfl, rfl, rfl, trivial⟩, ⟨_, rfl, rfl⟩, ⟨_, rfl, rfl⟩, ⟨_, rfl, rfl⟩, trivial⟩
    · rintro y1 hy1
      replace hy1 := hy1.symm
      subst hy1
      try dsimp only [lr, lrL, lrp, lrpL] at h
      cbv
      obtain ⟨o2, ho2, h⟩ := of_cl h
      try dsimp only at h
      try rw [hg] at ho2
      try rw [ht] at ho2
      refine ABL.mk { p : Nat × Int × List Inlet // p.1 ≤ a3.length ∧ p.2.1 = ((p.1 : Nat) : Int) ∧ I_NewCentre_l2 G.real TE.real (List.drop p.1 a3) p.2.2 = some o2 } (fun ⟨⟨k2, v2, w2⟩, _⟩ => ({ sl := [(10, .c (.p 0 5 0 0)), (12, .c (.p 1 5 0 0)), (42, .c (.r (.s 1 (r_I64 a3)))), (43, .c (.r (.v (.int .i64 (llen (r_I64 a3)))))), (44, .c (.r (.v (.int .i64 v2))))], tab := [(0, some (.foc 5 [] [.n 2, .n 3, .n 2, .n 1, .r (.v (.int .i64 0))] [])), (1, some (.foc 5 [] [.f 2 2 0 (dlen (d_Item l1)), .f 3 3 0 (dlen (d_Chute y1)), .f 4 2 0 (dlen (d_Inlet w2)), .f 5 1 0 (dlen (d_I64 l3)), .r (.v (.int .i64 0))] [])), (2, some (.arr 2 (d_Item l1))), (3, some (.arr 3 (d_Chute y1))), (4, some (.arr 2 (d_Inlet w2))), (5, some (.arr 1 (d_I64 l3)))] } : St)) 6 (fun p => a3.length - p.1.1) ⟨(0, 0, []), Nat.zero_le _, rfl, ho2⟩ (List Inlet) (fun y2 => ({ sl := [(10, .c (.p 0 5 0 0)), (12, .c (.p 1 5 0 0))], tab := [(0, some (.foc 5 [] [.n 2, .n 3, .n 2, .n 1, .r (.v (.int .i64 0))] [])), (1, some (.foc 5 [] [.f 2 2 0 (dlen (d_Item l1)), .f 3 3 0 (dlen (d_Chute y1)), .f 4 2 0 (dlen (d_Inlet y2)), .f 5 1 0 (dlen (d_I64 l3)), .r (.v (.int .i64 0))] [])), (2, some (.arr 2 (d_Item l1))), (3, some (.arr 3 (d_Chute y1))), (4, some (.arr 2 (d_Inlet y2))), (5, some (.arr 1 (d_I64 l3)))] } : St)) 6 (fun y => o2 = y) ?_ ?_ ?_
      · refine Wk.of [(0, some 0), (1, some 1), (2, some 2), (3, some 3), (4, none), (5, some 4)] rfl rfl ?_ ?_
        · cbv
          all_goals try rw [show dlen (d_Inlet []) = 0 from dlen_nil_Inlet hg ht]
          all_goals try rw [hnil_Inlet]
          all_goals exact ⟨⟨_, rfl, rfl⟩, ⟨_, rfl, rfl⟩, ⟨_, rfl, rfl⟩, ⟨_, rfl, rfl⟩, ⟨_, rfl, rfl⟩, trivial⟩
        · cbv
          all_goals try rw [show dlen (d_Inlet []) = 0 from dlen_nil_Inlet hg ht]
          all_goals try rw [hnil_Inlet]
          all_goals exact ⟨⟨_, rfl, _, rfl, rfl, rfl, rfl, rfl, rfl, trivial⟩, ⟨_, rfl, _, rfl, rfl, rfl, ⟨⟨_, rfl⟩, rfl, rfl⟩, rfl, rfl, trivial⟩, ⟨_, rfl, rfl⟩, ⟨_, rfl, rfl⟩, ⟨_, rfl⟩, ⟨_, rfl, rfl⟩, trivial⟩
      · rintro ⟨⟨k2, v2, w2⟩, hk2, hi2, h_2⟩ hq2
        have hm2 := (hq2.1 42 _ _ rfl)
        try dsimp only at hk2 hi2 h_2
        clear hq2
        cbv
        by_cases hc2_ : k2 < a3.length
        · have hb3 : lt v2 (llen (r_I64 a3)) = true := ltL_true_I64 hg ht hi2 hc2_
          have hs2 := stepL_I64 hg ht hi2 hc2_ hm2
          obtain ⟨z2, hz2⟩ := some_of_lt hc2_
          rw [drop_of_some hz2] at h_2
          rw [I_NewCentre_l2] at h_2
          try rw [← hg] at h_2
          try rw [← ht] at h_2
          try dsimp only at h_2
          rw [hb3]
          cbv
          refine AStep.mk (nn_L hi2) ?_
          cbv
          refine AGet.mk _ (r_getL_I64 hg ht hi2 hz2) ?_
          cbv
          obtain ⟨l6, hl6, h_2⟩ := of_lP h_2
          try dsimp only at h_2
          refine ANew.mk (d_Inlet l6) (dlen (d_Inlet l6)) (by rw [← hl6]; have e := lit_Inlet hg ht [(Inlet.mk z2 [])]; dsimp only [List.map, Inlet.ds] at e; (try simp only [hnil_Item, hnil_Chute, hnil_Inlet, hnil_I64, hnil_U8] at e); exact e) (by rw [← hl6]; exact litn_Inlet hg ht [(Inlet.mk z2 [])]) ?_
          cbv
          obtain ⟨hc2, h_2⟩ := of_gd h_2
          refine AStep.mk ⟨⟨rfl, (dlen_Inlet hg ht _)⟩, (app_ok_Inlet hg ht (dlen_Inlet hg ht _) rfl hc2)⟩ ?_
          cbv
          obtain ⟨l7, hl7, h_2⟩ := of_lP h_2
          try dsimp only at h_2
          refine ANew.mk (d_Inlet l7) (dlen (d_Inlet l7)) (by rw [← hl7]; exact app_Inlet hg ht (dlen_Inlet hg ht _) rfl) (by rw [← hl7]; exact appl_Inlet hg ht (dlen_Inlet hg ht _) rfl) ?_
          cbv
          try rw [hg] at h_2
          try rw [ht] at h_2
          refine ⟨⟨(k2 + 1, (wrap .i64 (add v2 1)), l7), hc2_, hs2, h_2⟩, Wk.of [(0, some 0), (1, some 1), (2, some 2), (3, some 3), (4, some 150), (5, some 5)] rfl rfl ?_ ?_, meas_L hc2_⟩
          · cbv
            all_goals exact ⟨⟨_, rfl, rfl⟩, ⟨_, rfl, rfl⟩, ⟨_, rfl, rfl⟩, ⟨_, rfl, rfl⟩, ⟨_, rfl, rfl⟩, trivial⟩
          · cbv
            all_goals exact ⟨⟨_, rfl, _, rfl, rfl, rfl, rfl, rfl, rfl, trivial⟩, ⟨_, rfl, _, rfl, rfl, rfl, rfl, rfl, rfl, trivial⟩, ⟨_, rfl, rfl⟩, ⟨_, rfl, rfl⟩, ⟨_, rfl, rfl⟩, ⟨_, rfl, rfl⟩, trivial⟩
        · have hb3 : lt v2 (llen (r_I64 a3)) = false := ltL_false_I64 hg ht hi2 hc2_
          rw [List.drop_of_length_le (Nat.le_of_not_lt hc2_)] at h_2
          rw [I_NewCentre_l2] at h_2
          try rw [← hg] at h_2
          try rw [← ht] at h_2
          try dsimp only at h_2
          rw [hb3]
          cbv
          refine ⟨w2, Wk.of [(0, some 0), (1, some 1), (2, some 2), (3, some 3), (4, some 4), (5, some 5)] rfl rfl ?_ ?_, (Option.some.inj h_2).symm⟩
          · cbv
            all_goals exact ⟨⟨_, rfl, rfl⟩, ⟨_, rfl, rfl⟩, trivial⟩
          · cbv
            all_goals exact ⟨⟨_, rfl, _, rfl, rfl, rfl, rfl, rfl, rfl, trivial⟩, ⟨_, rfl, _, rfl, rfl, rfl, rfl, rfl, rfl, trivial⟩, ⟨_, rfl, rfl⟩, ⟨_, rfl, rfl⟩, ⟨_, rfl, rfl⟩, ⟨_, rfl, rfl⟩, trivial⟩
      · rintro y2 hy2
        replace hy2 := hy2.symm
        subst hy2
        try dsimp only [lr, lrL, lrp, lrpL] at h
        cbv
        refine AStep.mk ⟨(lend_Item ht (dlen_Item hg ht _)), ⟨(lend_Chute ht (dlen_Chute hg ht _)), ⟨(lend_Inlet ht (dlen_Inlet hg ht _)), (lend_I64 ht (dlen_I64 hg ht _))⟩⟩⟩ ?_
        cbv
        obtain ⟨x2, hx2, h⟩ := of_cl h
        try dsimp only at h
        refine ACall.mk _ _ (by rw [show rd (d_Item l1) 0 (dlen (d_Item l1)) = r_Item l1 from rdw_Item hg ht (dlen_Item hg ht _), show rd (d_Chute y1) 0 (dlen (d_Chute y1)) = r_Chute y1 from rdw_Chute hg ht (dlen_Chute hg ht _), show rd (d_Inlet y2) 0 (dlen (d_Inlet y2)) = r_Inlet y2 from rdw_Inlet hg ht (dlen_Inlet hg ht _), show rd (d_I64 l3) 0 (dlen (d_I64 l3)) = r_I64 l3 from rdw_I64 hg ht (dlen_I64 hg ht _)]; try rfl) (hF _ _ _ (c_I_IsCentre hg ht hx2)) (.inr rfl) (Nat.le_of_ble_eq_true rfl) ?_
        cbv
        cases hb4 : x2 with
        | true =>
          rw [br_true hb4] at h
          cbv
          obtain rfl := Option.some.inj h
          exact ARet.mk ⟨⟨rfl, (dlen_Item hg ht _)⟩, ⟨⟨rfl, (dlen_Chute hg ht _)⟩, ⟨⟨rfl, (dlen_Inlet hg ht _)⟩, ⟨rfl, (dlen_I64 hg ht _)⟩⟩⟩⟩ hX.symm
        | false =>
          rw [br_false hb4] at h
          cbv
          obtain rfl := Option.some.inj h
          exact ARet.mk trivial (by rw [hX]; first | rfl | (simp only [Item.ds, Inlet.ds, Chute.ds, Centre.ds, Cur.ds, CentreF.ds, InletF.ds, hnil_Chute, hnil_I64, hnil_Inlet, hnil_Item]; try rfl))
  | false =>
    rw [br_false hb1] at h
    cbv
    obtain rfl := Option.some.inj h
    exact ARet.mk trivial (by rw [hX]; first | rfl | (simp only [Item.ds, Inlet.ds, Chute.ds, Centre.ds, Cur.ds, CentreF.ds, InletF.ds, hnil_Chute, hnil_I64, hnil_Inlet, hnil_Item]; try rfl))
end Go.Vs
namespace Go.Vs
set_option maxRecDepth 100000
def ir71 : J :=
  .seq (.reg none [⟨(some 3), none, .box (.t 0)⟩,
     ⟨(some 5), none, .box (.t 2)⟩,
     ⟨(some 6), none, .alloc [.n 2, .n 3, .n 2, .n 1, .r (.v (.int .i64 0))]⟩,
     ⟨(some 7), none, .mv (.k (V.b false))⟩] [1, 3, 5, 6])
  (.seq (.reg none [⟨(some 9), none, .ld true 5 (.t 3)⟩,
     ⟨(some 10), none, .call 94 true [(.t 9)]⟩,
     ⟨(some 8), none, .alloc [.n 2, .n 3, .n 2, .n 1, .r (.v (.int .i64 0))]⟩,
     ⟨none, none, .st 5 (.t 8) (.t 10)⟩] [1, 3, 5, 6, 8])
  (.seq (.seq (.reg none [⟨(some 11), none, .ld true 5 (.t 3)⟩,
      ⟨(some 12), none, .call 32 true [(.t 11)]⟩,
      ⟨(some 13), none, .not (.t 12)⟩,
      ⟨(some 14), none, .mv (.t 13)⟩,
      ⟨(some 15), (some (14, false)), .mv (.t 1)⟩,
      ⟨(some 16), (some (14, false)), .bin .lss .i (.t 15) (.k (V.i 0))⟩,
      ⟨(some 17), none, .pick (.t 14) (.k (V.b true)) (.t 16)⟩,
      ⟨(some 18), none, .mv (.t 17)⟩,
      ⟨(some 19), (some (18, false)), .mv (.t 1)⟩,
      ⟨(some 20), (some (18, false)), .fa 2 (.t 3)⟩,
      ⟨(some 21), (some (18, false)), .ld false 1 (.t 20)⟩,
      ⟨(some 22), (some (18, false)), .len false (.t 21)⟩,
      ⟨(some 23), (some (18, false)), .bin .geq .i (.t 19) (.t 22)⟩,
      ⟨(some 24), none, .pick (.t 18) (.k (V.b true)) (.t 23)⟩] [1, 3, 5, 6, 8, 24])
   (.cond (.t 24)
    (.seq (.reg none [⟨(some 25), none, .ld true 5 (.t 8)⟩,
        ⟨none, none, .st 5 (.t 6) (.t 25)⟩,
        ⟨(some 7), none, .mv (.k (V.b false))⟩] [6, 7])
     (.ret))
    (.skip)))
  (.seq (.gh (.ga (.reg (some [[], [0], [], [], [3], [], [3, 4, 5], [3, 4, 5, 6], [3, 4, 5, 6, 7], [], [9], [3, 4, 5, 6, 7, 8, 9, 10], [0, 1, 2, 3, 4, 5, 6, 7, 8, 9, 10, 11], [0, 1, 2, 3, 4, 5, 6, 7, 8, 9, 10, 11, 12], [0, 1, 2, 3, 4, 5, 6, 7, 8, 9, 10, 11, 12, 13]]) [⟨(some 26), none, .fa 2 (.t 8)⟩,
      ⟨(some 27), none, .ld false 1 (.t 26)⟩,
      ⟨(some 28), none, .mv (.t 1)⟩,
      ⟨(some 29), none, .fa 2 (.t 8)⟩,
      ⟨(some 30), none, .ld false 1 (.t 29)⟩,
      ⟨(some 31), none, .mv (.t 1)⟩,
      ⟨(some 32), none, .ia 2 (.t 30) (.t 31)⟩,
      ⟨(some 33), none, .fa 1 (.t 32)⟩,
      ⟨(some 34), none, .ld false 1 (.t 33)⟩,
      ⟨(some 35), none, .ld true 2 (.t 5)⟩,
      ⟨(some 36), none, .bsl 2 [(.t 35)]⟩,
      ⟨(some 37), none, .app 2 16 true (.t 34) (.t 36)⟩,
      ⟨(some 38), none, .ia 2 (.t 27) (.t 28)⟩,
      ⟨(some 39), none, .fa 1 (.t 38)⟩,
      ⟨none, none, .st 1 (.t 39) (.t 37)⟩] [3, 6, 8])))
  (.seq (.seq (.reg none [⟨(some 40), none, .ld true 5 (.t 8)⟩,
      ⟨(some 41), none, .call 32 true [(.t 40)]⟩,
      ⟨(some 42), none, .not (.t 41)⟩] [3, 6, 8, 42])
   (.cond (.t 42)
    (.seq (.reg none [⟨(some 43), none, .ld true 5 (.t 3)⟩,
        ⟨(some 44), none, .call 94 true [(.t 43)]⟩,
        ⟨none, none, .st 5 (.t 6) (.t 44)⟩,
        ⟨(some 7), none, .mv (.k (V.b false))⟩] [6, 7])
     (.ret))
    (.skip)))
  (.seq (.reg none [⟨(some 45), none, .ld true 5 (.t 8)⟩,
     ⟨none, none, .st 5 (.t 6) (.t 45)⟩,
     ⟨(some 7), none, .mv (.k (V.b true))⟩] [6, 7])
  (.ret))))))
def rv71 : List RV := [.c 6 true 5, .t 7]
open Go.Proofs Go.IntWalk
set_option linter.unusedVariables false
set_option maxRecDepth 100000
set_option maxHeartbeats 4000000
def I_FeedCentre (g : G) (t : TE) (a0 : Centre) (a1 : Int) (a2 : Item) : Option (Centre × Bool) :=
  cl (I_copyCentre g t a0) fun x1 =>
  cl (I_IsCentre g t a0) fun x2 =>
  br x2
  (
   br (g.lt a1 0)
   (
    some ((x1, false)))
   (
    br (g.le (g.llen (t.r_Inlet a0.Inlets)) a1)
    (
     some ((x1, false)))
    (
     gt x1.Inlets (g.nat a1) fun x3 =>
     gd (((0 : Int) ≤ a1 ∧ a1 < (((g.dlen (t.d_Inlet x1.Inlets)) : Nat) : Int))) <|
     lP ([a2]) fun (l1 : List Item) =>
     gd (((x3.Wait.length + l1.length) * 16 ≤ 70368744177664)) <|
     lP (x3.Wait ++ l1) fun (l2 : List Item) =>
     gd (((0 : Int) ≤ a1 ∧ a1 < (((g.dlen (t.d_Inlet x1.Inlets)) : Nat) : Int))) <|
     lP (List.set x1.Inlets (g.nat a1) (Inlet.mk x3.Cell l2)) fun (l3 : List Inlet) =>
     cl (I_IsCentre g t (Centre.mk x1.Belt x1.Chutes l3 x1.Plan x1.Now)) fun x4 =>
     br x4
     (
      some (((Centre.mk x1.Belt x1.Chutes l3 x1.Plan x1.Now), true)))
     (
      cl (I_copyCentre g t a0) fun x5 =>
      some ((x5, false))))))
  (
   some ((x1, false)))
theorem fit71 : codeFit Try.prog Try.f71.ntmps (Try.f71.body.getD .skip) ir71 = true := by kernel_rfl
theorem c_I_FeedCentre {g : G} {t : TE} {a0 : Centre} {a1 : Int} {a2 : Item} {r : Centre × Bool} (hg : g = G.real) (ht : t = TE.real) (h : I_FeedCentre g t a0 a1 a2 = some r) : Fn Try.prog 71 [.g (Centre.rs t a0), .c (.v (.int .i64 a1)), .g (Item.rs t a2)] (.u [.g (Centre.ds t r.1), .c (.r (.v (.bool r.2)))]) := by
  obtain ⟨X, hX⟩ := hide (.u [.g (Centre.ds t r.1), .c (.r (.v (.bool r.2)))] : X)
  rw [← hX]
  refine fn_of (rvs := rv71) (j := ir71) Try.func71 rfl fit71 (Nat.le_of_ble_eq_true rfl) (by kernel_rfl) prog_mixed ?_
  intro g2 F hg2 hF
  obtain rfl : g2 = g := hg2.unique.trans hg.symm
  clear hg2
  obtain ⟨wrap, lt, le, eq, quo, rem, band, bor, bxor, shl, shr, nat, int, add, sub, mul, cat, seq, slt, sub3, byte, llen, nadd, nsub, dlen, dapp, dset, drep, rd, rda, up, rsub, dsub, all, sle, slen, hasI, putI, hasS, putS, imin, imax, fzc⟩ := g2
  obtain ⟨r_Item, d_Item, r_Chute, d_Chute, r_Inlet, d_Inlet, r_I64, d_I64, r_U8, d_U8, d_InletF⟩ := t
  obtain ⟨a0_Belt, a0_Chutes, a0_Inlets, a0_Plan, a0_Now⟩ := a0
  obtain ⟨a2_Id, a2_Dest⟩ := a2
  unfold I_FeedCentre at h
  try dsimp only at h
  cbv
  obtain ⟨x1, hx1, h⟩ := of_cl h
  obtain ⟨x1_Belt, x1_Chutes, x1_Inlets, x1_Plan, x1_Now⟩ := x1
  try dsimp only at h
  refine ACall.mk _ _ rfl (hF _ _ _ (c_I_copyCentre hg ht hx1)) (.inl rfl) (Nat.le_of_ble_eq_true rfl) ?_
  cbv
  obtain ⟨x2, hx2, h⟩ := of_cl h
  try dsimp only at h
  refine ACall.mk _ _ rfl (hF _ _ _ (c_I_IsCentre hg ht hx2)) (.inl rfl) (Nat.le_of_ble_eq_true rfl) ?_
  cbv
  cases hb1 : x2 with
  | true =>
    rw [br_true hb1] at h
    cbv
    try (rw [hb1]; cbv)
    try (rw [hb1]; cbv)
    cases hb2 : (lt a1 0) with
    | true =>
      rw [br_true hb2] at h
      cbv
      try (rw [hb2]; cbv)
      try (rw [hb2]; cbv)
      try (rw [hb2]; cbv)
      try (rw [hb2]; cbv)
      try (rw [hb2]; cbv)
      obtain rfl := Option.some.inj h
      exact ARet.mk ⟨⟨rfl, (dlen_Item hg ht _)⟩, ⟨⟨rfl, (dlen_Chute hg ht _)⟩, ⟨⟨rfl, (dlen_Inlet hg ht _)⟩, ⟨rfl, (dlen_I64 hg ht _)⟩⟩⟩⟩ hX.symm
    | false =>
      rw [br_false hb2] at h
      cbv
      try (rw [hb2]; cbv)
      try (rw [hb2]; cbv)
      try (rw [hb2]; cbv)
      try (rw [hb2]; cbv)
      try (rw [hb2]; cbv)
      cases hb3 : (le (llen (r_Inlet a0_Inlets)) a1) with
      | true =>
        rw [br_true hb3] at h
        cbv
        obtain rfl := Option.some.inj h
        exact ARet.mk ⟨⟨rfl, (dlen_Item hg ht _)⟩, ⟨⟨rfl, (dlen_Chute hg ht _)⟩, ⟨⟨rfl, (dlen_Inlet hg ht _)⟩, ⟨rfl, (dlen_I64 hg ht _)⟩⟩⟩⟩ hX.symm
      | false =>
        rw [br_false hb3] at h
        cbv
        obtain ⟨x3, hx3, h⟩ := of_gt h
        obtain ⟨x3_Cell, x3_Wait⟩ := x3
        try dsimp only at h
        refine AGh.opn 82 2 (nat a1) (d_Inlet x1_Inlets) _ rfl (d_get_Inlet hg ht hx3) rfl ?_
        cbv
        refine AGh.nil ?_
        cbv
        obtain ⟨hc1, h⟩ := of_gd h
        refine AStep.mk hc1 ?_
        cbv
        refine AStep.mk rfl ?_
        cbv
        obtain ⟨l1, hl1, h⟩ := of_lP h
        try dsimp only at h
        refine ANew.mk (d_Item l1) (dlen (d_Item l1)) (by rw [← hl1]; exact lit_Item hg ht [(Item.mk a2_Id a2_Dest)]) (by rw [← hl1]; exact litn_Item hg ht [(Item.mk a2_Id a2_Dest)]) ?_
        cbv
        obtain ⟨hc3, h⟩ := of_gd h
        refine AStep.mk ⟨⟨rfl, (dlen_Item hg ht _)⟩, (app_ok_Item hg ht (dlen_Item hg ht _) rfl hc3)⟩ ?_
        cbv
        obtain ⟨l2, hl2, h⟩ := of_lP h
        try dsimp only at h
        refine ANew.mk (d_Item l2) (dlen (d_Item l2)) (by rw [← hl2]; exact app_Item hg ht (dlen_Item hg ht _) rfl) (by rw [← hl2]; exact appl_Item hg ht (dlen_Item hg ht _) rfl) ?_
        cbv
        obtain ⟨hc2, h⟩ := of_gd h
        refine AStep.mk hc2 ?_
        cbv
        refine AStep.mk rfl ?_
        cbv
        obtain ⟨l3, hl3, h⟩ := of_lP h
        try dsimp only at h
        refine AGh.cls 82 2 (nat a1) (d_Inlet x1_Inlets) _ _ _ _ (d_Inlet l3) rfl rfl ⟨rfl, (dlen_Item hg ht _)⟩ (by rw [← hl3]; exact dset_Inlet hg ht _ _ (Inlet.mk x3_Cell l2)) ?_
        have hnl3 : (dlen (d_Inlet x1_Inlets)) = (d_Inlet l3).length := (by rw [← hl3, dsetl_Inlet ht]; exact (dlen_Inlet hg ht _))
        cbv
        refine AGh.nil ?_
        cbv
        refine AStep.mk ⟨(lend_Item ht (dlen_Item hg ht _)), ⟨(lend_Chute ht (dlen_Chute hg ht _)), ⟨(lend_Inlet ht hnl3), (lend_I64 ht (dlen_I64 hg ht _))⟩⟩⟩ ?_
        cbv
        obtain ⟨x4, hx4, h⟩ := of_cl h
        try dsimp only at h
        refine ACall.mk _ _ (by rw [show rd (d_Item x1_Belt) 0 (dlen (d_Item x1_Belt)) = r_Item x1_Belt from rdw_Item hg ht (dlen_Item hg ht _), show rd (d_Chute x1_Chutes) 0 (dlen (d_Chute x1_Chutes)) = r_Chute x1_Chutes from rdw_Chute hg ht (dlen_Chute hg ht _), show rd (d_Inlet l3) 0 (dlen (d_Inlet x1_Inlets)) = r_Inlet l3 from rdw_Inlet hg ht hnl3, show rd (d_I64 x1_Plan) 0 (dlen (d_I64 x1_Plan)) = r_I64 x1_Plan from rdw_I64 hg ht (dlen_I64 hg ht _)]; try rfl) (hF _ _ _ (c_I_IsCentre hg ht hx4)) (.inr rfl) (Nat.le_of_ble_eq_true rfl) ?_
        cbv
        cases hb4 : x4 with
        | true =>
          rw [br_true hb4] at h
          cbv
          obtain rfl := Option.some.inj h
          exact ARet.mk ⟨⟨rfl, (dlen_Item hg ht _)⟩, ⟨⟨rfl, (dlen_Chute hg ht _)⟩, ⟨⟨rfl, hnl3⟩, ⟨rfl, (dlen_I64 hg ht _)⟩⟩⟩⟩ hX.symm
        | false =>
          rw [br_false hb4] at h
          cbv
          obtain ⟨x5, hx5, h⟩ := of_cl h
          obtain ⟨x5_Belt, x5_Chutes, x5_Inlets, x5_Plan, x5_Now⟩ := x5
          try dsimp only at h
          refine ACall.mk _ _ rfl (hF _ _ _ (c_I_copyCentre hg ht hx5)) (.inl rfl) (Nat.le_of_ble_eq_true rfl) ?_
          cbv
          obtain rfl := Option.some.inj h
          exact ARet.mk ⟨⟨rfl, (dlen_Item hg ht _)⟩, ⟨⟨rfl, (dlen_Chute hg ht _)⟩, ⟨⟨rfl, (dlen_Inlet hg ht _)⟩, ⟨rfl, (dlen_I64 hg ht _)⟩⟩⟩⟩ hX.symm
  | false =>
    rw [br_false hb1] at h
    cbv
    try (rw [hb1]; cbv)
    try (rw [hb1]; cbv)
    obtain rfl := Option.some.inj h
    exact ARet.mk ⟨⟨rfl, (dlen_Item hg ht _)⟩, ⟨⟨rfl, (dlen_Chute hg ht _)⟩, ⟨⟨rfl, (dlen_Inlet hg ht _)⟩, ⟨rfl, (dlen_I64 hg ht _)⟩⟩⟩⟩ hX.symm
end Go.Vs
