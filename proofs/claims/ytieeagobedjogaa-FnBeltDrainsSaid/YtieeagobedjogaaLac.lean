/- Part of the proofs of this seat's laws: Lac. No condition. -/
import Derived.Test.YtieeagobedjogaaTy
import Derived.Test.YtieeagobedjogaaTIRall
import Derived.Test.YtieeagobedjogaaLaa
import Derived.Test.YtieeagobedjogaaLab
set_option linter.unusedVariables false
set_option linter.unusedSimpArgs false
set_option linter.unusedSectionVars false
namespace Go.Vs
set_option maxRecDepth 100000
def ir72 : J :=
  .seq (.reg none [⟨(some 2), none, .box (.t 0)⟩,
     ⟨(some 4), none, .alloc [.n 2, .n 3, .n 2, .n 1, .r (.v (.int .i64 0))]⟩] [1, 2, 4])
  (.seq (.reg none [⟨(some 7), none, .ld true 5 (.t 2)⟩,
     ⟨(some 8), none, .call 106 true [(.t 7)]⟩,
     ⟨(some 5), none, .alloc [.n 2, .n 3, .n 2, .n 1, .r (.v (.int .i64 0))]⟩,
     ⟨none, none, .st 5 (.t 5) (.t 8)⟩] [1, 2, 4, 5])
  (.seq (.seq (.reg none [⟨(some 9), none, .ld true 5 (.t 2)⟩,
      ⟨(some 10), none, .call 31 true [(.t 9)]⟩,
      ⟨(some 11), none, .not (.t 10)⟩,
      ⟨(some 12), none, .mv (.t 11)⟩,
      ⟨(some 13), (some (12, false)), .mv (.t 1)⟩,
      ⟨(some 14), (some (12, false)), .call 85 true [(.t 13), (.k (V.i 0)), (.k (V.i 1000))]⟩,
      ⟨(some 15), (some (12, false)), .not (.t 14)⟩,
      ⟨(some 16), none, .pick (.t 12) (.k (V.b true)) (.t 15)⟩,
      ⟨(some 17), none, .mv (.t 16)⟩,
      ⟨(some 18), (some (17, false)), .fa 4 (.t 2)⟩,
      ⟨(some 19), (some (17, false)), .ld false 1 (.t 18)⟩,
      ⟨(some 20), (some (17, false)), .mv (.t 1)⟩,
      ⟨(some 21), (some (17, false)), .bin .add .i (.t 19) (.t 20)⟩,
      ⟨(some 22), (some (17, false)), .bin .gtr .i (.t 21) (.k (V.i 100000))⟩,
      ⟨(some 23), none, .pick (.t 17) (.k (V.b true)) (.t 22)⟩] [1, 4, 5, 23])
   (.cond (.t 23)
    (.seq (.reg none [⟨(some 24), none, .ld true 5 (.t 5)⟩,
        ⟨none, none, .st 5 (.t 4) (.t 24)⟩] [4])
     (.ret))
    (.skip)))
  (.seq (.seq (.reg none [⟨(some 6), none, .mv (.k (V.i 0))⟩] [1, 4, 5, 6])
   (.gh (.bl 0 (.seq (.seq (.reg none [⟨(some 25), none, .mv (.t 6)⟩,
        ⟨(some 26), none, .mv (.t 1)⟩,
        ⟨(some 27), none, .bin .lss .i (.t 25) (.t 26)⟩] [1, 4, 5, 6, 27])
     (.cond (.t 27)
      (.skip)
      (.exit 0)))
    (.seq (.block 1 (.reg none [⟨(some 30), none, .callm 107 (.t 5) []⟩] [1, 4, 5, 6]))
    (.reg none [⟨(some 28), none, .mv (.t 6)⟩,
      ⟨(some 29), none, .bin .add .i (.t 28) (.k (V.i 1))⟩,
      ⟨(some 6), none, .mv (.t 29)⟩] [1, 4, 5, 6]))))))
  (.seq (.reg none [⟨(some 31), none, .ld true 5 (.t 5)⟩,
     ⟨(some 32), none, .call 106 true [(.t 31)]⟩,
     ⟨none, none, .st 5 (.t 4) (.t 32)⟩] [4])
  (.ret)))))
def rv72 : List RV := [.c 4 true 5]
open Go.Proofs Go.IntWalk
set_option linter.unusedVariables false
set_option maxRecDepth 100000
set_option maxHeartbeats 4000000
def S_RunCentre_l1 (g : G) (t : TE) : Nat → List Item → List Chute → List Inlet → List Int → Int → Option ((List Item) × (List Chute) × (List Inlet) × (List Int) × Int)
  | 0, w1, w2, w3, w4, v1 =>
    some (w1, w2, w3, w4, v1)
  | n1 + 1, w1, w2, w3, w4, v1 =>
    cl (S_l7Tick g t (Centre.mk w1 w2 w3 w4 v1)) fun x4 =>
    S_RunCentre_l1 g t n1 x4.Belt x4.Chutes x4.Inlets x4.Plan x4.Now
def S_RunCentre (g : G) (t : TE) (a0 : Centre) (a1 : Int) : Option Centre :=
  cl (S_l7Copy g t a0) fun x1 =>
  cl (S_IsCentre g t a0) fun x2 =>
  br x2
  (
   lP (S_l1In g t a1 0 1000) fun x3 =>
   br x3
   (
    br (g.lt 100000 (g.wrap .i64 (g.add a0.Now a1)))
    (
     some x1)
    (
     gd ((a1 ≤ 4611686018427387904)) <|
     cl (S_RunCentre_l1 g t (cntLt 0 a1) x1.Belt x1.Chutes x1.Inlets x1.Plan x1.Now) fun y1 =>
     cl (S_l7Copy g t (Centre.mk y1.1 y1.2.1 y1.2.2.1 y1.2.2.2.1 y1.2.2.2.2)) fun x5 =>
     some x5))
   (
    some x1))
  (
   some x1)
theorem fit72 : codeFit Try.prog Try.f72.ntmps (Try.f72.body.getD .skip) ir72 = true := by kernel_rfl
theorem c_S_RunCentre {g : G} {t : TE} {a0 : Centre} {a1 : Int} {r : Centre} (hg : g = G.real) (ht : t = TE.real) (h : S_RunCentre g t a0 a1 = some r) : Fn Try.prog 72 [.g (Centre.rs t a0), .c (.v (.int .i64 a1))] (.g (Centre.ds t r)) := by
  obtain ⟨X, hX⟩ := hide (.g (Centre.ds t r) : X)
  rw [← hX]
  refine fn_of (rvs := rv72) (j := ir72) Try.func72 rfl fit72 (Nat.le_of_ble_eq_true rfl) (by kernel_rfl) prog_mixed ?_
  intro g2 F hg2 hF
  obtain rfl : g2 = g := hg2.unique.trans hg.symm
  clear hg2
  obtain ⟨wrap, lt, le, eq, quo, rem, band, bor, bxor, shl, shr, nat, int, add, sub, mul, cat, seq, slt, sub3, byte, llen, nadd, nsub, dlen, dapp, dset, drep, rd, rda, up, rsub, dsub, all, sle, slen, hasI, putI, hasS, putS, imin, imax, fzc⟩ := g2
  obtain ⟨r_Item, d_Item, r_Chute, d_Chute, r_Inlet, d_Inlet, r_I64, d_I64, r_U8, d_U8, d_InletF⟩ := t
  obtain ⟨a0_Belt, a0_Chutes, a0_Inlets, a0_Plan, a0_Now⟩ := a0
  have hfr_Item : ∀ l, freshDss (d_Item l) = true := fresh_Item ht
  have hfr_Chute : ∀ l, freshDss (d_Chute l) = true := fresh_Chute ht
  have hfr_Inlet : ∀ l, freshDss (d_Inlet l) = true := fresh_Inlet ht
  have hfr_I64 : ∀ l, freshDss (d_I64 l) = true := fresh_I64 ht
  unfold S_RunCentre at h
  try dsimp only at h
  cbv
  obtain ⟨x1, hx1, h⟩ := of_cl h
  obtain ⟨x1_Belt, x1_Chutes, x1_Inlets, x1_Plan, x1_Now⟩ := x1
  try dsimp only at h
  refine ACall.mk _ _ rfl (hF _ _ _ (c_S_l7Copy hg ht hx1)) (.inl rfl) (Nat.le_of_ble_eq_true rfl) ?_
  cbv
  obtain ⟨x2, hx2, h⟩ := of_cl h
  try dsimp only at h
  refine ACall.mk _ _ rfl (hF _ _ _ (c_S_IsCentre hg ht hx2)) (.inl rfl) (Nat.le_of_ble_eq_true rfl) ?_
  cbv
  cases hb1 : x2 with
  | true =>
    rw [br_true hb1] at h
    cbv
    try (rw [hb1]; cbv)
    obtain ⟨x3, hx3, h⟩ := of_lP h
    try dsimp only at h
    refine ACall.mk _ _ rfl (hF _ _ _ (c_S_l1In hg ht hx3)) (.inl rfl) (Nat.le_of_ble_eq_true rfl) ?_
    cbv
    try (rw [hb1]; cbv)
    try (rw [hb1]; cbv)
    cases hb2 : x3 with
    | true =>
      rw [br_true hb2] at h
      cbv
      try (rw [hb2]; cbv)
      try (rw [hb2]; cbv)
      try (rw [hb2]; cbv)
      try (rw [hb2]; cbv)
      try (rw [hb2]; cbv)
      cases hb3 : (lt 100000 (wrap .i64 (add a0_Now a1))) with
      | true =>
        rw [br_true hb3] at h
        cbv
        obtain rfl := Option.some.inj h
        exact ARet.mk ⟨⟨rfl, (dlen_Item hg ht _)⟩, ⟨⟨rfl, (dlen_Chute hg ht _)⟩, ⟨⟨rfl, (dlen_Inlet hg ht _)⟩, ⟨rfl, (dlen_I64 hg ht _)⟩⟩⟩⟩ hX.symm
      | false =>
        rw [br_false hb3] at h
        cbv
        refine AGh.fzc 50 2 1 (d_Inlet x1_Inlets) (d_InletF x1_Inlets) rfl (fzc_InletF hg ht _) ?_
        cbv
        refine AGh.nil ?_
        cbv
        obtain ⟨hB1, h⟩ := of_gd h
        obtain ⟨o1, ho1, h⟩ := of_cl h
        try dsimp only at h
        try rw [hg] at ho1
        try rw [ht] at ho1
        refine ABL.mk { p : Nat × Int × (List Item) × (List Chute) × (List Inlet) × (List Int) × Int // p.1 = cntLt p.2.1 a1 ∧ 0 ≤ p.2.1 ∧ S_RunCentre_l1 G.real TE.real p.1 p.2.2.1 p.2.2.2.1 p.2.2.2.2.1 p.2.2.2.2.2.1 p.2.2.2.2.2.2 = some o1 } (fun ⟨⟨n1, v2, w1, w2, w3, w4, v1⟩, _⟩ => ({ sl := [(1, .c (.r (.v (.int .i64 a1)))), (4, .c (.p 0 5 0 0)), (5, .c (.p 1 5 0 0)), (6, .c (.r (.v (.int .i64 v2))))], tab := [(0, some (.foc 5 [] [.n 2, .n 3, .n 2, .n 1, .r (.v (.int .i64 0))] [])), (1, some (.foc 5 [] [.f 2 2 0 (dlen (d_Item w1)), .f 3 3 0 (dlen (d_Chute w2)), .f 4 2 0 (dlen (d_InletF w3)), .f 5 1 0 (dlen (d_I64 w4)), .r (.v (.int .i64 v1))] [])), (2, some (.arr 2 (d_Item w1))), (3, some (.arr 3 (d_Chute w2))), (4, some (.arr 2 (d_InletF w3))), (5, some (.arr 1 (d_I64 w4)))] } : St)) 6 (fun p => p.1.1) ⟨(cntLt 0 a1, 0, x1_Belt, x1_Chutes, x1_Inlets, x1_Plan, x1_Now), rfl, Int.le_refl _, ho1⟩ ((List Item) × (List Chute) × (List Inlet) × (List Int) × Int) (fun ⟨y1_1, y1_2_1, y1_2_2_1, y1_2_2_2_1, y1_2_2_2_2⟩ => ({ sl := [(4, .c (.p 0 5 0 0)), (5, .c (.p 1 5 0 0))], tab := [(0, some (.foc 5 [] [.n 2, .n 3, .n 2, .n 1, .r (.v (.int .i64 0))] [])), (1, some (.foc 5 [] [.f 2 2 0 (dlen (d_Item y1_1)), .f 3 3 0 (dlen (d_Chute y1_2_1)), .f 4 2 0 (dlen (d_InletF y1_2_2_1)), .f 5 1 0 (dlen (d_I64 y1_2_2_2_1)), .r (.v (.int .i64 y1_2_2_2_2))] [])), (2, some (.arr 2 (d_Item y1_1))), (3, some (.arr 3 (d_Chute y1_2_1))), (4, some (.arr 2 (d_InletF y1_2_2_1))), (5, some (.arr 1 (d_I64 y1_2_2_2_1)))] } : St)) 6 (fun y => o1 = y) ?_ ?_ ?_
        · refine Wk.of [(0, some 16), (1, some 64), (2, some 48), (3, some 49), (4, some 50), (5, some 51)] rfl rfl ?_ ?_
          · cbv
            all_goals try rw [show (dlen (d_Inlet x1_Inlets)) = (dlen (d_InletF x1_Inlets)) from ((((dlen_Inlet hg ht _)).trans (by rw [d_len_Inlet ht, d_len_InletF ht]))).trans (dlen_InletF hg ht _).symm]
            all_goals exact ⟨⟨_, rfl, rfl⟩, ⟨_, rfl, rfl⟩, ⟨_, rfl, rfl⟩, ⟨_, rfl, rfl⟩, trivial⟩
          · cbv
            all_goals try rw [show (dlen (d_Inlet x1_Inlets)) = (dlen (d_InletF x1_Inlets)) from ((((dlen_Inlet hg ht _)).trans (by rw [d_len_Inlet ht, d_len_InletF ht]))).trans (dlen_InletF hg ht _).symm]
            all_goals exact ⟨⟨_, rfl, _, rfl, rfl, rfl, rfl, rfl, rfl, trivial⟩, ⟨_, rfl, _, rfl, rfl, rfl, rfl, rfl, rfl, trivial⟩, ⟨_, rfl, rfl⟩, ⟨_, rfl, rfl⟩, ⟨_, rfl, rfl⟩, ⟨_, rfl, rfl⟩, trivial⟩
        · rintro ⟨⟨n1, v2, w1, w2, w3, w4, v1⟩, hn1, hi1, h_1⟩ hq1
          try dsimp only at hn1 hi1 h_1
          clear hq1
          cbv
          rcases n1 with _ | n1
          · have hb4 : lt v2 a1 = false := ltC_false hg hn1
            rw [S_RunCentre_l1] at h_1
            try rw [← hg] at h_1
            try rw [← ht] at h_1
            try dsimp only at h_1
            rw [hb4]
            cbv
            refine ⟨(w1, w2, w3, w4, v1), Wk.of [(0, some 0), (1, some 1), (2, some 2), (3, some 3), (4, some 4), (5, some 5)] rfl rfl ?_ ?_, (Option.some.inj h_1).symm⟩
            · cbv
              all_goals exact ⟨⟨_, rfl, rfl⟩, ⟨_, rfl, rfl⟩, trivial⟩
            · cbv
              all_goals exact ⟨⟨_, rfl, _, rfl, rfl, rfl, rfl, rfl, rfl, trivial⟩, ⟨_, rfl, _, rfl, rfl, rfl, rfl, rfl, rfl, trivial⟩, ⟨_, rfl, rfl⟩, ⟨_, rfl, rfl⟩, ⟨_, rfl, rfl⟩, ⟨_, rfl, rfl⟩, trivial⟩
          · have hb4 : lt v2 a1 = true := ltC_true hg hn1
            have hl1 := ltC_le hn1
            have hs1 := stepltC hg hn1 hi1 hB1 (by decide)
            rw [S_RunCentre_l1] at h_1
            try rw [← hg] at h_1
            try rw [← ht] at h_1
            try dsimp only at h_1
            rw [hb4]
            cbv
            refine AStep.mk ⟨⟨rfl, (dlen_Item hg ht _)⟩, ⟨⟨rfl, (dlen_Chute hg ht _)⟩, ⟨⟨rfl, (dlen_InletF hg ht _)⟩, ⟨rfl, (dlen_I64 hg ht _)⟩⟩⟩⟩ ?_
            cbv
            obtain ⟨x4, hx4, h_1⟩ := of_cl h_1
            obtain ⟨x4_Belt, x4_Chutes, x4_Inlets, x4_Plan, x4_Now⟩ := x4
            try dsimp only at h_1
            refine ACallM.mk _ _ _ _ rfl rfl (hF _ _ _ (c_S_l7Tick hg ht hx4)) rfl (Nat.le_of_ble_eq_true rfl) (Nat.le_of_ble_eq_true rfl) ?_
            cbv
            try rw [hg] at h_1
            try rw [ht] at h_1
            refine ⟨⟨(n1, (wrap .i64 (add v2 1)), x4_Belt, x4_Chutes, x4_Inlets, x4_Plan, x4_Now), hs1.1, hs1.2, h_1⟩, Wk.of [(0, some 0), (1, some 1), (2, some 62), (3, some 63), (4, some 64), (5, some 65)] rfl rfl ?_ ?_, Nat.lt_succ_self _⟩
            · cbv
              all_goals exact ⟨⟨_, rfl, rfl⟩, ⟨_, rfl, rfl⟩, ⟨_, rfl, rfl⟩, ⟨_, rfl, rfl⟩, trivial⟩
            · cbv
              all_goals exact ⟨⟨_, rfl, _, rfl, rfl, rfl, rfl, rfl, rfl, trivial⟩, ⟨_, rfl, _, rfl, rfl, rfl, rfl, rfl, rfl, trivial⟩, ⟨_, rfl, rfl⟩, ⟨_, rfl, rfl⟩, ⟨_, rfl, rfl⟩, ⟨_, rfl, rfl⟩, trivial⟩
        · rintro ⟨y1_1, y1_2_1, y1_2_2_1, y1_2_2_2_1, y1_2_2_2_2⟩ hy1
          replace hy1 := hy1.symm
          subst hy1
          try dsimp only [lr, lrL, lrp, lrpL] at h
          cbv
          refine AStep.mk ⟨(lend_Item ht (dlen_Item hg ht _)), ⟨(lend_Chute ht (dlen_Chute hg ht _)), ⟨(lend_InletF ht (dlen_InletF hg ht _)), (lend_I64 ht (dlen_I64 hg ht _))⟩⟩⟩ ?_
          cbv
          obtain ⟨x5, hx5, h⟩ := of_cl h
          obtain ⟨x5_Belt, x5_Chutes, x5_Inlets, x5_Plan, x5_Now⟩ := x5
          try dsimp only at h
          refine ACall.mk _ _ (by rw [show rd (d_Item y1_1) 0 (dlen (d_Item y1_1)) = r_Item y1_1 from rdw_Item hg ht (dlen_Item hg ht _), show rd (d_Chute y1_2_1) 0 (dlen (d_Chute y1_2_1)) = r_Chute y1_2_1 from rdw_Chute hg ht (dlen_Chute hg ht _), show rd (d_InletF y1_2_2_1) 0 (dlen (d_InletF y1_2_2_1)) = r_Inlet y1_2_2_1 from rdw_InletF hg ht (dlen_InletF hg ht _), show rd (d_I64 y1_2_2_2_1) 0 (dlen (d_I64 y1_2_2_2_1)) = r_I64 y1_2_2_2_1 from rdw_I64 hg ht (dlen_I64 hg ht _)]; try rfl) (hF _ _ _ (c_S_l7Copy hg ht hx5)) (.inr (by simp only [Go.Vs.X.fresh, Go.Vs.X.freshs, freshD, freshDs, Bool.and_self, Centre.ds, hfr_Chute, hfr_I64, hfr_Inlet, hfr_Item])) (Nat.le_of_ble_eq_true rfl) ?_
          cbv
          obtain rfl := Option.some.inj h
          exact ARet.mk ⟨⟨rfl, (dlen_Item hg ht _)⟩, ⟨⟨rfl, (dlen_Chute hg ht _)⟩, ⟨⟨rfl, (dlen_Inlet hg ht _)⟩, ⟨rfl, (dlen_I64 hg ht _)⟩⟩⟩⟩ hX.symm
    | false =>
      rw [br_false hb2] at h
      cbv
      try (rw [hb2]; cbv)
      try (rw [hb2]; cbv)
      try (rw [hb2]; cbv)
      try (rw [hb2]; cbv)
      try (rw [hb2]; cbv)
      obtain rfl := Option.some.inj h
      exact ARet.mk ⟨⟨rfl, (dlen_Item hg ht _)⟩, ⟨⟨rfl, (dlen_Chute hg ht _)⟩, ⟨⟨rfl, (dlen_Inlet hg ht _)⟩, ⟨rfl, (dlen_I64 hg ht _)⟩⟩⟩⟩ hX.symm
  | false =>
    rw [br_false hb1] at h
    cbv
    try (rw [hb1]; cbv)
    try (rw [hb1]; cbv)
    try (rw [hb1]; cbv)
    obtain rfl := Option.some.inj h
    exact ARet.mk ⟨⟨rfl, (dlen_Item hg ht _)⟩, ⟨⟨rfl, (dlen_Chute hg ht _)⟩, ⟨⟨rfl, (dlen_Inlet hg ht _)⟩, ⟨rfl, (dlen_I64 hg ht _)⟩⟩⟩⟩ hX.symm
end Go.Vs
namespace Go.Vs
set_option maxRecDepth 100000
def ir103 : J :=
  .seq (.reg none [⟨(some 4), none, .mv (.k (V.b false))⟩] [0, 1])
  (.seq (.reg none [⟨(some 5), none, .mv (.t 0)⟩,
     ⟨(some 6), none, .mv (.t 1)⟩,
     ⟨(some 7), none, .callm 101 (.t 5) [(.t 6)]⟩,
     ⟨(some 8), none, .bin .eql .i (.t 7) (.k (V.i 0))⟩,
     ⟨(some 4), none, .mv (.t 8)⟩] [4])
  (.ret))
def rv103 : List RV := [.t 4]
open Go.Proofs Go.IntWalk
set_option linter.unusedVariables false
set_option maxRecDepth 100000
set_option maxHeartbeats 4000000
def S_l1Once (g : G) (t : TE) (a0 : Cur) (a1 : Int) : Option (Bool × Cur) :=
  cl (S_l1Below g t a0 a1) fun x1 =>
  some (((g.eq x1.1 0), (Cur.mk x1.2.b x1.2.i x1.2.h)))
theorem fit103 : codeFit Try.prog Try.f103.ntmps (Try.f103.body.getD .skip) ir103 = true := by kernel_rfl
theorem c_S_l1Once {g : G} {t : TE} {a0 : Cur} {a1 : Int} {r : Bool × Cur} (hg : g = G.real) (ht : t = TE.real) (h : S_l1Once g t a0 a1 = some r) : FnM Try.prog 103 (.p (Cur.ds t a0)) [.c (.v (.int .i64 a1))] (.c (.r (.v (.bool r.1)))) (.p (Cur.ds t r.2)) := by
  obtain ⟨X, hX⟩ := hide (.c (.r (.v (.bool r.1))) : X)
  obtain ⟨Y, hY⟩ := hide (.p (Cur.ds t r.2) : AM)
  rw [← hX, ← hY]
  refine fnM_of (rvs := rv103) (j := ir103) Try.func103 rfl fit103 (Nat.le_of_ble_eq_true rfl) (by kernel_rfl) prog_mixed ?_
  intro g2 F hg2 hF
  obtain rfl : g2 = g := hg2.unique.trans hg.symm
  clear hg2
  obtain ⟨wrap, lt, le, eq, quo, rem, band, bor, bxor, shl, shr, nat, int, add, sub, mul, cat, seq, slt, sub3, byte, llen, nadd, nsub, dlen, dapp, dset, drep, rd, rda, up, rsub, dsub, all, sle, slen, hasI, putI, hasS, putS, imin, imax, fzc⟩ := g2
  obtain ⟨r_Item, d_Item, r_Chute, d_Chute, r_Inlet, d_Inlet, r_I64, d_I64, r_U8, d_U8, d_InletF⟩ := t
  obtain ⟨a0_b, a0_i, a0_h⟩ := a0
  unfold S_l1Once at h
  try dsimp only at h
  cbv
  obtain ⟨x1, hx1, h⟩ := of_cl h
  obtain ⟨x1_1, ⟨x1_2_b, x1_2_i, x1_2_h⟩⟩ := x1
  try dsimp only at h
  refine ACallM.mk _ _ _ _ rfl rfl (hF _ _ _ (c_S_l1Below hg ht hx1)) rfl (Nat.le_of_ble_eq_true rfl) (Nat.le_of_ble_eq_true rfl) ?_
  cbv
  obtain rfl := Option.some.inj h
  exact ARetM.mk trivial hX.symm hY.symm
end Go.Vs
namespace Go.Vs
set_option maxRecDepth 100000
def ir118 : J :=
  .seq (.reg none [⟨(some 2), none, .alloc [.n 2, .n 3, .n 2, .n 1, .r (.v (.int .i64 0))]⟩] [0, 2])
  (.seq (.reg none [⟨(some 15), none, .mv (.t 0)⟩,
     ⟨(some 16), none, .callm 101 (.t 15) [(.k (V.i 8))]⟩,
     ⟨(some 17), none, .bin .add .i (.k (V.i 3)) (.t 16)⟩,
     ⟨(some 3), none, .mv (.t 17)⟩] [0, 2, 3])
  (.seq (.reg none [⟨(some 18), none, .bsl 1 []⟩,
     ⟨(some 4), none, .mv (.t 18)⟩] [0, 2, 3, 4])
  (.seq (.reg none [⟨(some 19), none, .bsl 1 []⟩,
     ⟨(some 5), none, .mv (.t 19)⟩] [0, 2, 3, 4, 5])
  (.seq (.reg none [⟨(some 20), none, .bsl 1 []⟩,
     ⟨(some 6), none, .mv (.t 20)⟩] [0, 2, 3, 4, 5, 6])
  (.seq (.seq (.reg none [⟨(some 7), none, .mv (.k (V.i 0))⟩] [0, 2, 3, 4, 5, 6, 7])
   (.bl 0 (.seq (.seq (.reg none [⟨(some 21), none, .mv (.t 7)⟩,
        ⟨(some 22), none, .mv (.t 3)⟩,
        ⟨(some 23), none, .bin .lss .i (.t 21) (.t 22)⟩] [0, 2, 3, 4, 5, 6, 7, 23])
     (.cond (.t 23)
      (.skip)
      (.exit 0)))
    (.seq (.block 1 (.seq (.seq (.reg none [⟨(some 26), none, .mv (.t 4)⟩,
          ⟨(some 27), none, .len false (.t 26)⟩,
          ⟨(some 28), none, .bin .lss .i (.t 27) (.k (V.i 4))⟩,
          ⟨(some 29), none, .mv (.t 28)⟩,
          ⟨(some 30), (some (29, true)), .mv (.t 0)⟩,
          ⟨(some 31), (some (29, true)), .callm 103 (.t 30) [(.k (V.i 3))]⟩,
          ⟨(some 32), (some (29, true)), .mv (.t 31)⟩,
          ⟨(some 33), (some (32, false)), .mv (.t 7)⟩,
          ⟨(some 34), (some (32, false)), .bin .eql .i (.t 33) (.k (V.i 1))⟩,
          ⟨(some 35), (some (32, false)), .mv (.t 34)⟩,
          ⟨(some 36), (some (35, true)), .mv (.t 4)⟩,
          ⟨(some 37), (some (35, true)), .len false (.t 36)⟩,
          ⟨(some 38), (some (35, true)), .bin .eql .i (.t 37) (.k (V.i 0))⟩,
          ⟨(some 39), (some (32, false)), .pick (.t 35) (.t 38) (.k (V.b false))⟩,
          ⟨(some 40), (some (29, true)), .pick (.t 32) (.k (V.b true)) (.t 39)⟩,
          ⟨(some 41), none, .pick (.t 29) (.t 40) (.k (V.b false))⟩] [0, 2, 3, 4, 5, 6, 7, 41])
       (.cond (.t 41)
        (.reg none [⟨(some 42), none, .mv (.t 4)⟩,
           ⟨(some 43), none, .mv (.t 7)⟩,
           ⟨(some 44), none, .bsl 1 [(.t 43)]⟩,
           ⟨(some 45), none, .app 1 8 true (.t 42) (.t 44)⟩,
           ⟨(some 4), none, .mv (.t 45)⟩] [0, 2, 3, 4, 5, 6, 7])
        (.skip)))
      (.seq (.reg none [⟨(some 46), none, .mv (.t 5)⟩,
         ⟨(some 47), none, .len false (.t 46)⟩,
         ⟨(some 48), none, .bin .lss .i (.t 47) (.k (V.i 3))⟩,
         ⟨(some 49), none, .mv (.t 48)⟩,
         ⟨(some 50), (some (49, true)), .mv (.t 0)⟩,
         ⟨(some 51), (some (49, true)), .callm 103 (.t 50) [(.k (V.i 4))]⟩,
         ⟨(some 52), (some (49, true)), .mv (.t 51)⟩,
         ⟨(some 53), (some (52, false)), .mv (.t 7)⟩,
         ⟨(some 54), (some (52, false)), .bin .eql .i (.t 53) (.k (V.i 2))⟩,
         ⟨(some 55), (some (52, false)), .mv (.t 54)⟩,
         ⟨(some 56), (some (55, true)), .mv (.t 5)⟩,
         ⟨(some 57), (some (55, true)), .len false (.t 56)⟩,
         ⟨(some 58), (some (55, true)), .bin .eql .i (.t 57) (.k (V.i 0))⟩,
         ⟨(some 59), (some (52, false)), .pick (.t 55) (.t 58) (.k (V.b false))⟩,
         ⟨(some 60), (some (49, true)), .pick (.t 52) (.k (V.b true)) (.t 59)⟩,
         ⟨(some 61), none, .pick (.t 49) (.t 60) (.k (V.b false))⟩] [0, 2, 3, 4, 5, 6, 7, 61])
      (.cond (.t 61)
       (.reg none [⟨(some 62), none, .mv (.t 5)⟩,
          ⟨(some 63), none, .mv (.t 7)⟩,
          ⟨(some 64), none, .bsl 1 [(.t 63)]⟩,
          ⟨(some 65), none, .app 1 8 true (.t 62) (.t 64)⟩,
          ⟨(some 5), none, .mv (.t 65)⟩] [0, 2, 3, 4, 5, 6, 7])
       (.skip)))))
    (.reg none [⟨(some 24), none, .mv (.t 7)⟩,
      ⟨(some 25), none, .bin .add .i (.t 24) (.k (V.i 1))⟩,
      ⟨(some 7), none, .mv (.t 25)⟩] [0, 2, 3, 4, 5, 6, 7])))))
  (.seq (.seq (.reg none [⟨(some 66), none, .mv (.t 0)⟩,
      ⟨(some 67), none, .callm 101 (.t 66) [(.k (V.i 5))]⟩,
      ⟨(some 68), none, .bin .add .i (.k (V.i 1)) (.t 67)⟩,
      ⟨(some 8), none, .mv (.t 68)⟩] [0, 2, 3, 4, 5, 6, 8])
   (.bl 2 (.seq (.seq (.reg none [⟨(some 69), none, .mv (.t 8)⟩,
        ⟨(some 70), none, .bin .gtr .i (.t 69) (.k (V.i 0))⟩] [0, 2, 3, 4, 5, 6, 8, 70])
     (.cond (.t 70)
      (.skip)
      (.exit 2)))
    (.seq (.block 3 (.reg none [⟨(some 73), none, .mv (.t 6)⟩,
        ⟨(some 74), none, .mv (.t 0)⟩,
        ⟨(some 75), none, .mv (.t 4)⟩,
        ⟨(some 76), none, .len false (.t 75)⟩,
        ⟨(some 77), none, .callm 101 (.t 74) [(.t 76)]⟩,
        ⟨(some 78), none, .bsl 1 [(.t 77)]⟩,
        ⟨(some 79), none, .app 1 8 true (.t 73) (.t 78)⟩,
        ⟨(some 6), none, .mv (.t 79)⟩] [0, 2, 3, 4, 5, 6, 8]))
    (.reg none [⟨(some 71), none, .mv (.t 8)⟩,
      ⟨(some 72), none, .bin .sub .i (.t 71) (.k (V.i 1))⟩,
      ⟨(some 8), none, .mv (.t 72)⟩] [0, 2, 3, 4, 5, 6, 8])))))
  (.seq (.reg none [⟨(some 81), none, .mv (.t 3)⟩,
     ⟨(some 82), none, .mv (.t 4)⟩,
     ⟨(some 83), none, .mv (.t 0)⟩,
     ⟨(some 84), none, .callm 101 (.t 83) [(.k (V.i 6))]⟩,
     ⟨(some 85), none, .bin .add .i (.k (V.i 1)) (.t 84)⟩,
     ⟨(some 86), none, .mv (.t 5)⟩,
     ⟨(some 87), none, .mv (.t 6)⟩,
     ⟨(some 88), none, .call 44 true [(.t 81), (.t 82), (.t 85), (.t 86), (.t 87)]⟩,
     ⟨(some 80), none, .mv (.t 88)⟩,
     ⟨(some 89), none, .ext 0 (.t 80)⟩,
     ⟨(some 90), none, .ext 1 (.t 80)⟩,
     ⟨(some 9), none, .alloc [.n 2, .n 3, .n 2, .n 1, .r (.v (.int .i64 0))]⟩,
     ⟨none, none, .st 5 (.t 9) (.t 89)⟩,
     ⟨(some 10), none, .mv (.t 90)⟩] [0, 2, 5, 6, 9])
  (.seq (.reg none [⟨(some 11), none, .mv (.k (V.i 0))⟩] [0, 2, 5, 6, 9, 11])
  (.seq (.seq (.reg none [⟨(some 91), none, .mv (.t 0)⟩,
      ⟨(some 92), none, .callm 101 (.t 91) [(.k (V.i 9))]⟩,
      ⟨(some 12), none, .mv (.t 92)⟩] [0, 2, 5, 6, 9, 11, 12])
   (.bl 4 (.seq (.seq (.reg none [⟨(some 93), none, .mv (.t 12)⟩,
        ⟨(some 94), none, .bin .gtr .i (.t 93) (.k (V.i 0))⟩] [0, 2, 5, 6, 9, 11, 12, 94])
     (.cond (.t 94)
      (.skip)
      (.exit 4)))
    (.seq (.block 5 (.seq (.reg none [⟨(some 97), none, .mv (.t 11)⟩,
         ⟨(some 98), none, .bin .add .i (.t 97) (.k (V.i 1))⟩,
         ⟨(some 99), none, .mv (.t 0)⟩,
         ⟨(some 100), none, .callm 101 (.t 99) [(.k (V.i 3))]⟩,
         ⟨(some 101), none, .bin .add .i (.t 98) (.t 100)⟩,
         ⟨(some 11), none, .mv (.t 101)⟩] [0, 2, 5, 6, 9, 11, 12])
      (.seq (.reg (some [[], [], [], [2], [1, 2, 3], [], [], [], [7], [1, 2, 3, 4, 6, 7, 8], [1, 2, 3, 4, 5, 6, 7, 8, 9], [0, 1, 2, 3, 4, 5, 6, 7, 8, 9, 10], [0, 1, 2, 3, 4, 5, 6, 7, 8, 9, 10, 11], [0, 1, 2, 3, 4, 5, 6, 7, 8, 9, 10, 11, 12], [0, 1, 2, 3, 4, 5, 6, 7, 8, 9, 10, 11, 12], [], [0, 1, 2, 3, 4, 5, 6, 7, 8, 9, 10, 11, 12, 13, 15], [0, 1, 2, 3, 4, 5, 6, 7, 8, 9, 10, 11, 12, 13, 14, 15, 16]]) [⟨(some 103), none, .ld true 5 (.t 9)⟩,
         ⟨(some 104), none, .mv (.t 0)⟩,
         ⟨(some 105), none, .mv (.t 5)⟩,
         ⟨(some 106), none, .len false (.t 105)⟩,
         ⟨(some 107), none, .callm 101 (.t 104) [(.t 106)]⟩,
         ⟨(some 108), none, .mv (.t 11)⟩,
         ⟨(some 109), none, .mv (.t 0)⟩,
         ⟨(some 110), none, .mv (.t 6)⟩,
         ⟨(some 111), none, .len false (.t 110)⟩,
         ⟨(some 112), none, .callm 101 (.t 109) [(.t 111)]⟩,
         ⟨(some 113), none, .bld [.r (.v (.int .i64 0)), .r (.v (.int .i64 0))] [(0, 1, (.t 108)), (1, 1, (.t 112))]⟩,
         ⟨(some 114), none, .call 69 true [(.t 103), (.t 107), (.t 113)]⟩,
         ⟨(some 102), none, .mv (.t 114)⟩,
         ⟨(some 115), none, .ext 0 (.t 102)⟩,
         ⟨(some 116), none, .ext 1 (.t 102)⟩,
         ⟨(some 13), none, .alloc [.n 2, .n 3, .n 2, .n 1, .r (.v (.int .i64 0))]⟩,
         ⟨none, none, .st 5 (.t 13) (.t 115)⟩,
         ⟨(some 14), none, .mv (.t 116)⟩] [0, 2, 5, 6, 9, 11, 12, 13])
      (.reg none [⟨(some 117), none, .ld true 5 (.t 13)⟩,
        ⟨none, none, .st 5 (.t 9) (.t 117)⟩] [0, 2, 5, 6, 9, 11, 12]))))
    (.reg none [⟨(some 95), none, .mv (.t 12)⟩,
      ⟨(some 96), none, .bin .sub .i (.t 95) (.k (V.i 1))⟩,
      ⟨(some 12), none, .mv (.t 96)⟩] [0, 2, 5, 6, 9, 11, 12])))))
  (.seq (.reg (some [[], [], [1], [0, 1, 2], [0, 1, 2, 3]]) [⟨(some 118), none, .ld true 5 (.t 9)⟩,
     ⟨(some 119), none, .mv (.t 0)⟩,
     ⟨(some 120), none, .callm 101 (.t 119) [(.k (V.i 12))]⟩,
     ⟨(some 121), none, .call 72 true [(.t 118), (.t 120)]⟩,
     ⟨none, none, .st 5 (.t 2) (.t 121)⟩] [2])
  (.ret)))))))))))
def rv118 : List RV := [.c 2 true 5]
open Go.Proofs Go.IntWalk
set_option linter.unusedVariables false
set_option maxRecDepth 100000
set_option maxHeartbeats 4000000
def S_l7Draw_l3 (g : G) (t : TE) (y1 : (List Int) × Int × Int × (List Int) × List Int) (y2 : (List Int) × Int × Int × List Int) : Nat → List Int → Int → Int → List Item → List Chute → List Inlet → List Int → Int → Int → Int → Option ((List Int) × Int × Int × (List Item) × (List Chute) × (List Inlet) × (List Int) × Int)
  | 0, _, _, _, _, _, _, _, _, _, _ => none
  | n3 + 1, v9, v10, v11, w4, w5, w6, w7, v12, v13, v14 =>
    br (g.lt 0 v14)
    (
     cl (S_l1Below g t (Cur.mk v9 v10 v11) 3) fun x13 =>
     cl (S_l1Below g t (Cur.mk x13.2.b x13.2.i x13.2.h) (g.int (g.dlen (t.d_I64 y1.2.2.2.2)))) fun x14 =>
     cl (S_l1Below g t (Cur.mk x14.2.b x14.2.i x14.2.h) (g.int (g.dlen (t.d_I64 y2.2.2.2)))) fun x15 =>
     cl (S_FeedCentre g t (Centre.mk w4 w5 w6 w7 v12) x14.1 (Item.mk (g.wrap .i64 (g.add (g.wrap .i64 (g.add v13 1)) x13.1)) x15.1)) fun x16 =>
     S_l7Draw_l3 g t y1 y2 n3 x15.2.b x15.2.i x15.2.h x16.1.Belt x16.1.Chutes x16.1.Inlets x16.1.Plan x16.1.Now (g.wrap .i64 (g.add (g.wrap .i64 (g.add v13 1)) x13.1)) (g.wrap .i64 (g.sub v14 1)))
    (
     some (v9, v10, v11, w4, w5, w6, w7, v12))
def S_l7Draw_l2 (g : G) (t : TE) (y1 : (List Int) × Int × Int × (List Int) × List Int) : Nat → List Int → Int → Int → List Int → Int → Option ((List Int) × Int × Int × List Int)
  | 0, _, _, _, _, _ => none
  | n2 + 1, v5, v6, v7, w3, v8 =>
    br (g.lt 0 v8)
    (
     cl (S_l1Below g t (Cur.mk v5 v6 v7) (g.int (g.dlen (t.d_I64 y1.2.2.2.1)))) fun x9 =>
     lP ([x9.1]) fun (l28 : List Int) =>
     gd (((w3.length + l28.length) * 8 ≤ 70368744177664)) <|
     lP (w3 ++ l28) fun (l29 : List Int) =>
     S_l7Draw_l2 g t y1 n2 x9.2.b x9.2.i x9.2.h l29 (g.wrap .i64 (g.sub v8 1)))
    (
     some (v5, v6, v7, w3))
def S_l7Draw_l1 (g : G) (t : TE) : Nat → Int → List Int → Int → Int → List Int → List Int → Option ((List Int) × Int × Int × (List Int) × List Int)
  | 0, v4, v1, v2, v3, w1, w2 =>
    some (v1, v2, v3, w1, w2)
  | n1 + 1, v4, v1, v2, v3, w1, w2 =>
    br (g.lt (g.int (g.dlen (t.d_I64 w1))) 4)
    (
     cl (S_l1Once g t (Cur.mk v1 v2 v3) 3) fun x2 =>
     br x2.1
     (
      lP ([v4]) fun (l4 : List Int) =>
      gd (((w1.length + l4.length) * 8 ≤ 70368744177664)) <|
      lP (w1 ++ l4) fun (l5 : List Int) =>
      br (g.lt (g.int (g.dlen (t.d_I64 w2))) 3)
      (
       cl (S_l1Once g t (Cur.mk x2.2.b x2.2.i x2.2.h) 4) fun x3 =>
       br x3.1
       (
        lP ([v4]) fun (l6 : List Int) =>
        gd (((w2.length + l6.length) * 8 ≤ 70368744177664)) <|
        lP (w2 ++ l6) fun (l7 : List Int) =>
        S_l7Draw_l1 g t n1 (g.wrap .i64 (g.add v4 1)) x3.2.b x3.2.i x3.2.h l5 l7)
       (
        br (g.eq v4 2)
        (
         br (g.eq (g.int (g.dlen (t.d_I64 w2))) 0)
         (
          lP ([v4]) fun (l8 : List Int) =>
          gd (((w2.length + l8.length) * 8 ≤ 70368744177664)) <|
          lP (w2 ++ l8) fun (l9 : List Int) =>
          S_l7Draw_l1 g t n1 (g.wrap .i64 (g.add v4 1)) x3.2.b x3.2.i x3.2.h l5 l9)
         (
          S_l7Draw_l1 g t n1 (g.wrap .i64 (g.add v4 1)) x3.2.b x3.2.i x3.2.h l5 w2))
        (
         S_l7Draw_l1 g t n1 (g.wrap .i64 (g.add v4 1)) x3.2.b x3.2.i x3.2.h l5 w2)))
      (
       S_l7Draw_l1 g t n1 (g.wrap .i64 (g.add v4 1)) x2.2.b x2.2.i x2.2.h l5 w2))
     (
      br (g.eq v4 1)
      (
       br (g.eq (g.int (g.dlen (t.d_I64 w1))) 0)
       (
        lP ([v4]) fun (l10 : List Int) =>
        gd (((w1.length + l10.length) * 8 ≤ 70368744177664)) <|
        lP (w1 ++ l10) fun (l11 : List Int) =>
        br (g.lt (g.int (g.dlen (t.d_I64 w2))) 3)
        (
         cl (S_l1Once g t (Cur.mk x2.2.b x2.2.i x2.2.h) 4) fun x4 =>
         br x4.1
         (
          lP ([v4]) fun (l12 : List Int) =>
          gd (((w2.length + l12.length) * 8 ≤ 70368744177664)) <|
          lP (w2 ++ l12) fun (l13 : List Int) =>
          S_l7Draw_l1 g t n1 (g.wrap .i64 (g.add v4 1)) x4.2.b x4.2.i x4.2.h l11 l13)
         (
          br (g.eq v4 2)
          (
           br (g.eq (g.int (g.dlen (t.d_I64 w2))) 0)
           (
            lP ([v4]) fun (l14 : List Int) =>
            gd (((w2.length + l14.length) * 8 ≤ 70368744177664)) <|
            lP (w2 ++ l14) fun (l15 : List Int) =>
            S_l7Draw_l1 g t n1 (g.wrap .i64 (g.add v4 1)) x4.2.b x4.2.i x4.2.h l11 l15)
           (
            S_l7Draw_l1 g t n1 (g.wrap .i64 (g.add v4 1)) x4.2.b x4.2.i x4.2.h l11 w2))
          (
           S_l7Draw_l1 g t n1 (g.wrap .i64 (g.add v4 1)) x4.2.b x4.2.i x4.2.h l11 w2)))
        (
         S_l7Draw_l1 g t n1 (g.wrap .i64 (g.add v4 1)) x2.2.b x2.2.i x2.2.h l11 w2))
       (
        br (g.lt (g.int (g.dlen (t.d_I64 w2))) 3)
        (
         cl (S_l1Once g t (Cur.mk x2.2.b x2.2.i x2.2.h) 4) fun x5 =>
         br x5.1
         (
          lP ([v4]) fun (l16 : List Int) =>
          gd (((w2.length + l16.length) * 8 ≤ 70368744177664)) <|
          lP (w2 ++ l16) fun (l17 : List Int) =>
          S_l7Draw_l1 g t n1 (g.wrap .i64 (g.add v4 1)) x5.2.b x5.2.i x5.2.h w1 l17)
         (
          br (g.eq v4 2)
          (
           br (g.eq (g.int (g.dlen (t.d_I64 w2))) 0)
           (
            lP ([v4]) fun (l18 : List Int) =>
            gd (((w2.length + l18.length) * 8 ≤ 70368744177664)) <|
            lP (w2 ++ l18) fun (l19 : List Int) =>
            S_l7Draw_l1 g t n1 (g.wrap .i64 (g.add v4 1)) x5.2.b x5.2.i x5.2.h w1 l19)
           (
            S_l7Draw_l1 g t n1 (g.wrap .i64 (g.add v4 1)) x5.2.b x5.2.i x5.2.h w1 w2))
          (
           S_l7Draw_l1 g t n1 (g.wrap .i64 (g.add v4 1)) x5.2.b x5.2.i x5.2.h w1 w2)))
        (
         S_l7Draw_l1 g t n1 (g.wrap .i64 (g.add v4 1)) x2.2.b x2.2.i x2.2.h w1 w2)))
      (
       br (g.lt (g.int (g.dlen (t.d_I64 w2))) 3)
       (
        cl (S_l1Once g t (Cur.mk x2.2.b x2.2.i x2.2.h) 4) fun x6 =>
        br x6.1
        (
         lP ([v4]) fun (l20 : List Int) =>
         gd (((w2.length + l20.length) * 8 ≤ 70368744177664)) <|
         lP (w2 ++ l20) fun (l21 : List Int) =>
         S_l7Draw_l1 g t n1 (g.wrap .i64 (g.add v4 1)) x6.2.b x6.2.i x6.2.h w1 l21)
        (
         br (g.eq v4 2)
         (
          br (g.eq (g.int (g.dlen (t.d_I64 w2))) 0)
          (
           lP ([v4]) fun (l22 : List Int) =>
           gd (((w2.length + l22.length) * 8 ≤ 70368744177664)) <|
           lP (w2 ++ l22) fun (l23 : List Int) =>
           S_l7Draw_l1 g t n1 (g.wrap .i64 (g.add v4 1)) x6.2.b x6.2.i x6.2.h w1 l23)
          (
           S_l7Draw_l1 g t n1 (g.wrap .i64 (g.add v4 1)) x6.2.b x6.2.i x6.2.h w1 w2))
         (
          S_l7Draw_l1 g t n1 (g.wrap .i64 (g.add v4 1)) x6.2.b x6.2.i x6.2.h w1 w2)))
       (
        S_l7Draw_l1 g t n1 (g.wrap .i64 (g.add v4 1)) x2.2.b x2.2.i x2.2.h w1 w2))))
    (
     br (g.lt (g.int (g.dlen (t.d_I64 w2))) 3)
     (
      cl (S_l1Once g t (Cur.mk v1 v2 v3) 4) fun x7 =>
      br x7.1
      (
       lP ([v4]) fun (l24 : List Int) =>
       gd (((w2.length + l24.length) * 8 ≤ 70368744177664)) <|
       lP (w2 ++ l24) fun (l25 : List Int) =>
       S_l7Draw_l1 g t n1 (g.wrap .i64 (g.add v4 1)) x7.2.b x7.2.i x7.2.h w1 l25)
      (
       br (g.eq v4 2)
       (
        br (g.eq (g.int (g.dlen (t.d_I64 w2))) 0)
        (
         lP ([v4]) fun (l26 : List Int) =>
         gd (((w2.length + l26.length) * 8 ≤ 70368744177664)) <|
         lP (w2 ++ l26) fun (l27 : List Int) =>
         S_l7Draw_l1 g t n1 (g.wrap .i64 (g.add v4 1)) x7.2.b x7.2.i x7.2.h w1 l27)
        (
         S_l7Draw_l1 g t n1 (g.wrap .i64 (g.add v4 1)) x7.2.b x7.2.i x7.2.h w1 w2))
       (
        S_l7Draw_l1 g t n1 (g.wrap .i64 (g.add v4 1)) x7.2.b x7.2.i x7.2.h w1 w2)))
     (
      S_l7Draw_l1 g t n1 (g.wrap .i64 (g.add v4 1)) v1 v2 v3 w1 w2))
def S_l7Draw (g : G) (t : TE) (a0 : Cur) : Option (Centre × Cur) :=
  cl (S_l1Below g t a0 8) fun x1 =>
  lP ([]) fun (l1 : List Int) =>
  lP ([]) fun (l2 : List Int) =>
  lP ([]) fun (l3 : List Int) =>
  gd (((g.wrap .i64 (g.add 3 x1.1)) ≤ 4611686018427387904)) <|
  cl (S_l7Draw_l1 g t (cntLt 0 (g.wrap .i64 (g.add 3 x1.1))) 0 x1.2.b x1.2.i x1.2.h l1 l2) fun y1 =>
  cl (S_l1Below g t (Cur.mk y1.1 y1.2.1 y1.2.2.1) 5) fun x8 =>
  cl (S_l7Draw_l2 g t y1 1000000000 x8.2.b x8.2.i x8.2.h l3 (g.wrap .i64 (g.add 1 x8.1))) fun y2 =>
  cl (S_l1Below g t (Cur.mk y2.1 y2.2.1 y2.2.2.1) 6) fun x10 =>
  cl (S_NewCentre g t (g.wrap .i64 (g.add 3 x1.1)) y1.2.2.2.1 (g.wrap .i64 (g.add 1 x10.1)) y1.2.2.2.2 y2.2.2.2) fun x11 =>
  cl (S_l1Below g t (Cur.mk x10.2.b x10.2.i x10.2.h) 9) fun x12 =>
  cl (S_l7Draw_l3 g t y1 y2 1000000000 x12.2.b x12.2.i x12.2.h x11.1.Belt x11.1.Chutes x11.1.Inlets x11.1.Plan x11.1.Now 0 x12.1) fun y3 =>
  cl (S_l1Below g t (Cur.mk y3.1 y3.2.1 y3.2.2.1) 12) fun x17 =>
  cl (S_RunCentre g t (Centre.mk y3.2.2.2.1 y3.2.2.2.2.1 y3.2.2.2.2.2.1 y3.2.2.2.2.2.2.1 y3.2.2.2.2.2.2.2) x17.1) fun x18 =>
  some ((x18, (Cur.mk x17.2.b x17.2.i x17.2.h)))
theorem fit118 : codeFit Try.prog Try.f118.ntmps (Try.f118.body.getD .skip) ir118 = true := by kernel_rfl
theorem c_S_l7Draw {g : G} {t : TE} {a0 : Cur} {r : Centre × Cur} (hg : g = G.real) (ht : t = TE.real) (h : S_l7Draw g t a0 = some r) : FnM Try.prog 118 (.p (Cur.ds t a0)) [] (.g (Centre.ds t r.1)) (.p (Cur.ds t r.2)) := by
  obtain ⟨X, hX⟩ := hide (.g (Centre.ds t r.1) : X)
  obtain ⟨Y, hY⟩ := hide (.p (Cur.ds t r.2) : AM)
  rw [← hX, ← hY]
  refine fnM_of (rvs := rv118) (j := ir118) Try.func118 rfl fit118 (Nat.le_of_ble_eq_true rfl) (by kernel_rfl) prog_mixed ?_
  intro g2 F hg2 hF
  obtain rfl : g2 = g := hg2.unique.trans hg.symm
  clear hg2
  obtain ⟨wrap, lt, le, eq, quo, rem, band, bor, bxor, shl, shr, nat, int, add, sub, mul, cat, seq, slt, sub3, byte, llen, nadd, nsub, dlen, dapp, dset, drep, rd, rda, up, rsub, dsub, all, sle, slen, hasI, putI, hasS, putS, imin, imax, fzc⟩ := g2
  obtain ⟨r_Item, d_Item, r_Chute, d_Chute, r_Inlet, d_Inlet, r_I64, d_I64, r_U8, d_U8, d_InletF⟩ := t
  obtain ⟨a0_b, a0_i, a0_h⟩ := a0
  have hfr_Item : ∀ l, freshDss (d_Item l) = true := fresh_Item ht
  have hfr_Chute : ∀ l, freshDss (d_Chute l) = true := fresh_Chute ht
  have hfr_Inlet : ∀ l, freshDss (d_Inlet l) = true := fresh_Inlet ht
  have hfr_I64 : ∀ l, freshDss (d_I64 l) = true := fresh_I64 ht
  unfold S_l7Draw at h
  try dsimp only at h
  cbv
  obtain ⟨x1, hx1, h⟩ := of_cl h
  obtain ⟨x1_1, ⟨x1_2_b, x1_2_i, x1_2_h⟩⟩ := x1
  try dsimp only at h
  refine ACallM.mk _ _ _ _ rfl rfl (hF _ _ _ (c_S_l1Below hg ht hx1)) rfl (Nat.le_of_ble_eq_true rfl) (Nat.le_of_ble_eq_true rfl) ?_
  cbv
  obtain ⟨l1, hl1, h⟩ := of_lP h
  try dsimp only at h
  refine ANew.mk (d_I64 l1) (dlen (d_I64 l1)) (by rw [← hl1]; exact lit_I64 hg ht []) (by rw [← hl1]; exact litn_I64 hg ht []) ?_
  cbv
  obtain ⟨l2, hl2, h⟩ := of_lP h
  try dsimp only at h
  refine ANew.mk (d_I64 l2) (dlen (d_I64 l2)) (by rw [← hl2]; exact lit_I64 hg ht []) (by rw [← hl2]; exact litn_I64 hg ht []) ?_
  cbv
  obtain ⟨l3, hl3, h⟩ := of_lP h
  try dsimp only at h
  refine ANew.mk (d_I64 l3) (dlen (d_I64 l3)) (by rw [← hl3]; exact lit_I64 hg ht []) (by rw [← hl3]; exact litn_I64 hg ht []) ?_
  cbv
  obtain ⟨hB1, h⟩ := of_gd h
  obtain ⟨o1, ho1, h⟩ := of_cl h
  try dsimp only at h
  try rw [hg] at ho1
  try rw [ht] at ho1
  refine ABL.mk { p : Nat × Int × (List Int) × Int × Int × (List Int) × List Int // p.1 = cntLt p.2.1 (wrap .i64 (add 3 x1_1)) ∧ 0 ≤ p.2.1 ∧ S_l7Draw_l1 G.real TE.real p.1 p.2.1 p.2.2.1 p.2.2.2.1 p.2.2.2.2.1 p.2.2.2.2.2.1 p.2.2.2.2.2.2 = some o1 } (fun ⟨⟨n1, v4, v1, v2, v3, w1, w2⟩, _⟩ => ({ sl := [(0, .c (.p 3 3 0 0)), (2, .c (.p 0 5 0 0)), (3, .c (.r (.v (.int .i64 (wrap .i64 (add 3 x1_1)))))), (4, .c (.f 1 1 0 (dlen (d_I64 w1)))), (5, .c (.f 2 1 0 (dlen (d_I64 w2)))), (6, .c (.f 4 1 0 (dlen (d_I64 l3)))), (7, .c (.r (.v (.int .i64 v4))))], tab := [(0, some (.foc 5 [] [.n 2, .n 3, .n 2, .n 1, .r (.v (.int .i64 0))] [])), (1, some (.arr 1 (d_I64 w1))), (2, some (.arr 1 (d_I64 w2))), (3, some (.foc 3 [] [.r (.s 1 (r_U8 v1)), .r (.v (.int .i64 v2)), .r (.v (.int .i64 v3))] [])), (4, some (.arr 1 (d_I64 l3)))] } : St)) 5 (fun p => p.1.1) ⟨(cntLt 0 (wrap .i64 (add 3 x1_1)), 0, x1_2_b, x1_2_i, x1_2_h, l1, l2), rfl, Int.le_refl _, ho1⟩ ((List Int) × Int × Int × (List Int) × List Int) (fun ⟨y1_1, y1_2_1, y1_2_2_1, y1_2_2_2_1, y1_2_2_2_2⟩ => ({ sl := [(0, .c (.p 3 3 0 0)), (2, .c (.p 0 5 0 0)), (3, .c (.r (.v (.int .i64 (wrap .i64 (add 3 x1_1)))))), (4, .c (.f 1 1 0 (dlen (d_I64 y1_2_2_2_1)))), (5, .c (.f 2 1 0 (dlen (d_I64 y1_2_2_2_2)))), (6, .c (.f 4 1 0 (dlen (d_I64 l3))))], tab := [(0, some (.foc 5 [] [.n 2, .n 3, .n 2, .n 1, .r (.v (.int .i64 0))] [])), (1, some (.arr 1 (d_I64 y1_2_2_2_1))), (2, some (.arr 1 (d_I64 y1_2_2_2_2))), (3, some (.foc 3 [] [.r (.s 1 (r_U8 y1_1)), .r (.v (.int .i64 y1_2_1)), .r (.v (.int .i64 y1_2_2_1))] [])), (4, some (.arr 1 (d_I64 l3)))] } : St)) 5 (fun y => o1 = y) ?_ ?_ ?_
  · refine Wk.of [(0, some 4), (1, some 84), (2, some 116), (3, some 3), (4, some 148)] rfl rfl ?_ ?_
    · cbv
      all_goals exact ⟨⟨_, rfl, rfl⟩, ⟨_, rfl, rfl⟩, ⟨_, rfl, rfl⟩, ⟨_, rfl, rfl⟩, ⟨_, rfl, rfl⟩, ⟨_, rfl, rfl⟩, ⟨_, rfl, rfl⟩, trivial⟩
    · cbv
      all_goals exact ⟨⟨_, rfl, _, rfl, rfl, rfl, rfl, rfl, rfl, trivial⟩, ⟨_, rfl, rfl⟩, ⟨_, rfl, rfl⟩, ⟨_, rfl, _, rfl, rfl, rfl, rfl, trivial⟩, ⟨_, rfl, rfl⟩, trivial⟩
  · rintro ⟨⟨n1, v4, v1, v2, v3, w1, w2⟩, hn1, hi1, h_1⟩ hq1
    try dsimp only at hn1 hi1 h_1
    clear hq1
    cbv
    rcases n1 with _ | n1
    · have hb1 : lt v4 (wrap .i64 (add 3 x1_1)) = false := ltC_false hg hn1
      rw [S_l7Draw_l1] at h_1
      try rw [← hg] at h_1
      try rw [← ht] at h_1
      try dsimp only at h_1
      rw [hb1]
      cbv
      refine ⟨(v1, v2, v3, w1, w2), Wk.of [(0, some 0), (1, some 1), (2, some 2), (3, some 3), (4, some 4)] rfl rfl ?_ ?_, (Option.some.inj h_1).symm⟩
      · cbv
        all_goals exact ⟨⟨_, rfl, rfl⟩, ⟨_, rfl, rfl⟩, ⟨_, rfl, rfl⟩, ⟨_, rfl, rfl⟩, ⟨_, rfl, rfl⟩, ⟨_, rfl, rfl⟩, trivial⟩
      · cbv
        all_goals exact ⟨⟨_, rfl, _, rfl, rfl, rfl, rfl, rfl, rfl, trivial⟩, ⟨_, rfl, rfl⟩, ⟨_, rfl, rfl⟩, ⟨_, rfl, _, rfl, rfl, rfl, rfl, trivial⟩, ⟨_, rfl, rfl⟩, trivial⟩
    · have hb1 : lt v4 (wrap .i64 (add 3 x1_1)) = true := ltC_true hg hn1
      have hl1 := ltC_le hn1
      have hs1 := stepltC hg hn1 hi1 hB1 (by decide)
      rw [S_l7Draw_l1] at h_1
      try rw [← hg] at h_1
      try rw [← ht] at h_1
      try dsimp only at h_1
      rw [hb1]
      cbv
      cases hb2 : (lt (int (dlen (d_I64 w1))) 4) with
      | true =>
        rw [br_true hb2] at h_1
        cbv
        try (rw [hb2]; cbv)
        obtain ⟨x2, hx2, h_1⟩ := of_cl h_1
        obtain ⟨x2_1, ⟨x2_2_b, x2_2_i, x2_2_h⟩⟩ := x2
        try dsimp only at h_1
        refine ACallM.mk _ _ _ _ rfl rfl (hF _ _ _ (c_S_l1Once hg ht hx2)) rfl (Nat.le_of_ble_eq_true rfl) (Nat.le_of_ble_eq_true rfl) ?_
        cbv
        try (rw [hb2]; cbv)
        cases hb3 : x2_1 with
        | true =>
          rw [br_true hb3] at h_1
          cbv
          try (rw [hb3]; cbv)
          try (rw [hb3]; cbv)
          try (rw [hb3]; cbv)
          try (rw [hb2]; cbv)
          try (rw [hb3]; cbv)
          try (rw [hb2]; cbv)
          obtain ⟨l4, hl4, h_1⟩ := of_lP h_1
          try dsimp only at h_1
          refine ANew.mk (d_I64 l4) (dlen (d_I64 l4)) (by rw [← hl4]; exact lit_I64 hg ht [v4]) (by rw [← hl4]; exact litn_I64 hg ht [v4]) ?_
          cbv
          obtain ⟨hc3, h_1⟩ := of_gd h_1
          refine AStep.mk ⟨⟨rfl, (dlen_I64 hg ht _)⟩, (app_ok_I64 hg ht (dlen_I64 hg ht _) rfl hc3)⟩ ?_
          cbv
          obtain ⟨l5, hl5, h_1⟩ := of_lP h_1
          try dsimp only at h_1
          refine ANew.mk (d_I64 l5) (dlen (d_I64 l5)) (by rw [← hl5]; exact app_I64 hg ht (dlen_I64 hg ht _) rfl) (by rw [← hl5]; exact appl_I64 hg ht (dlen_I64 hg ht _) rfl) ?_
          cbv
          cases hb4 : (lt (int (dlen (d_I64 w2))) 3) with
          | true =>
            rw [br_true hb4] at h_1
            cbv
            try (rw [hb4]; cbv)
            obtain ⟨x3, hx3, h_1⟩ := of_cl h_1
            obtain ⟨x3_1, ⟨x3_2_b, x3_2_i, x3_2_h⟩⟩ := x3
            try dsimp only at h_1
            refine ACallM.mk _ _ _ _ rfl rfl (hF _ _ _ (c_S_l1Once hg ht hx3)) rfl (Nat.le_of_ble_eq_true rfl) (Nat.le_of_ble_eq_true rfl) ?_
            cbv
            try (rw [hb4]; cbv)
            cases hb5 : x3_1 with
            | true =>
              rw [br_true hb5] at h_1
              cbv
              try (rw [hb5]; cbv)
              try (rw [hb5]; cbv)
              try (rw [hb5]; cbv)
              try (rw [hb4]; cbv)
              try (rw [hb5]; cbv)
              try (rw [hb4]; cbv)
              obtain ⟨l6, hl6, h_1⟩ := of_lP h_1
              try dsimp only at h_1
              refine ANew.mk (d_I64 l6) (dlen (d_I64 l6)) (by rw [← hl6]; exact lit_I64 hg ht [v4]) (by rw [← hl6]; exact litn_I64 hg ht [v4]) ?_
              cbv
              obtain ⟨hc1, h_1⟩ := of_gd h_1
              refine AStep.mk ⟨⟨rfl, (dlen_I64 hg ht _)⟩, (app_ok_I64 hg ht (dlen_I64 hg ht _) rfl hc1)⟩ ?_
              cbv
              obtain ⟨l7, hl7, h_1⟩ := of_lP h_1
              try dsimp only at h_1
              refine ANew.mk (d_I64 l7) (dlen (d_I64 l7)) (by rw [← hl7]; exact app_I64 hg ht (dlen_I64 hg ht _) rfl) (by rw [← hl7]; exact appl_I64 hg ht (dlen_I64 hg ht _) rfl) ?_
              cbv
              try rw [hg] at h_1
              try rw [ht] at h_1
              refine ⟨⟨(n1, (wrap .i64 (add v4 1)), x3_2_b, x3_2_i, x3_2_h, l5, l7), hs1.1, hs1.2, h_1⟩, Wk.of [(0, some 0), (1, some 357), (2, some 693), (3, some 3), (4, some 4)] rfl rfl ?_ ?_, Nat.lt_succ_self _⟩
              · cbv
                all_goals exact ⟨⟨_, rfl, rfl⟩, ⟨_, rfl, rfl⟩, ⟨_, rfl, rfl⟩, ⟨_, rfl, rfl⟩, ⟨_, rfl, rfl⟩, ⟨_, rfl, rfl⟩, ⟨_, rfl, rfl⟩, trivial⟩
              · cbv
                all_goals exact ⟨⟨_, rfl, _, rfl, rfl, rfl, rfl, rfl, rfl, trivial⟩, ⟨_, rfl, rfl⟩, ⟨_, rfl, rfl⟩, ⟨_, rfl, _, rfl, rfl, rfl, rfl, trivial⟩, ⟨_, rfl, rfl⟩, trivial⟩
            | false =>
              rw [br_false hb5] at h_1
              cbv
              try (rw [hb5]; cbv)
              try (rw [hb5]; cbv)
              cases hb6 : (eq v4 2) with
              | true =>
                rw [br_true hb6] at h_1
                cbv
                try (rw [hb6]; cbv)
                try (rw [hb6]; cbv)
                try (rw [hb5]; cbv)
                try (rw [hb6]; cbv)
                try (rw [hb4]; cbv)
                try (rw [hb5]; cbv)
                try (rw [hb4]; cbv)
                cases hb7 : (eq (int (dlen (d_I64 w2))) 0) with
                | true =>
                  rw [br_true hb7] at h_1
                  cbv
                  obtain ⟨l8, hl8, h_1⟩ := of_lP h_1
                  try dsimp only at h_1
                  refine ANew.mk (d_I64 l8) (dlen (d_I64 l8)) (by rw [← hl8]; exact lit_I64 hg ht [v4]) (by rw [← hl8]; exact litn_I64 hg ht [v4]) ?_
                  cbv
                  obtain ⟨hc2, h_1⟩ := of_gd h_1
                  refine AStep.mk ⟨⟨rfl, (dlen_I64 hg ht _)⟩, (app_ok_I64 hg ht (dlen_I64 hg ht _) rfl hc2)⟩ ?_
                  cbv
                  obtain ⟨l9, hl9, h_1⟩ := of_lP h_1
                  try dsimp only at h_1
                  refine ANew.mk (d_I64 l9) (dlen (d_I64 l9)) (by rw [← hl9]; exact app_I64 hg ht (dlen_I64 hg ht _) rfl) (by rw [← hl9]; exact appl_I64 hg ht (dlen_I64 hg ht _) rfl) ?_
                  cbv
                  try rw [hg] at h_1
                  try rw [ht] at h_1
                  refine ⟨⟨(n1, (wrap .i64 (add v4 1)), x3_2_b, x3_2_i, x3_2_h, l5, l9), hs1.1, hs1.2, h_1⟩, Wk.of [(0, some 0), (1, some 357), (2, some 693), (3, some 3), (4, some 4)] rfl rfl ?_ ?_, Nat.lt_succ_self _⟩
                  · cbv
                    all_goals exact ⟨⟨_, rfl, rfl⟩, ⟨_, rfl, rfl⟩, ⟨_, rfl, rfl⟩, ⟨_, rfl, rfl⟩, ⟨_, rfl, rfl⟩, ⟨_, rfl, rfl⟩, ⟨_, rfl, rfl⟩, trivial⟩
                  · cbv
                    all_goals exact ⟨⟨_, rfl, _, rfl, rfl, rfl, rfl, rfl, rfl, trivial⟩, ⟨_, rfl, rfl⟩, ⟨_, rfl, rfl⟩, ⟨_, rfl, _, rfl, rfl, rfl, rfl, trivial⟩, ⟨_, rfl, rfl⟩, trivial⟩
                | false =>
                  rw [br_false hb7] at h_1
                  cbv
                  try rw [hg] at h_1
                  try rw [ht] at h_1
                  refine ⟨⟨(n1, (wrap .i64 (add v4 1)), x3_2_b, x3_2_i, x3_2_h, l5, w2), hs1.1, hs1.2, h_1⟩, Wk.of [(0, some 0), (1, some 357), (2, some 2), (3, some 3), (4, some 4)] rfl rfl ?_ ?_, Nat.lt_succ_self _⟩
                  · cbv
                    all_goals exact ⟨⟨_, rfl, rfl⟩, ⟨_, rfl, rfl⟩, ⟨_, rfl, rfl⟩, ⟨_, rfl, rfl⟩, ⟨_, rfl, rfl⟩, ⟨_, rfl, rfl⟩, ⟨_, rfl, rfl⟩, trivial⟩
                  · cbv
                    all_goals exact ⟨⟨_, rfl, _, rfl, rfl, rfl, rfl, rfl, rfl, trivial⟩, ⟨_, rfl, rfl⟩, ⟨_, rfl, rfl⟩, ⟨_, rfl, _, rfl, rfl, rfl, rfl, trivial⟩, ⟨_, rfl, rfl⟩, trivial⟩
              | false =>
                rw [br_false hb6] at h_1
                cbv
                try (rw [hb6]; cbv)
                try (rw [hb6]; cbv)
                try (rw [hb5]; cbv)
                try (rw [hb6]; cbv)
                try (rw [hb4]; cbv)
                try (rw [hb5]; cbv)
                try (rw [hb4]; cbv)
                try rw [hg] at h_1
                try rw [ht] at h_1
                refine ⟨⟨(n1, (wrap .i64 (add v4 1)), x3_2_b, x3_2_i, x3_2_h, l5, w2), hs1.1, hs1.2, h_1⟩, Wk.of [(0, some 0), (1, some 357), (2, some 2), (3, some 3), (4, some 4)] rfl rfl ?_ ?_, Nat.lt_succ_self _⟩
                · cbv
                  all_goals exact ⟨⟨_, rfl, rfl⟩, ⟨_, rfl, rfl⟩, ⟨_, rfl, rfl⟩, ⟨_, rfl, rfl⟩, ⟨_, rfl, rfl⟩, ⟨_, rfl, rfl⟩, ⟨_, rfl, rfl⟩, trivial⟩
                · cbv
                  all_goals exact ⟨⟨_, rfl, _, rfl, rfl, rfl, rfl, rfl, rfl, trivial⟩, ⟨_, rfl, rfl⟩, ⟨_, rfl, rfl⟩, ⟨_, rfl, _, rfl, rfl, rfl, rfl, trivial⟩, ⟨_, rfl, rfl⟩, trivial⟩
          | false =>
            rw [br_false hb4] at h_1
            cbv
            try (rw [hb4]; cbv)
            try (rw [hb4]; cbv)
            try (rw [hb4]; cbv)
            try (rw [hb4]; cbv)
            try rw [hg] at h_1
            try rw [ht] at h_1
            refine ⟨⟨(n1, (wrap .i64 (add v4 1)), x2_2_b, x2_2_i, x2_2_h, l5, w2), hs1.1, hs1.2, h_1⟩, Wk.of [(0, some 0), (1, some 357), (2, some 2), (3, some 3), (4, some 4)] rfl rfl ?_ ?_, Nat.lt_succ_self _⟩
            · cbv
              all_goals exact ⟨⟨_, rfl, rfl⟩, ⟨_, rfl, rfl⟩, ⟨_, rfl, rfl⟩, ⟨_, rfl, rfl⟩, ⟨_, rfl, rfl⟩, ⟨_, rfl, rfl⟩, ⟨_, rfl, rfl⟩, trivial⟩
            · cbv
              all_goals exact ⟨⟨_, rfl, _, rfl, rfl, rfl, rfl, rfl, rfl, trivial⟩, ⟨_, rfl, rfl⟩, ⟨_, rfl, rfl⟩, ⟨_, rfl, _, rfl, rfl, rfl, rfl, trivial⟩, ⟨_, rfl, rfl⟩, trivial⟩
        | false =>
          rw [br_false hb3] at h_1
          cbv
          try (rw [hb3]; cbv)
          try (rw [hb3]; cbv)
          cases hb8 : (eq v4 1) with
          | true =>
            rw [br_true hb8] at h_1
            cbv
            try (rw [hb8]; cbv)
            try (rw [hb8]; cbv)
            try (rw [hb3]; cbv)
            try (rw [hb8]; cbv)
            try (rw [hb2]; cbv)
            try (rw [hb3]; cbv)
            try (rw [hb2]; cbv)
            cases hb9 : (eq (int (dlen (d_I64 w1))) 0) with
            | true =>
              rw [br_true hb9] at h_1
              cbv
              obtain ⟨l10, hl10, h_1⟩ := of_lP h_1
              try dsimp only at h_1
              refine ANew.mk (d_I64 l10) (dlen (d_I64 l10)) (by rw [← hl10]; exact lit_I64 hg ht [v4]) (by rw [← hl10]; exact litn_I64 hg ht [v4]) ?_
              cbv
              obtain ⟨hc6, h_1⟩ := of_gd h_1
              refine AStep.mk ⟨⟨rfl, (dlen_I64 hg ht _)⟩, (app_ok_I64 hg ht (dlen_I64 hg ht _) rfl hc6)⟩ ?_
              cbv
              obtain ⟨l11, hl11, h_1⟩ := of_lP h_1
              try dsimp only at h_1
              refine ANew.mk (d_I64 l11) (dlen (d_I64 l11)) (by rw [← hl11]; exact app_I64 hg ht (dlen_I64 hg ht _) rfl) (by rw [← hl11]; exact appl_I64 hg ht (dlen_I64 hg ht _) rfl) ?_
              cbv
              cases hb10 : (lt (int (dlen (d_I64 w2))) 3) with
              | true =>
                rw [br_true hb10] at h_1
                cbv
                try (rw [hb10]; cbv)
                obtain ⟨x4, hx4, h_1⟩ := of_cl h_1
                obtain ⟨x4_1, ⟨x4_2_b, x4_2_i, x4_2_h⟩⟩ := x4
                try dsimp only at h_1
                refine ACallM.mk _ _ _ _ rfl rfl (hF _ _ _ (c_S_l1Once hg ht hx4)) rfl (Nat.le_of_ble_eq_true rfl) (Nat.le_of_ble_eq_true rfl) ?_
                cbv
                try (rw [hb10]; cbv)
                cases hb11 : x4_1 with
                | true =>
                  rw [br_true hb11] at h_1
                  cbv
                  try (rw [hb11]; cbv)
                  try (rw [hb11]; cbv)
                  try (rw [hb11]; cbv)
                  try (rw [hb10]; cbv)
                  try (rw [hb11]; cbv)
                  try (rw [hb10]; cbv)
                  obtain ⟨l12, hl12, h_1⟩ := of_lP h_1
                  try dsimp only at h_1
                  refine ANew.mk (d_I64 l12) (dlen (d_I64 l12)) (by rw [← hl12]; exact lit_I64 hg ht [v4]) (by rw [← hl12]; exact litn_I64 hg ht [v4]) ?_
                  cbv
                  obtain ⟨hc4, h_1⟩ := of_gd h_1
                  refine AStep.mk ⟨⟨rfl, (dlen_I64 hg ht _)⟩, (app_ok_I64 hg ht (dlen_I64 hg ht _) rfl hc4)⟩ ?_
                  cbv
                  obtain ⟨l13, hl13, h_1⟩ := of_lP h_1
                  try dsimp only at h_1
                  refine ANew.mk (d_I64 l13) (dlen (d_I64 l13)) (by rw [← hl13]; exact app_I64 hg ht (dlen_I64 hg ht _) rfl) (by rw [← hl13]; exact appl_I64 hg ht (dlen_I64 hg ht _) rfl) ?_
                  cbv
                  try rw [hg] at h_1
                  try rw [ht] at h_1
                  refine ⟨⟨(n1, (wrap .i64 (add v4 1)), x4_2_b, x4_2_i, x4_2_h, l11, l13), hs1.1, hs1.2, h_1⟩, Wk.of [(0, some 0), (1, some 357), (2, some 693), (3, some 3), (4, some 4)] rfl rfl ?_ ?_, Nat.lt_succ_self _⟩
                  · cbv
                    all_goals exact ⟨⟨_, rfl, rfl⟩, ⟨_, rfl, rfl⟩, ⟨_, rfl, rfl⟩, ⟨_, rfl, rfl⟩, ⟨_, rfl, rfl⟩, ⟨_, rfl, rfl⟩, ⟨_, rfl, rfl⟩, trivial⟩
                  · cbv
                    all_goals exact ⟨⟨_, rfl, _, rfl, rfl, rfl, rfl, rfl, rfl, trivial⟩, ⟨_, rfl, rfl⟩, ⟨_, rfl, rfl⟩, ⟨_, rfl, _, rfl, rfl, rfl, rfl, trivial⟩, ⟨_, rfl, rfl⟩, trivial⟩
                | false =>
                  rw [br_false hb11] at h_1
                  cbv
                  try (rw [hb11]; cbv)
                  try (rw [hb11]; cbv)
                  cases hb12 : (eq v4 2) with
                  | true =>
                    rw [br_true hb12] at h_1
                    cbv
                    try (rw [hb12]; cbv)
                    try (rw [hb12]; cbv)
                    try (rw [hb11]; cbv)
                    try (rw [hb12]; cbv)
                    try (rw [hb10]; cbv)
                    try (rw [hb11]; cbv)
                    try (rw [hb10]; cbv)
                    cases hb13 : (eq (int (dlen (d_I64 w2))) 0) with
                    | true =>
                      rw [br_true hb13] at h_1
                      cbv
                      obtain ⟨l14, hl14, h_1⟩ := of_lP h_1
                      try dsimp only at h_1
                      refine ANew.mk (d_I64 l14) (dlen (d_I64 l14)) (by rw [← hl14]; exact lit_I64 hg ht [v4]) (by rw [← hl14]; exact litn_I64 hg ht [v4]) ?_
                      cbv
                      obtain ⟨hc5, h_1⟩ := of_gd h_1
                      refine AStep.mk ⟨⟨rfl, (dlen_I64 hg ht _)⟩, (app_ok_I64 hg ht (dlen_I64 hg ht _) rfl hc5)⟩ ?_
                      cbv
                      obtain ⟨l15, hl15, h_1⟩ := of_lP h_1
                      try dsimp only at h_1
                      refine ANew.mk (d_I64 l15) (dlen (d_I64 l15)) (by rw [← hl15]; exact app_I64 hg ht (dlen_I64 hg ht _) rfl) (by rw [← hl15]; exact appl_I64 hg ht (dlen_I64 hg ht _) rfl) ?_
                      cbv
                      try rw [hg] at h_1
                      try rw [ht] at h_1
                      refine ⟨⟨(n1, (wrap .i64 (add v4 1)), x4_2_b, x4_2_i, x4_2_h, l11, l15), hs1.1, hs1.2, h_1⟩, Wk.of [(0, some 0), (1, some 357), (2, some 693), (3, some 3), (4, some 4)] rfl rfl ?_ ?_, Nat.lt_succ_self _⟩
                      · cbv
                        all_goals exact ⟨⟨_, rfl, rfl⟩, ⟨_, rfl, rfl⟩, ⟨_, rfl, rfl⟩, ⟨_, rfl, rfl⟩, ⟨_, rfl, rfl⟩, ⟨_, rfl, rfl⟩, ⟨_, rfl, rfl⟩, trivial⟩
                      · cbv
                        all_goals exact ⟨⟨_, rfl, _, rfl, rfl, rfl, rfl, rfl, rfl, trivial⟩, ⟨_, rfl, rfl⟩, ⟨_, rfl, rfl⟩, ⟨_, rfl, _, rfl, rfl, rfl, rfl, trivial⟩, ⟨_, rfl, rfl⟩, trivial⟩
                    | false =>
                      rw [br_false hb13] at h_1
                      cbv
                      try rw [hg] at h_1
                      try rw [ht] at h_1
                      refine ⟨⟨(n1, (wrap .i64 (add v4 1)), x4_2_b, x4_2_i, x4_2_h, l11, w2), hs1.1, hs1.2, h_1⟩, Wk.of [(0, some 0), (1, some 357), (2, some 2), (3, some 3), (4, some 4)] rfl rfl ?_ ?_, Nat.lt_succ_self _⟩
                      · cbv
                        all_goals exact ⟨⟨_, rfl, rfl⟩, ⟨_, rfl, rfl⟩, ⟨_, rfl, rfl⟩, ⟨_, rfl, rfl⟩, ⟨_, rfl, rfl⟩, ⟨_, rfl, rfl⟩, ⟨_, rfl, rfl⟩, trivial⟩
                      · cbv
                        all_goals exact ⟨⟨_, rfl, _, rfl, rfl, rfl, rfl, rfl, rfl, trivial⟩, ⟨_, rfl, rfl⟩, ⟨_, rfl, rfl⟩, ⟨_, rfl, _, rfl, rfl, rfl, rfl, trivial⟩, ⟨_, rfl, rfl⟩, trivial⟩
                  | false =>
                    rw [br_false hb12] at h_1
                    cbv
                    try (rw [hb12]; cbv)
                    try (rw [hb12]; cbv)
                    try (rw [hb11]; cbv)
                    try (rw [hb12]; cbv)
                    try (rw [hb10]; cbv)
                    try (rw [hb11]; cbv)
                    try (rw [hb10]; cbv)
                    try rw [hg] at h_1
                    try rw [ht] at h_1
                    refine ⟨⟨(n1, (wrap .i64 (add v4 1)), x4_2_b, x4_2_i, x4_2_h, l11, w2), hs1.1, hs1.2, h_1⟩, Wk.of [(0, some 0), (1, some 357), (2, some 2), (3, some 3), (4, some 4)] rfl rfl ?_ ?_, Nat.lt_succ_self _⟩
                    · cbv
                      all_goals exact ⟨⟨_, rfl, rfl⟩, ⟨_, rfl, rfl⟩, ⟨_, rfl, rfl⟩, ⟨_, rfl, rfl⟩, ⟨_, rfl, rfl⟩, ⟨_, rfl, rfl⟩, ⟨_, rfl, rfl⟩, trivial⟩
                    · cbv
                      all_goals exact ⟨⟨_, rfl, _, rfl, rfl, rfl, rfl, rfl, rfl, trivial⟩, ⟨_, rfl, rfl⟩, ⟨_, rfl, rfl⟩, ⟨_, rfl, _, rfl, rfl, rfl, rfl, trivial⟩, ⟨_, rfl, rfl⟩, trivial⟩
              | false =>
                rw [br_false hb10] at h_1
                cbv
                try (rw [hb10]; cbv)
                try (rw [hb10]; cbv)
                try (rw [hb10]; cbv)
                try (rw [hb10]; cbv)
                try rw [hg] at h_1
                try rw [ht] at h_1
                refine ⟨⟨(n1, (wrap .i64 (add v4 1)), x2_2_b, x2_2_i, x2_2_h, l11, w2), hs1.1, hs1.2, h_1⟩, Wk.of [(0, some 0), (1, some 357), (2, some 2), (3, some 3), (4, some 4)] rfl rfl ?_ ?_, Nat.lt_succ_self _⟩
                · cbv
                  all_goals exact ⟨⟨_, rfl, rfl⟩, ⟨_, rfl, rfl⟩, ⟨_, rfl, rfl⟩, ⟨_, rfl, rfl⟩, ⟨_, rfl, rfl⟩, ⟨_, rfl, rfl⟩, ⟨_, rfl, rfl⟩, trivial⟩
                · cbv
                  all_goals exact ⟨⟨_, rfl, _, rfl, rfl, rfl, rfl, rfl, rfl, trivial⟩, ⟨_, rfl, rfl⟩, ⟨_, rfl, rfl⟩, ⟨_, rfl, _, rfl, rfl, rfl, rfl, trivial⟩, ⟨_, rfl, rfl⟩, trivial⟩
            | false =>
              rw [br_false hb9] at h_1
              cbv
              cases hb14 : (lt (int (dlen (d_I64 w2))) 3) with
              | true =>
                rw [br_true hb14] at h_1
                cbv
                try (rw [hb14]; cbv)
                obtain ⟨x5, hx5, h_1⟩ := of_cl h_1
                obtain ⟨x5_1, ⟨x5_2_b, x5_2_i, x5_2_h⟩⟩ := x5
                try dsimp only at h_1
                refine ACallM.mk _ _ _ _ rfl rfl (hF _ _ _ (c_S_l1Once hg ht hx5)) rfl (Nat.le_of_ble_eq_true rfl) (Nat.le_of_ble_eq_true rfl) ?_
                cbv
                try (rw [hb14]; cbv)
                cases hb15 : x5_1 with
                | true =>
                  rw [br_true hb15] at h_1
                  cbv
                  try (rw [hb15]; cbv)
                  try (rw [hb15]; cbv)
                  try (rw [hb15]; cbv)
                  try (rw [hb14]; cbv)
                  try (rw [hb15]; cbv)
                  try (rw [hb14]; cbv)
                  obtain ⟨l16, hl16, h_1⟩ := of_lP h_1
                  try dsimp only at h_1
                  refine ANew.mk (d_I64 l16) (dlen (d_I64 l16)) (by rw [← hl16]; exact lit_I64 hg ht [v4]) (by rw [← hl16]; exact litn_I64 hg ht [v4]) ?_
                  cbv
                  obtain ⟨hc7, h_1⟩ := of_gd h_1
                  refine AStep.mk ⟨⟨rfl, (dlen_I64 hg ht _)⟩, (app_ok_I64 hg ht (dlen_I64 hg ht _) rfl hc7)⟩ ?_
                  cbv
                  obtain ⟨l17, hl17, h_1⟩ := of_lP h_1
                  try dsimp only at h_1
                  refine ANew.mk (d_I64 l17) (dlen (d_I64 l17)) (by rw [← hl17]; exact app_I64 hg ht (dlen_I64 hg ht _) rfl) (by rw [← hl17]; exact appl_I64 hg ht (dlen_I64 hg ht _) rfl) ?_
                  cbv
                  try rw [hg] at h_1
                  try rw [ht] at h_1
                  refine ⟨⟨(n1, (wrap .i64 (add v4 1)), x5_2_b, x5_2_i, x5_2_h, w1, l17), hs1.1, hs1.2, h_1⟩, Wk.of [(0, some 0), (1, some 1), (2, some 613), (3, some 3), (4, some 4)] rfl rfl ?_ ?_, Nat.lt_succ_self _⟩
                  · cbv
                    all_goals exact ⟨⟨_, rfl, rfl⟩, ⟨_, rfl, rfl⟩, ⟨_, rfl, rfl⟩, ⟨_, rfl, rfl⟩, ⟨_, rfl, rfl⟩, ⟨_, rfl, rfl⟩, ⟨_, rfl, rfl⟩, trivial⟩
                  · cbv
                    all_goals exact ⟨⟨_, rfl, _, rfl, rfl, rfl, rfl, rfl, rfl, trivial⟩, ⟨_, rfl, rfl⟩, ⟨_, rfl, rfl⟩, ⟨_, rfl, _, rfl, rfl, rfl, rfl, trivial⟩, ⟨_, rfl, rfl⟩, trivial⟩
                | false =>
                  rw [br_false hb15] at h_1
                  cbv
                  try (rw [hb15]; cbv)
                  try (rw [hb15]; cbv)
                  cases hb16 : (eq v4 2) with
                  | true =>
                    rw [br_true hb16] at h_1
                    cbv
                    try (rw [hb16]; cbv)
                    try (rw [hb16]; cbv)
                    try (rw [hb15]; cbv)
                    try (rw [hb16]; cbv)
                    try (rw [hb14]; cbv)
                    try (rw [hb15]; cbv)
                    try (rw [hb14]; cbv)
                    cases hb17 : (eq (int (dlen (d_I64 w2))) 0) with
                    | true =>
                      rw [br_true hb17] at h_1
                      cbv
                      obtain ⟨l18, hl18, h_1⟩ := of_lP h_1
                      try dsimp only at h_1
                      refine ANew.mk (d_I64 l18) (dlen (d_I64 l18)) (by rw [← hl18]; exact lit_I64 hg ht [v4]) (by rw [← hl18]; exact litn_I64 hg ht [v4]) ?_
                      cbv
                      obtain ⟨hc8, h_1⟩ := of_gd h_1
                      refine AStep.mk ⟨⟨rfl, (dlen_I64 hg ht _)⟩, (app_ok_I64 hg ht (dlen_I64 hg ht _) rfl hc8)⟩ ?_
                      cbv
                      obtain ⟨l19, hl19, h_1⟩ := of_lP h_1
                      try dsimp only at h_1
                      refine ANew.mk (d_I64 l19) (dlen (d_I64 l19)) (by rw [← hl19]; exact app_I64 hg ht (dlen_I64 hg ht _) rfl) (by rw [← hl19]; exact appl_I64 hg ht (dlen_I64 hg ht _) rfl) ?_
                      cbv
                      try rw [hg] at h_1
                      try rw [ht] at h_1
                      refine ⟨⟨(n1, (wrap .i64 (add v4 1)), x5_2_b, x5_2_i, x5_2_h, w1, l19), hs1.1, hs1.2, h_1⟩, Wk.of [(0, some 0), (1, some 1), (2, some 613), (3, some 3), (4, some 4)] rfl rfl ?_ ?_, Nat.lt_succ_self _⟩
                      · cbv
                        all_goals exact ⟨⟨_, rfl, rfl⟩, ⟨_, rfl, rfl⟩, ⟨_, rfl, rfl⟩, ⟨_, rfl, rfl⟩, ⟨_, rfl, rfl⟩, ⟨_, rfl, rfl⟩, ⟨_, rfl, rfl⟩, trivial⟩
                      · cbv
                        all_goals exact ⟨⟨_, rfl, _, rfl, rfl, rfl, rfl, rfl, rfl, trivial⟩, ⟨_, rfl, rfl⟩, ⟨_, rfl, rfl⟩, ⟨_, rfl, _, rfl, rfl, rfl, rfl, trivial⟩, ⟨_, rfl, rfl⟩, trivial⟩
                    | false =>
                      rw [br_false hb17] at h_1
                      cbv
                      try rw [hg] at h_1
                      try rw [ht] at h_1
                      refine ⟨⟨(n1, (wrap .i64 (add v4 1)), x5_2_b, x5_2_i, x5_2_h, w1, w2), hs1.1, hs1.2, h_1⟩, Wk.of [(0, some 0), (1, some 1), (2, some 2), (3, some 3), (4, some 4)] rfl rfl ?_ ?_, Nat.lt_succ_self _⟩
                      · cbv
                        all_goals exact ⟨⟨_, rfl, rfl⟩, ⟨_, rfl, rfl⟩, ⟨_, rfl, rfl⟩, ⟨_, rfl, rfl⟩, ⟨_, rfl, rfl⟩, ⟨_, rfl, rfl⟩, ⟨_, rfl, rfl⟩, trivial⟩
                      · cbv
                        all_goals exact ⟨⟨_, rfl, _, rfl, rfl, rfl, rfl, rfl, rfl, trivial⟩, ⟨_, rfl, rfl⟩, ⟨_, rfl, rfl⟩, ⟨_, rfl, _, rfl, rfl, rfl, rfl, trivial⟩, ⟨_, rfl, rfl⟩, trivial⟩
                  | false =>
                    rw [br_false hb16] at h_1
                    cbv
                    try (rw [hb16]; cbv)
                    try (rw [hb16]; cbv)
                    try (rw [hb15]; cbv)
                    try (rw [hb16]; cbv)
                    try (rw [hb14]; cbv)
                    try (rw [hb15]; cbv)
                    try (rw [hb14]; cbv)
                    try rw [hg] at h_1
                    try rw [ht] at h_1
                    refine ⟨⟨(n1, (wrap .i64 (add v4 1)), x5_2_b, x5_2_i, x5_2_h, w1, w2), hs1.1, hs1.2, h_1⟩, Wk.of [(0, some 0), (1, some 1), (2, some 2), (3, some 3), (4, some 4)] rfl rfl ?_ ?_, Nat.lt_succ_self _⟩
                    · cbv
                      all_goals exact ⟨⟨_, rfl, rfl⟩, ⟨_, rfl, rfl⟩, ⟨_, rfl, rfl⟩, ⟨_, rfl, rfl⟩, ⟨_, rfl, rfl⟩, ⟨_, rfl, rfl⟩, ⟨_, rfl, rfl⟩, trivial⟩
                    · cbv
                      all_goals exact ⟨⟨_, rfl, _, rfl, rfl, rfl, rfl, rfl, rfl, trivial⟩, ⟨_, rfl, rfl⟩, ⟨_, rfl, rfl⟩, ⟨_, rfl, _, rfl, rfl, rfl, rfl, trivial⟩, ⟨_, rfl, rfl⟩, trivial⟩
              | false =>
                rw [br_false hb14] at h_1
                cbv
                try (rw [hb14]; cbv)
                try (rw [hb14]; cbv)
                try (rw [hb14]; cbv)
                try (rw [hb14]; cbv)
                try rw [hg] at h_1
                try rw [ht] at h_1
                refine ⟨⟨(n1, (wrap .i64 (add v4 1)), x2_2_b, x2_2_i, x2_2_h, w1, w2), hs1.1, hs1.2, h_1⟩, Wk.of [(0, some 0), (1, some 1), (2, some 2), (3, some 3), (4, some 4)] rfl rfl ?_ ?_, Nat.lt_succ_self _⟩
                · cbv
                  all_goals exact ⟨⟨_, rfl, rfl⟩, ⟨_, rfl, rfl⟩, ⟨_, rfl, rfl⟩, ⟨_, rfl, rfl⟩, ⟨_, rfl, rfl⟩, ⟨_, rfl, rfl⟩, ⟨_, rfl, rfl⟩, trivial⟩
                · cbv
                  all_goals exact ⟨⟨_, rfl, _, rfl, rfl, rfl, rfl, rfl, rfl, trivial⟩, ⟨_, rfl, rfl⟩, ⟨_, rfl, rfl⟩, ⟨_, rfl, _, rfl, rfl, rfl, rfl, trivial⟩, ⟨_, rfl, rfl⟩, trivial⟩
          | false =>
            rw [br_false hb8] at h_1
            cbv
            try (rw [hb8]; cbv)
            try (rw [hb8]; cbv)
            try (rw [hb3]; cbv)
            try (rw [hb8]; cbv)
            try (rw [hb2]; cbv)
            try (rw [hb3]; cbv)
            try (rw [hb2]; cbv)
            cases hb18 : (lt (int (dlen (d_I64 w2))) 3) with
            | true =>
              rw [br_true hb18] at h_1
              cbv
              try (rw [hb18]; cbv)
              obtain ⟨x6, hx6, h_1⟩ := of_cl h_1
              obtain ⟨x6_1, ⟨x6_2_b, x6_2_i, x6_2_h⟩⟩ := x6
              try dsimp only at h_1
              refine ACallM.mk _ _ _ _ rfl rfl (hF _ _ _ (c_S_l1Once hg ht hx6)) rfl (Nat.le_of_ble_eq_true rfl) (Nat.le_of_ble_eq_true rfl) ?_
              cbv
              try (rw [hb18]; cbv)
              cases hb19 : x6_1 with
              | true =>
                rw [br_true hb19] at h_1
                cbv
                try (rw [hb19]; cbv)
                try (rw [hb19]; cbv)
                try (rw [hb19]; cbv)
                try (rw [hb18]; cbv)
                try (rw [hb19]; cbv)
                try (rw [hb18]; cbv)
                obtain ⟨l20, hl20, h_1⟩ := of_lP h_1
                try dsimp only at h_1
                refine ANew.mk (d_I64 l20) (dlen (d_I64 l20)) (by rw [← hl20]; exact lit_I64 hg ht [v4]) (by rw [← hl20]; exact litn_I64 hg ht [v4]) ?_
                cbv
                obtain ⟨hc9, h_1⟩ := of_gd h_1
                refine AStep.mk ⟨⟨rfl, (dlen_I64 hg ht _)⟩, (app_ok_I64 hg ht (dlen_I64 hg ht _) rfl hc9)⟩ ?_
                cbv
                obtain ⟨l21, hl21, h_1⟩ := of_lP h_1
                try dsimp only at h_1
                refine ANew.mk (d_I64 l21) (dlen (d_I64 l21)) (by rw [← hl21]; exact app_I64 hg ht (dlen_I64 hg ht _) rfl) (by rw [← hl21]; exact appl_I64 hg ht (dlen_I64 hg ht _) rfl) ?_
                cbv
                try rw [hg] at h_1
                try rw [ht] at h_1
                refine ⟨⟨(n1, (wrap .i64 (add v4 1)), x6_2_b, x6_2_i, x6_2_h, w1, l21), hs1.1, hs1.2, h_1⟩, Wk.of [(0, some 0), (1, some 1), (2, some 613), (3, some 3), (4, some 4)] rfl rfl ?_ ?_, Nat.lt_succ_self _⟩
                · cbv
                  all_goals exact ⟨⟨_, rfl, rfl⟩, ⟨_, rfl, rfl⟩, ⟨_, rfl, rfl⟩, ⟨_, rfl, rfl⟩, ⟨_, rfl, rfl⟩, ⟨_, rfl, rfl⟩, ⟨_, rfl, rfl⟩, trivial⟩
                · cbv
                  all_goals exact ⟨⟨_, rfl, _, rfl, rfl, rfl, rfl, rfl, rfl, trivial⟩, ⟨_, rfl, rfl⟩, ⟨_, rfl, rfl⟩, ⟨_, rfl, _, rfl, rfl, rfl, rfl, trivial⟩, ⟨_, rfl, rfl⟩, trivial⟩
              | false =>
                rw [br_false hb19] at h_1
                cbv
                try (rw [hb19]; cbv)
                try (rw [hb19]; cbv)
                cases hb20 : (eq v4 2) with
                | true =>
                  rw [br_true hb20] at h_1
                  cbv
                  try (rw [hb20]; cbv)
                  try (rw [hb20]; cbv)
                  try (rw [hb19]; cbv)
                  try (rw [hb20]; cbv)
                  try (rw [hb18]; cbv)
                  try (rw [hb19]; cbv)
                  try (rw [hb18]; cbv)
                  cases hb21 : (eq (int (dlen (d_I64 w2))) 0) with
                  | true =>
                    rw [br_true hb21] at h_1
                    cbv
                    obtain ⟨l22, hl22, h_1⟩ := of_lP h_1
                    try dsimp only at h_1
                    refine ANew.mk (d_I64 l22) (dlen (d_I64 l22)) (by rw [← hl22]; exact lit_I64 hg ht [v4]) (by rw [← hl22]; exact litn_I64 hg ht [v4]) ?_
                    cbv
                    obtain ⟨hc10, h_1⟩ := of_gd h_1
                    refine AStep.mk ⟨⟨rfl, (dlen_I64 hg ht _)⟩, (app_ok_I64 hg ht (dlen_I64 hg ht _) rfl hc10)⟩ ?_
                    cbv
                    obtain ⟨l23, hl23, h_1⟩ := of_lP h_1
                    try dsimp only at h_1
                    refine ANew.mk (d_I64 l23) (dlen (d_I64 l23)) (by rw [← hl23]; exact app_I64 hg ht (dlen_I64 hg ht _) rfl) (by rw [← hl23]; exact appl_I64 hg ht (dlen_I64 hg ht _) rfl) ?_
                    cbv
                    try rw [hg] at h_1
                    try rw [ht] at h_1
                    refine ⟨⟨(n1, (wrap .i64 (add v4 1)), x6_2_b, x6_2_i, x6_2_h, w1, l23), hs1.1, hs1.2, h_1⟩, Wk.of [(0, some 0), (1, some 1), (2, some 613), (3, some 3), (4, some 4)] rfl rfl ?_ ?_, Nat.lt_succ_self _⟩
                    · cbv
                      all_goals exact ⟨⟨_, rfl, rfl⟩, ⟨_, rfl, rfl⟩, ⟨_, rfl, rfl⟩, ⟨_, rfl, rfl⟩, ⟨_, rfl, rfl⟩, ⟨_, rfl, rfl⟩, ⟨_, rfl, rfl⟩, trivial⟩
                    · cbv
                      all_goals exact ⟨⟨_, rfl, _, rfl, rfl, rfl, rfl, rfl, rfl, trivial⟩, ⟨_, rfl, rfl⟩, ⟨_, rfl, rfl⟩, ⟨_, rfl, _, rfl, rfl, rfl, rfl, trivial⟩, ⟨_, rfl, rfl⟩, trivial⟩
                  | false =>
                    rw [br_false hb21] at h_1
                    cbv
                    try rw [hg] at h_1
                    try rw [ht] at h_1
                    refine ⟨⟨(n1, (wrap .i64 (add v4 1)), x6_2_b, x6_2_i, x6_2_h, w1, w2), hs1.1, hs1.2, h_1⟩, Wk.of [(0, some 0), (1, some 1), (2, some 2), (3, some 3), (4, some 4)] rfl rfl ?_ ?_, Nat.lt_succ_self _⟩
                    · cbv
                      all_goals exact ⟨⟨_, rfl, rfl⟩, ⟨_, rfl, rfl⟩, ⟨_, rfl, rfl⟩, ⟨_, rfl, rfl⟩, ⟨_, rfl, rfl⟩, ⟨_, rfl, rfl⟩, ⟨_, rfl, rfl⟩, trivial⟩
                    · cbv
                      all_goals exact ⟨⟨_, rfl, _, rfl, rfl, rfl, rfl, rfl, rfl, trivial⟩, ⟨_, rfl, rfl⟩, ⟨_, rfl, rfl⟩, ⟨_, rfl, _, rfl, rfl, rfl, rfl, trivial⟩, ⟨_, rfl, rfl⟩, trivial⟩
                | false =>
                  rw [br_false hb20] at h_1
                  cbv
                  try (rw [hb20]; cbv)
                  try (rw [hb20]; cbv)
                  try (rw [hb19]; cbv)
                  try (rw [hb20]; cbv)
                  try (rw [hb18]; cbv)
                  try (rw [hb19]; cbv)
                  try (rw [hb18]; cbv)
                  try rw [hg] at h_1
                  try rw [ht] at h_1
                  refine ⟨⟨(n1, (wrap .i64 (add v4 1)), x6_2_b, x6_2_i, x6_2_h, w1, w2), hs1.1, hs1.2, h_1⟩, Wk.of [(0, some 0), (1, some 1), (2, some 2), (3, some 3), (4, some 4)] rfl rfl ?_ ?_, Nat.lt_succ_self _⟩
                  · cbv
                    all_goals exact ⟨⟨_, rfl, rfl⟩, ⟨_, rfl, rfl⟩, ⟨_, rfl, rfl⟩, ⟨_, rfl, rfl⟩, ⟨_, rfl, rfl⟩, ⟨_, rfl, rfl⟩, ⟨_, rfl, rfl⟩, trivial⟩
                  · cbv
                    all_goals exact ⟨⟨_, rfl, _, rfl, rfl, rfl, rfl, rfl, rfl, trivial⟩, ⟨_, rfl, rfl⟩, ⟨_, rfl, rfl⟩, ⟨_, rfl, _, rfl, rfl, rfl, rfl, trivial⟩, ⟨_, rfl, rfl⟩, trivial⟩
            | false =>
              rw [br_false hb18] at h_1
              cbv
              try (rw [hb18]; cbv)
              try (rw [hb18]; cbv)
              try (rw [hb18]; cbv)
              try (rw [hb18]; cbv)
              try rw [hg] at h_1
              try rw [ht] at h_1
              refine ⟨⟨(n1, (wrap .i64 (add v4 1)), x2_2_b, x2_2_i, x2_2_h, w1, w2), hs1.1, hs1.2, h_1⟩, Wk.of [(0, some 0), (1, some 1), (2, some 2), (3, some 3), (4, some 4)] rfl rfl ?_ ?_, Nat.lt_succ_self _⟩
              · cbv
                all_goals exact ⟨⟨_, rfl, rfl⟩, ⟨_, rfl, rfl⟩, ⟨_, rfl, rfl⟩, ⟨_, rfl, rfl⟩, ⟨_, rfl, rfl⟩, ⟨_, rfl, rfl⟩, ⟨_, rfl, rfl⟩, trivial⟩
              · cbv
                all_goals exact ⟨⟨_, rfl, _, rfl, rfl, rfl, rfl, rfl, rfl, trivial⟩, ⟨_, rfl, rfl⟩, ⟨_, rfl, rfl⟩, ⟨_, rfl, _, rfl, rfl, rfl, rfl, trivial⟩, ⟨_, rfl, rfl⟩, trivial⟩
      | false =>
        rw [br_false hb2] at h_1
        cbv
        try (rw [hb2]; cbv)
        try (rw [hb2]; cbv)
        try (rw [hb2]; cbv)
        try (rw [hb2]; cbv)
        cases hb22 : (lt (int (dlen (d_I64 w2))) 3) with
        | true =>
          rw [br_true hb22] at h_1
          cbv
          try (rw [hb22]; cbv)
          obtain ⟨x7, hx7, h_1⟩ := of_cl h_1
          obtain ⟨x7_1, ⟨x7_2_b, x7_2_i, x7_2_h⟩⟩ := x7
          try dsimp only at h_1
          refine ACallM.mk _ _ _ _ rfl rfl (hF _ _ _ (c_S_l1Once hg ht hx7)) rfl (Nat.le_of_ble_eq_true rfl) (Nat.le_of_ble_eq_true rfl) ?_
          cbv
          try (rw [hb22]; cbv)
          cases hb23 : x7_1 with
          | true =>
            rw [br_true hb23] at h_1
            cbv
            try (rw [hb23]; cbv)
            try (rw [hb23]; cbv)
            try (rw [hb23]; cbv)
            try (rw [hb22]; cbv)
            try (rw [hb23]; cbv)
            try (rw [hb22]; cbv)
            obtain ⟨l24, hl24, h_1⟩ := of_lP h_1
            try dsimp only at h_1
            refine ANew.mk (d_I64 l24) (dlen (d_I64 l24)) (by rw [← hl24]; exact lit_I64 hg ht [v4]) (by rw [← hl24]; exact litn_I64 hg ht [v4]) ?_
            cbv
            obtain ⟨hc11, h_1⟩ := of_gd h_1
            refine AStep.mk ⟨⟨rfl, (dlen_I64 hg ht _)⟩, (app_ok_I64 hg ht (dlen_I64 hg ht _) rfl hc11)⟩ ?_
            cbv
            obtain ⟨l25, hl25, h_1⟩ := of_lP h_1
            try dsimp only at h_1
            refine ANew.mk (d_I64 l25) (dlen (d_I64 l25)) (by rw [← hl25]; exact app_I64 hg ht (dlen_I64 hg ht _) rfl) (by rw [← hl25]; exact appl_I64 hg ht (dlen_I64 hg ht _) rfl) ?_
            cbv
            try rw [hg] at h_1
            try rw [ht] at h_1
            refine ⟨⟨(n1, (wrap .i64 (add v4 1)), x7_2_b, x7_2_i, x7_2_h, w1, l25), hs1.1, hs1.2, h_1⟩, Wk.of [(0, some 0), (1, some 1), (2, some 613), (3, some 3), (4, some 4)] rfl rfl ?_ ?_, Nat.lt_succ_self _⟩
            · cbv
              all_goals exact ⟨⟨_, rfl, rfl⟩, ⟨_, rfl, rfl⟩, ⟨_, rfl, rfl⟩, ⟨_, rfl, rfl⟩, ⟨_, rfl, rfl⟩, ⟨_, rfl, rfl⟩, ⟨_, rfl, rfl⟩, trivial⟩
            · cbv
              all_goals exact ⟨⟨_, rfl, _, rfl, rfl, rfl, rfl, rfl, rfl, trivial⟩, ⟨_, rfl, rfl⟩, ⟨_, rfl, rfl⟩, ⟨_, rfl, _, rfl, rfl, rfl, rfl, trivial⟩, ⟨_, rfl, rfl⟩, trivial⟩
          | false =>
            rw [br_false hb23] at h_1
            cbv
            try (rw [hb23]; cbv)
            try (rw [hb23]; cbv)
            cases hb24 : (eq v4 2) with
            | true =>
              rw [br_true hb24] at h_1
              cbv
              try (rw [hb24]; cbv)
              try (rw [hb24]; cbv)
              try (rw [hb23]; cbv)
              try (rw [hb24]; cbv)
              try (rw [hb22]; cbv)
              try (rw [hb23]; cbv)
              try (rw [hb22]; cbv)
              cases hb25 : (eq (int (dlen (d_I64 w2))) 0) with
              | true =>
                rw [br_true hb25] at h_1
                cbv
                obtain ⟨l26, hl26, h_1⟩ := of_lP h_1
                try dsimp only at h_1
                refine ANew.mk (d_I64 l26) (dlen (d_I64 l26)) (by rw [← hl26]; exact lit_I64 hg ht [v4]) (by rw [← hl26]; exact litn_I64 hg ht [v4]) ?_
                cbv
                obtain ⟨hc12, h_1⟩ := of_gd h_1
                refine AStep.mk ⟨⟨rfl, (dlen_I64 hg ht _)⟩, (app_ok_I64 hg ht (dlen_I64 hg ht _) rfl hc12)⟩ ?_
                cbv
                obtain ⟨l27, hl27, h_1⟩ := of_lP h_1
                try dsimp only at h_1
                refine ANew.mk (d_I64 l27) (dlen (d_I64 l27)) (by rw [← hl27]; exact app_I64 hg ht (dlen_I64 hg ht _) rfl) (by rw [← hl27]; exact appl_I64 hg ht (dlen_I64 hg ht _) rfl) ?_
                cbv
                try rw [hg] at h_1
                try rw [ht] at h_1
                refine ⟨⟨(n1, (wrap .i64 (add v4 1)), x7_2_b, x7_2_i, x7_2_h, w1, l27), hs1.1, hs1.2, h_1⟩, Wk.of [(0, some 0), (1, some 1), (2, some 613), (3, some 3), (4, some 4)] rfl rfl ?_ ?_, Nat.lt_succ_self _⟩
                · cbv
                  all_goals exact ⟨⟨_, rfl, rfl⟩, ⟨_, rfl, rfl⟩, ⟨_, rfl, rfl⟩, ⟨_, rfl, rfl⟩, ⟨_, rfl, rfl⟩, ⟨_, rfl, rfl⟩, ⟨_, rfl, rfl⟩, trivial⟩
                · cbv
                  all_goals exact ⟨⟨_, rfl, _, rfl, rfl, rfl, rfl, rfl, rfl, trivial⟩, ⟨_, rfl, rfl⟩, ⟨_, rfl, rfl⟩, ⟨_, rfl, _, rfl, rfl, rfl, rfl, trivial⟩, ⟨_, rfl, rfl⟩, trivial⟩
              | false =>
                rw [br_false hb25] at h_1
                cbv
                try rw [hg] at h_1
                try rw [ht] at h_1
                refine ⟨⟨(n1, (wrap .i64 (add v4 1)), x7_2_b, x7_2_i, x7_2_h, w1, w2), hs1.1, hs1.2, h_1⟩, Wk.of [(0, some 0), (1, some 1), (2, some 2), (3, some 3), (4, some 4)] rfl rfl ?_ ?_, Nat.lt_succ_self _⟩
                · cbv
                  all_goals exact ⟨⟨_, rfl, rfl⟩, ⟨_, rfl, rfl⟩, ⟨_, rfl, rfl⟩, ⟨_, rfl, rfl⟩, ⟨_, rfl, rfl⟩, ⟨_, rfl, rfl⟩, ⟨_, rfl, rfl⟩, trivial⟩
                · cbv
                  all_goals exact ⟨⟨_, rfl, _, rfl, rfl, rfl, rfl, rfl, rfl, trivial⟩, ⟨_, rfl, rfl⟩, ⟨_, rfl, rfl⟩, ⟨_, rfl, _, rfl, rfl, rfl, rfl, trivial⟩, ⟨_, rfl, rfl⟩, trivial⟩
            | false =>
              rw [br_false hb24] at h_1
              cbv
              try (rw [hb24]; cbv)
              try (rw [hb24]; cbv)
              try (rw [hb23]; cbv)
              try (rw [hb24]; cbv)
              try (rw [hb22]; cbv)
              try (rw [hb23]; cbv)
              try (rw [hb22]; cbv)
              try rw [hg] at h_1
              try rw [ht] at h_1
              refine ⟨⟨(n1, (wrap .i64 (add v4 1)), x7_2_b, x7_2_i, x7_2_h, w1, w2), hs1.1, hs1.2, h_1⟩, Wk.of [(0, some 0), (1, some 1), (2, some 2), (3, some 3), (4, some 4)] rfl rfl ?_ ?_, Nat.lt_succ_self _⟩
              · cbv
                all_goals exact ⟨⟨_, rfl, rfl⟩, ⟨_, rfl, rfl⟩, ⟨_, rfl, rfl⟩, ⟨_, rfl, rfl⟩, ⟨_, rfl, rfl⟩, ⟨_, rfl, rfl⟩, ⟨_, rfl, rfl⟩, trivial⟩
              · cbv
                all_goals exact ⟨⟨_, rfl, _, rfl, rfl, rfl, rfl, rfl, rfl, trivial⟩, ⟨_, rfl, rfl⟩, ⟨_, rfl, rfl⟩, ⟨_, rfl, _, rfl, rfl, rfl, rfl, trivial⟩, ⟨_, rfl, rfl⟩, trivial⟩
        | false =>
          rw [br_false hb22] at h_1
          cbv
          try (rw [hb22]; cbv)
          try (rw [hb22]; cbv)
          try (rw [hb22]; cbv)
          try (rw [hb22]; cbv)
          try rw [hg] at h_1
          try rw [ht] at h_1
          refine ⟨⟨(n1, (wrap .i64 (add v4 1)), v1, v2, v3, w1, w2), hs1.1, hs1.2, h_1⟩, Wk.of [(0, some 0), (1, some 1), (2, some 2), (3, some 3), (4, some 4)] rfl rfl ?_ ?_, Nat.lt_succ_self _⟩
          · cbv
            all_goals exact ⟨⟨_, rfl, rfl⟩, ⟨_, rfl, rfl⟩, ⟨_, rfl, rfl⟩, ⟨_, rfl, rfl⟩, ⟨_, rfl, rfl⟩, ⟨_, rfl, rfl⟩, ⟨_, rfl, rfl⟩, trivial⟩
          · cbv
            all_goals exact ⟨⟨_, rfl, _, rfl, rfl, rfl, rfl, rfl, rfl, trivial⟩, ⟨_, rfl, rfl⟩, ⟨_, rfl, rfl⟩, ⟨_, rfl, _, rfl, rfl, rfl, rfl, trivial⟩, ⟨_, rfl, rfl⟩, trivial⟩
  · rintro ⟨y1_1, y1_2_1, y1_2_2_1, y1_2_2_2_1, y1_2_2_2_2⟩ hy1
    replace hy1 := hy1.symm
    subst hy1
    try dsimp only [lr, lrL, lrp, lrpL] at h
    cbv
    obtain ⟨x8, hx8, h⟩ := of_cl h
    obtain ⟨x8_1, ⟨x8_2_b, x8_2_i, x8_2_h⟩⟩ := x8
    try dsimp only at h
    refine ACallM.mk _ _ _ _ rfl rfl (hF _ _ _ (c_S_l1Below hg ht hx8)) rfl (Nat.le_of_ble_eq_true rfl) (Nat.le_of_ble_eq_true rfl) ?_
    cbv
    obtain ⟨o2, ho2, h⟩ := of_cl h
    try dsimp only at h
    try rw [hg] at ho2
    try rw [ht] at ho2
    refine ABL.mk { p : Nat × (List Int) × Int × Int × (List Int) × Int // S_l7Draw_l2 G.real TE.real (y1_1, y1_2_1, y1_2_2_1, y1_2_2_2_1, y1_2_2_2_2) p.1 p.2.1 p.2.2.1 p.2.2.2.1 p.2.2.2.2.1 p.2.2.2.2.2 = some o2 } (fun ⟨⟨n2, v5, v6, v7, w3, v8⟩, _⟩ => ({ sl := [(0, .c (.p 3 3 0 0)), (2, .c (.p 0 5 0 0)), (3, .c (.r (.v (.int .i64 (wrap .i64 (add 3 x1_1)))))), (4, .c (.f 1 1 0 (dlen (d_I64 y1_2_2_2_1)))), (5, .c (.f 2 1 0 (dlen (d_I64 y1_2_2_2_2)))), (6, .c (.f 4 1 0 (dlen (d_I64 w3)))), (8, .c (.r (.v (.int .i64 v8))))], tab := [(0, some (.foc 5 [] [.n 2, .n 3, .n 2, .n 1, .r (.v (.int .i64 0))] [])), (1, some (.arr 1 (d_I64 y1_2_2_2_1))), (2, some (.arr 1 (d_I64 y1_2_2_2_2))), (3, some (.foc 3 [] [.r (.s 1 (r_U8 v5)), .r (.v (.int .i64 v6)), .r (.v (.int .i64 v7))] [])), (4, some (.arr 1 (d_I64 w3)))] } : St)) 5 (fun p => p.1.1) ⟨(1000000000, x8_2_b, x8_2_i, x8_2_h, l3, (wrap .i64 (add 1 x8_1))), ho2⟩ ((List Int) × Int × Int × List Int) (fun ⟨y2_1, y2_2_1, y2_2_2_1, y2_2_2_2⟩ => ({ sl := [(0, .c (.p 3 3 0 0)), (2, .c (.p 0 5 0 0)), (3, .c (.r (.v (.int .i64 (wrap .i64 (add 3 x1_1)))))), (4, .c (.f 1 1 0 (dlen (d_I64 y1_2_2_2_1)))), (5, .c (.f 2 1 0 (dlen (d_I64 y1_2_2_2_2)))), (6, .c (.f 4 1 0 (dlen (d_I64 y2_2_2_2))))], tab := [(0, some (.foc 5 [] [.n 2, .n 3, .n 2, .n 1, .r (.v (.int .i64 0))] [])), (1, some (.arr 1 (d_I64 y1_2_2_2_1))), (2, some (.arr 1 (d_I64 y1_2_2_2_2))), (3, some (.foc 3 [] [.r (.s 1 (r_U8 y2_1)), .r (.v (.int .i64 y2_2_1)), .r (.v (.int .i64 y2_2_2_1))] [])), (4, some (.arr 1 (d_I64 y2_2_2_2)))] } : St)) 5 (fun y => o2 = y) ?_ ?_ ?_
    · refine Wk.of [(0, some 0), (1, some 1), (2, some 2), (3, some 3), (4, some 4)] rfl rfl ?_ ?_
      · cbv
        all_goals exact ⟨⟨_, rfl, rfl⟩, ⟨_, rfl, rfl⟩, ⟨_, rfl, rfl⟩, ⟨_, rfl, rfl⟩, ⟨_, rfl, rfl⟩, ⟨_, rfl, rfl⟩, ⟨_, rfl, rfl⟩, trivial⟩
      · cbv
        all_goals exact ⟨⟨_, rfl, _, rfl, rfl, rfl, rfl, rfl, rfl, trivial⟩, ⟨_, rfl, rfl⟩, ⟨_, rfl, rfl⟩, ⟨_, rfl, _, rfl, rfl, rfl, rfl, trivial⟩, ⟨_, rfl, rfl⟩, trivial⟩
    · rintro ⟨⟨n2, v5, v6, v7, w3, v8⟩, h_2⟩ hq2
      try dsimp only at h_2
      clear hq2
      rcases n2 with _ | n2
      · rw [S_l7Draw_l2] at h_2; cases h_2
      · rw [S_l7Draw_l2] at h_2
        try rw [← hg] at h_2
        try rw [← ht] at h_2
        try dsimp only at h_2
        cbv
        cases hb26 : (lt 0 v8) with
        | true =>
          rw [br_true hb26] at h_2
          cbv
          obtain ⟨x9, hx9, h_2⟩ := of_cl h_2
          obtain ⟨x9_1, ⟨x9_2_b, x9_2_i, x9_2_h⟩⟩ := x9
          try dsimp only at h_2
          refine ACallM.mk _ _ _ _ rfl rfl (hF _ _ _ (c_S_l1Below hg ht hx9)) rfl (Nat.le_of_ble_eq_true rfl) (Nat.le_of_ble_eq_true rfl) ?_
          cbv
          obtain ⟨l28, hl28, h_2⟩ := of_lP h_2
          try dsimp only at h_2
          refine ANew.mk (d_I64 l28) (dlen (d_I64 l28)) (by rw [← hl28]; exact lit_I64 hg ht [x9_1]) (by rw [← hl28]; exact litn_I64 hg ht [x9_1]) ?_
          cbv
          obtain ⟨hc13, h_2⟩ := of_gd h_2
          refine AStep.mk ⟨⟨rfl, (dlen_I64 hg ht _)⟩, (app_ok_I64 hg ht (dlen_I64 hg ht _) rfl hc13)⟩ ?_
          cbv
          obtain ⟨l29, hl29, h_2⟩ := of_lP h_2
          try dsimp only at h_2
          refine ANew.mk (d_I64 l29) (dlen (d_I64 l29)) (by rw [← hl29]; exact app_I64 hg ht (dlen_I64 hg ht _) rfl) (by rw [← hl29]; exact appl_I64 hg ht (dlen_I64 hg ht _) rfl) ?_
          cbv
          try rw [hg] at h_2
          try rw [ht] at h_2
          refine ⟨⟨(n2, x9_2_b, x9_2_i, x9_2_h, l29, (wrap .i64 (sub v8 1))), h_2⟩, Wk.of [(0, some 0), (1, some 1), (2, some 2), (3, some 3), (4, some 133)] rfl rfl ?_ ?_, Nat.lt_succ_self _⟩
          · cbv
            all_goals exact ⟨⟨_, rfl, rfl⟩, ⟨_, rfl, rfl⟩, ⟨_, rfl, rfl⟩, ⟨_, rfl, rfl⟩, ⟨_, rfl, rfl⟩, ⟨_, rfl, rfl⟩, ⟨_, rfl, rfl⟩, trivial⟩
          · cbv
            all_goals exact ⟨⟨_, rfl, _, rfl, rfl, rfl, rfl, rfl, rfl, trivial⟩, ⟨_, rfl, rfl⟩, ⟨_, rfl, rfl⟩, ⟨_, rfl, _, rfl, rfl, rfl, rfl, trivial⟩, ⟨_, rfl, rfl⟩, trivial⟩
        | false =>
          rw [br_false hb26] at h_2
          cbv
          refine ⟨(v5, v6, v7, w3), Wk.of [(0, some 0), (1, some 1), (2, some 2), (3, some 3), (4, some 4)] rfl rfl ?_ ?_, (Option.some.inj h_2).symm⟩
          · cbv
            all_goals exact ⟨⟨_, rfl, rfl⟩, ⟨_, rfl, rfl⟩, ⟨_, rfl, rfl⟩, ⟨_, rfl, rfl⟩, ⟨_, rfl, rfl⟩, ⟨_, rfl, rfl⟩, trivial⟩
          · cbv
            all_goals exact ⟨⟨_, rfl, _, rfl, rfl, rfl, rfl, rfl, rfl, trivial⟩, ⟨_, rfl, rfl⟩, ⟨_, rfl, rfl⟩, ⟨_, rfl, _, rfl, rfl, rfl, rfl, trivial⟩, ⟨_, rfl, rfl⟩, trivial⟩
    · rintro ⟨y2_1, y2_2_1, y2_2_2_1, y2_2_2_2⟩ hy2
      replace hy2 := hy2.symm
      subst hy2
      try dsimp only [lr, lrL, lrp, lrpL] at h
      cbv
      obtain ⟨x10, hx10, h⟩ := of_cl h
      obtain ⟨x10_1, ⟨x10_2_b, x10_2_i, x10_2_h⟩⟩ := x10
      try dsimp only at h
      refine ACallM.mk _ _ _ _ rfl rfl (hF _ _ _ (c_S_l1Below hg ht hx10)) rfl (Nat.le_of_ble_eq_true rfl) (Nat.le_of_ble_eq_true rfl) ?_
      cbv
      refine AStep.mk ⟨(lend_I64 ht (dlen_I64 hg ht _)), ⟨(lend_I64 ht (dlen_I64 hg ht _)), (lend_I64 ht (dlen_I64 hg ht _))⟩⟩ ?_
      cbv
      obtain ⟨x11, hx11, h⟩ := of_cl h
      obtain ⟨⟨x11_1_Belt, x11_1_Chutes, x11_1_Inlets, x11_1_Plan, x11_1_Now⟩, x11_2⟩ := x11
      try dsimp only at h
      refine ACall.mk _ _ (by rw [show rd (d_I64 y1_2_2_2_1) 0 (dlen (d_I64 y1_2_2_2_1)) = r_I64 y1_2_2_2_1 from rdw_I64 hg ht (dlen_I64 hg ht _), show rd (d_I64 y1_2_2_2_2) 0 (dlen (d_I64 y1_2_2_2_2)) = r_I64 y1_2_2_2_2 from rdw_I64 hg ht (dlen_I64 hg ht _), show rd (d_I64 y2_2_2_2) 0 (dlen (d_I64 y2_2_2_2)) = r_I64 y2_2_2_2 from rdw_I64 hg ht (dlen_I64 hg ht _)]; try rfl) (hF _ _ _ (c_S_NewCentre hg ht hx11)) (.inr (by simp only [Go.Vs.X.fresh, Go.Vs.X.freshs, freshD, freshDs, Bool.and_self, Centre.ds, hfr_Chute, hfr_I64, hfr_Inlet, hfr_Item])) (Nat.le_of_ble_eq_true rfl) ?_
      cbv
      obtain ⟨x12, hx12, h⟩ := of_cl h
      obtain ⟨x12_1, ⟨x12_2_b, x12_2_i, x12_2_h⟩⟩ := x12
      try dsimp only at h
      refine ACallM.mk _ _ _ _ rfl rfl (hF _ _ _ (c_S_l1Below hg ht hx12)) rfl (Nat.le_of_ble_eq_true rfl) (Nat.le_of_ble_eq_true rfl) ?_
      cbv
      obtain ⟨o3, ho3, h⟩ := of_cl h
      try dsimp only at h
      try rw [hg] at ho3
      try rw [ht] at ho3
      refine ABL.mk { p : Nat × (List Int) × Int × Int × (List Item) × (List Chute) × (List Inlet) × (List Int) × Int × Int × Int // S_l7Draw_l3 G.real TE.real (y1_1, y1_2_1, y1_2_2_1, y1_2_2_2_1, y1_2_2_2_2) (y2_1, y2_2_1, y2_2_2_1, y2_2_2_2) p.1 p.2.1 p.2.2.1 p.2.2.2.1 p.2.2.2.2.1 p.2.2.2.2.2.1 p.2.2.2.2.2.2.1 p.2.2.2.2.2.2.2.1 p.2.2.2.2.2.2.2.2.1 p.2.2.2.2.2.2.2.2.2.1 p.2.2.2.2.2.2.2.2.2.2 = some o3 } (fun ⟨⟨n3, v9, v10, v11, w4, w5, w6, w7, v12, v13, v14⟩, _⟩ => ({ sl := [(0, .c (.p 3 3 0 0)), (2, .c (.p 0 5 0 0)), (5, .c (.f 1 1 0 (dlen (d_I64 y1_2_2_2_2)))), (6, .c (.f 2 1 0 (dlen (d_I64 y2_2_2_2)))), (9, .c (.p 4 5 0 0)), (11, .c (.r (.v (.int .i64 v13)))), (12, .c (.r (.v (.int .i64 v14))))], tab := [(0, some (.foc 5 [] [.n 2, .n 3, .n 2, .n 1, .r (.v (.int .i64 0))] [])), (1, some (.arr 1 (d_I64 y1_2_2_2_2))), (2, some (.arr 1 (d_I64 y2_2_2_2))), (3, some (.foc 3 [] [.r (.s 1 (r_U8 v9)), .r (.v (.int .i64 v10)), .r (.v (.int .i64 v11))] [])), (4, some (.foc 5 [] [.f 5 2 0 (dlen (d_Item w4)), .f 6 3 0 (dlen (d_Chute w5)), .f 7 2 0 (dlen (d_Inlet w6)), .f 8 1 0 (dlen (d_I64 w7)), .r (.v (.int .i64 v12))] [])), (5, some (.arr 2 (d_Item w4))), (6, some (.arr 3 (d_Chute w5))), (7, some (.arr 2 (d_Inlet w6))), (8, some (.arr 1 (d_I64 w7)))] } : St)) 9 (fun p => p.1.1) ⟨(1000000000, x12_2_b, x12_2_i, x12_2_h, x11_1_Belt, x11_1_Chutes, x11_1_Inlets, x11_1_Plan, x11_1_Now, 0, x12_1), ho3⟩ ((List Int) × Int × Int × (List Item) × (List Chute) × (List Inlet) × (List Int) × Int) (fun ⟨y3_1, y3_2_1, y3_2_2_1, y3_2_2_2_1, y3_2_2_2_2_1, y3_2_2_2_2_2_1, y3_2_2_2_2_2_2_1, y3_2_2_2_2_2_2_2⟩ => ({ sl := [(0, .c (.p 3 3 0 0)), (2, .c (.p 0 5 0 0)), (9, .c (.p 1 5 0 0))], tab := [(0, some (.foc 5 [] [.n 2, .n 3, .n 2, .n 1, .r (.v (.int .i64 0))] [])), (1, some (.foc 5 [] [.f 2 2 0 (dlen (d_Item y3_2_2_2_1)), .f 4 3 0 (dlen (d_Chute y3_2_2_2_2_1)), .f 5 2 0 (dlen (d_Inlet y3_2_2_2_2_2_1)), .f 6 1 0 (dlen (d_I64 y3_2_2_2_2_2_2_1)), .r (.v (.int .i64 y3_2_2_2_2_2_2_2))] [])), (2, some (.arr 2 (d_Item y3_2_2_2_1))), (3, some (.foc 3 [] [.r (.s 1 (r_U8 y3_1)), .r (.v (.int .i64 y3_2_1)), .r (.v (.int .i64 y3_2_2_1))] [])), (4, some (.arr 3 (d_Chute y3_2_2_2_2_1))), (5, some (.arr 2 (d_Inlet y3_2_2_2_2_2_1))), (6, some (.arr 1 (d_I64 y3_2_2_2_2_2_2_1)))] } : St)) 7 (fun y => o3 = y) ?_ ?_ ?_
      · refine Wk.of [(0, some 0), (1, some 2), (2, some 4), (3, some 3), (4, some 181), (5, some 117), (6, some 118), (7, some 119), (8, some 120)] rfl rfl ?_ ?_
        · cbv
          all_goals exact ⟨⟨_, rfl, rfl⟩, ⟨_, rfl, rfl⟩, ⟨_, rfl, rfl⟩, ⟨_, rfl, rfl⟩, ⟨_, rfl, rfl⟩, ⟨_, rfl, rfl⟩, ⟨_, rfl, rfl⟩, trivial⟩
        · cbv
          all_goals exact ⟨⟨_, rfl, _, rfl, rfl, rfl, rfl, rfl, rfl, trivial⟩, ⟨_, rfl, rfl⟩, ⟨_, rfl, rfl⟩, ⟨_, rfl, _, rfl, rfl, rfl, rfl, trivial⟩, ⟨_, rfl, _, rfl, rfl, rfl, rfl, rfl, rfl, trivial⟩, ⟨_, rfl, rfl⟩, ⟨_, rfl, rfl⟩, ⟨_, rfl, rfl⟩, ⟨_, rfl, rfl⟩, trivial⟩
      · rintro ⟨⟨n3, v9, v10, v11, w4, w5, w6, w7, v12, v13, v14⟩, h_3⟩ hq3
        try dsimp only at h_3
        clear hq3
        rcases n3 with _ | n3
        · rw [S_l7Draw_l3] at h_3; cases h_3
        · rw [S_l7Draw_l3] at h_3
          try rw [← hg] at h_3
          try rw [← ht] at h_3
          try dsimp only at h_3
          cbv
          cases hb27 : (lt 0 v14) with
          | true =>
            rw [br_true hb27] at h_3
            cbv
            obtain ⟨x13, hx13, h_3⟩ := of_cl h_3
            obtain ⟨x13_1, ⟨x13_2_b, x13_2_i, x13_2_h⟩⟩ := x13
            try dsimp only at h_3
            refine ACallM.mk _ _ _ _ rfl rfl (hF _ _ _ (c_S_l1Below hg ht hx13)) rfl (Nat.le_of_ble_eq_true rfl) (Nat.le_of_ble_eq_true rfl) ?_
            cbv
            obtain ⟨x14, hx14, h_3⟩ := of_cl h_3
            obtain ⟨x14_1, ⟨x14_2_b, x14_2_i, x14_2_h⟩⟩ := x14
            try dsimp only at h_3
            refine ACallM.mk _ _ _ _ rfl rfl (hF _ _ _ (c_S_l1Below hg ht hx14)) rfl (Nat.le_of_ble_eq_true rfl) (Nat.le_of_ble_eq_true rfl) ?_
            cbv
            obtain ⟨x15, hx15, h_3⟩ := of_cl h_3
            obtain ⟨x15_1, ⟨x15_2_b, x15_2_i, x15_2_h⟩⟩ := x15
            try dsimp only at h_3
            refine ACallM.mk _ _ _ _ rfl rfl (hF _ _ _ (c_S_l1Below hg ht hx15)) rfl (Nat.le_of_ble_eq_true rfl) (Nat.le_of_ble_eq_true rfl) ?_
            cbv
            refine AStep.mk ⟨(lend_Item ht (dlen_Item hg ht _)), ⟨(lend_Chute ht (dlen_Chute hg ht _)), ⟨(lend_Inlet ht (dlen_Inlet hg ht _)), (lend_I64 ht (dlen_I64 hg ht _))⟩⟩⟩ ?_
            cbv
            obtain ⟨x16, hx16, h_3⟩ := of_cl h_3
            obtain ⟨⟨x16_1_Belt, x16_1_Chutes, x16_1_Inlets, x16_1_Plan, x16_1_Now⟩, x16_2⟩ := x16
            try dsimp only at h_3
            refine ACall.mk _ _ (by rw [show rd (d_Item w4) 0 (dlen (d_Item w4)) = r_Item w4 from rdw_Item hg ht (dlen_Item hg ht _), show rd (d_Chute w5) 0 (dlen (d_Chute w5)) = r_Chute w5 from rdw_Chute hg ht (dlen_Chute hg ht _), show rd (d_Inlet w6) 0 (dlen (d_Inlet w6)) = r_Inlet w6 from rdw_Inlet hg ht (dlen_Inlet hg ht _), show rd (d_I64 w7) 0 (dlen (d_I64 w7)) = r_I64 w7 from rdw_I64 hg ht (dlen_I64 hg ht _)]; try rfl) (hF _ _ _ (c_S_FeedCentre hg ht hx16)) (.inr (by simp only [Go.Vs.X.fresh, Go.Vs.X.freshs, freshD, freshDs, Bool.and_self, Centre.ds, hfr_Chute, hfr_I64, hfr_Inlet, hfr_Item])) (Nat.le_of_ble_eq_true rfl) ?_
            cbv
            try rw [hg] at h_3
            try rw [ht] at h_3
            refine ⟨⟨(n3, x15_2_b, x15_2_i, x15_2_h, x16_1_Belt, x16_1_Chutes, x16_1_Inlets, x16_1_Plan, x16_1_Now, (wrap .i64 (add (wrap .i64 (add v13 1)) x13_1)), (wrap .i64 (sub v14 1))), h_3⟩, Wk.of [(0, some 0), (1, some 1), (2, some 2), (3, some 3), (4, some 4), (5, some 313), (6, some 314), (7, some 315), (8, some 316)] rfl rfl ?_ ?_, Nat.lt_succ_self _⟩
            · cbv
              all_goals exact ⟨⟨_, rfl, rfl⟩, ⟨_, rfl, rfl⟩, ⟨_, rfl, rfl⟩, ⟨_, rfl, rfl⟩, ⟨_, rfl, rfl⟩, ⟨_, rfl, rfl⟩, ⟨_, rfl, rfl⟩, trivial⟩
            · cbv
              all_goals exact ⟨⟨_, rfl, _, rfl, rfl, rfl, rfl, rfl, rfl, trivial⟩, ⟨_, rfl, rfl⟩, ⟨_, rfl, rfl⟩, ⟨_, rfl, _, rfl, rfl, rfl, rfl, trivial⟩, ⟨_, rfl, _, rfl, rfl, rfl, rfl, rfl, rfl, trivial⟩, ⟨_, rfl, rfl⟩, ⟨_, rfl, rfl⟩, ⟨_, rfl, rfl⟩, ⟨_, rfl, rfl⟩, trivial⟩
          | false =>
            rw [br_false hb27] at h_3
            cbv
            refine ⟨(v9, v10, v11, w4, w5, w6, w7, v12), Wk.of [(0, some 0), (1, some 4), (2, some 5), (3, some 3), (4, some 6), (5, some 7), (6, some 8)] rfl rfl ?_ ?_, (Option.some.inj h_3).symm⟩
            · cbv
              all_goals exact ⟨⟨_, rfl, rfl⟩, ⟨_, rfl, rfl⟩, ⟨_, rfl, rfl⟩, trivial⟩
            · cbv
              all_goals exact ⟨⟨_, rfl, _, rfl, rfl, rfl, rfl, rfl, rfl, trivial⟩, ⟨_, rfl, _, rfl, rfl, rfl, rfl, rfl, rfl, trivial⟩, ⟨_, rfl, rfl⟩, ⟨_, rfl, _, rfl, rfl, rfl, rfl, trivial⟩, ⟨_, rfl, rfl⟩, ⟨_, rfl, rfl⟩, ⟨_, rfl, rfl⟩, trivial⟩
      · rintro ⟨y3_1, y3_2_1, y3_2_2_1, y3_2_2_2_1, y3_2_2_2_2_1, y3_2_2_2_2_2_1, y3_2_2_2_2_2_2_1, y3_2_2_2_2_2_2_2⟩ hy3
        replace hy3 := hy3.symm
        subst hy3
        try dsimp only [lr, lrL, lrp, lrpL] at h
        cbv
        obtain ⟨x17, hx17, h⟩ := of_cl h
        obtain ⟨x17_1, ⟨x17_2_b, x17_2_i, x17_2_h⟩⟩ := x17
        try dsimp only at h
        refine ACallM.mk _ _ _ _ rfl rfl (hF _ _ _ (c_S_l1Below hg ht hx17)) rfl (Nat.le_of_ble_eq_true rfl) (Nat.le_of_ble_eq_true rfl) ?_
        cbv
        refine AStep.mk ⟨(lend_Item ht (dlen_Item hg ht _)), ⟨(lend_Chute ht (dlen_Chute hg ht _)), ⟨(lend_Inlet ht (dlen_Inlet hg ht _)), (lend_I64 ht (dlen_I64 hg ht _))⟩⟩⟩ ?_
        cbv
        obtain ⟨x18, hx18, h⟩ := of_cl h
        obtain ⟨x18_Belt, x18_Chutes, x18_Inlets, x18_Plan, x18_Now⟩ := x18
        try dsimp only at h
        refine ACall.mk _ _ (by rw [show rd (d_Item y3_2_2_2_1) 0 (dlen (d_Item y3_2_2_2_1)) = r_Item y3_2_2_2_1 from rdw_Item hg ht (dlen_Item hg ht _), show rd (d_Chute y3_2_2_2_2_1) 0 (dlen (d_Chute y3_2_2_2_2_1)) = r_Chute y3_2_2_2_2_1 from rdw_Chute hg ht (dlen_Chute hg ht _), show rd (d_Inlet y3_2_2_2_2_2_1) 0 (dlen (d_Inlet y3_2_2_2_2_2_1)) = r_Inlet y3_2_2_2_2_2_1 from rdw_Inlet hg ht (dlen_Inlet hg ht _), show rd (d_I64 y3_2_2_2_2_2_2_1) 0 (dlen (d_I64 y3_2_2_2_2_2_2_1)) = r_I64 y3_2_2_2_2_2_2_1 from rdw_I64 hg ht (dlen_I64 hg ht _)]; try rfl) (hF _ _ _ (c_S_RunCentre hg ht hx18)) (.inr (by simp only [Go.Vs.X.fresh, Go.Vs.X.freshs, freshD, freshDs, Bool.and_self, Centre.ds, hfr_Chute, hfr_I64, hfr_Inlet, hfr_Item])) (Nat.le_of_ble_eq_true rfl) ?_
        cbv
        obtain rfl := Option.some.inj h
        exact ARetM.mk ⟨⟨rfl, (dlen_Item hg ht _)⟩, ⟨⟨rfl, (dlen_Chute hg ht _)⟩, ⟨⟨rfl, (dlen_Inlet hg ht _)⟩, ⟨rfl, (dlen_I64 hg ht _)⟩⟩⟩⟩ hX.symm hY.symm
end Go.Vs
namespace Go.Vs
set_option maxRecDepth 100000
def ir92 : J :=
  .seq (.reg none [⟨(some 2), none, .alloc [.n 2, .n 3, .n 2, .n 1, .r (.v (.int .i64 0))]⟩] [0, 2])
  (.seq (.reg none [⟨(some 4), none, .mv (.t 0)⟩,
     ⟨(some 5), none, .callm 118 (.t 4) []⟩,
     ⟨(some 3), none, .alloc [.n 2, .n 3, .n 2, .n 1, .r (.v (.int .i64 0))]⟩,
     ⟨none, none, .st 5 (.t 3) (.t 5)⟩] [0, 2, 3])
  (.seq (.seq (.reg none [⟨(some 6), none, .mv (.t 0)⟩,
      ⟨(some 7), none, .callm 101 (.t 6) [(.k (V.i 12))]⟩] [0, 2, 3, 7])
   (.block 0 (.seq (.reg none [⟨(some 9), none, .bin .eql .i (.t 7) (.k (V.i 0))⟩,
       ⟨(some 8), none, .mv (.t 9)⟩] [0, 2, 3, 7, 8])
    (.cond (.t 8)
     (.reg (some [[], [0], [], [], [3], [3, 4], [2, 3, 4, 5], [], [], [2, 3, 4, 5, 6, 7, 8], [], [], [11], [11, 12], [11, 12, 13], [2, 3, 4, 5, 6, 7, 8, 9, 10, 11, 12, 13, 14], [2, 3, 4, 5, 6, 7, 8, 9, 10, 11, 12, 13, 14, 15], [0, 1, 2, 3, 4, 5, 6, 7, 8, 9, 10, 11, 12, 13, 14, 15, 16], [0, 1, 2, 3, 4, 5, 6, 7, 8, 9, 10, 11, 12, 13, 14, 15, 16, 17]]) [⟨(some 10), none, .fa 0 (.t 3)⟩,
        ⟨(some 11), none, .ld false 1 (.t 10)⟩,
        ⟨(some 12), none, .mv (.t 0)⟩,
        ⟨(some 13), none, .fa 0 (.t 3)⟩,
        ⟨(some 14), none, .ld false 1 (.t 13)⟩,
        ⟨(some 15), none, .len false (.t 14)⟩,
        ⟨(some 16), none, .callm 101 (.t 12) [(.t 15)]⟩,
        ⟨(some 17), none, .mv (.t 0)⟩,
        ⟨(some 18), none, .bslr 1 [(.k (V.i 0)), (.k (V.i 1)), (.k (V.i 9999)), (.k (V.i 10000))]⟩,
        ⟨(some 19), none, .callm 93 (.t 17) [(.t 18)]⟩,
        ⟨(some 20), none, .mv (.t 0)⟩,
        ⟨(some 21), none, .fa 3 (.t 3)⟩,
        ⟨(some 22), none, .ld false 1 (.t 21)⟩,
        ⟨(some 23), none, .len false (.t 22)⟩,
        ⟨(some 24), none, .bslr 1 [(.k (V.i 0)), (.k (V.i (-1))), (.t 23)]⟩,
        ⟨(some 25), none, .callm 93 (.t 20) [(.t 24)]⟩,
        ⟨(some 26), none, .bld [.r (.v (.int .i64 0)), .r (.v (.int .i64 0))] [(0, 1, (.t 19)), (1, 1, (.t 25))]⟩,
        ⟨(some 27), none, .ia 2 (.t 11) (.t 16)⟩,
        ⟨none, none, .st 2 (.t 27) (.t 26)⟩] [2, 3])
     (.seq (.reg none [⟨(some 29), none, .bin .eql .i (.t 7) (.k (V.i 1))⟩,
         ⟨(some 28), none, .mv (.t 29)⟩] [0, 2, 3, 7, 28])
      (.cond (.t 28)
       (.reg (some [[], [0], [], [], [3], [3, 4], [2, 3, 4, 5], [], [], [8], [8, 9], [8, 9, 10], [2, 3, 4, 5, 6, 7, 8, 9, 10, 11], [0, 1, 2, 3, 4, 5, 6, 7, 8, 9, 10, 11, 12], [0, 1, 2, 3, 4, 5, 6, 7, 8, 9, 10, 11, 12, 13], [0, 1, 2, 3, 4, 5, 6, 7, 8, 9, 10, 11, 12, 13, 14]]) [⟨(some 30), none, .fa 1 (.t 3)⟩,
          ⟨(some 31), none, .ld false 1 (.t 30)⟩,
          ⟨(some 32), none, .mv (.t 0)⟩,
          ⟨(some 33), none, .fa 1 (.t 3)⟩,
          ⟨(some 34), none, .ld false 1 (.t 33)⟩,
          ⟨(some 35), none, .len false (.t 34)⟩,
          ⟨(some 36), none, .callm 101 (.t 32) [(.t 35)]⟩,
          ⟨(some 37), none, .mv (.t 0)⟩,
          ⟨(some 38), none, .fa 0 (.t 3)⟩,
          ⟨(some 39), none, .ld false 1 (.t 38)⟩,
          ⟨(some 40), none, .len false (.t 39)⟩,
          ⟨(some 41), none, .bslr 1 [(.k (V.i (-1))), (.k (V.i 0)), (.t 40)]⟩,
          ⟨(some 42), none, .callm 93 (.t 37) [(.t 41)]⟩,
          ⟨(some 43), none, .ia 3 (.t 31) (.t 36)⟩,
          ⟨(some 44), none, .fa 0 (.t 43)⟩,
          ⟨none, none, .st 1 (.t 44) (.t 42)⟩] [2, 3])
       (.seq (.reg none [⟨(some 46), none, .bin .eql .i (.t 7) (.k (V.i 2))⟩,
           ⟨(some 45), none, .mv (.t 46)⟩] [0, 2, 3, 7, 45])
        (.cond (.t 45)
         (.reg (some [[], [0], [], [], [3], [3, 4], [2, 3, 4, 5], [], [], [2, 3, 4, 5, 6, 7, 8], [0, 1, 2, 3, 4, 5, 6, 7, 8, 9], [0, 1, 2, 3, 4, 5, 6, 7, 8, 9, 10], [0, 1, 2, 3, 4, 5, 6, 7, 8, 9, 10, 11]]) [⟨(some 47), none, .fa 1 (.t 3)⟩,
            ⟨(some 48), none, .ld false 1 (.t 47)⟩,
            ⟨(some 49), none, .mv (.t 0)⟩,
            ⟨(some 50), none, .fa 1 (.t 3)⟩,
            ⟨(some 51), none, .ld false 1 (.t 50)⟩,
            ⟨(some 52), none, .len false (.t 51)⟩,
            ⟨(some 53), none, .callm 101 (.t 49) [(.t 52)]⟩,
            ⟨(some 54), none, .mv (.t 0)⟩,
            ⟨(some 55), none, .bslr 1 [(.k (V.i 0)), (.k (V.i 1)), (.k (V.i 20)), (.k (V.i 21))]⟩,
            ⟨(some 56), none, .callm 93 (.t 54) [(.t 55)]⟩,
            ⟨(some 57), none, .ia 3 (.t 48) (.t 53)⟩,
            ⟨(some 58), none, .fa 1 (.t 57)⟩,
            ⟨none, none, .st 1 (.t 58) (.t 56)⟩] [2, 3])
         (.seq (.reg none [⟨(some 60), none, .bin .eql .i (.t 7) (.k (V.i 3))⟩,
             ⟨(some 59), none, .mv (.t 60)⟩] [0, 2, 3, 7, 59])
          (.cond (.t 59)
           (.reg (some [[], [0], [], [], [3], [3, 4], [2, 3, 4, 5], [], [], [8], [8, 9], [8, 9, 10], [2, 3, 4, 5, 6, 7, 8, 9, 10, 11], [0, 1, 2, 3, 4, 5, 6, 7, 8, 9, 10, 11, 12], [0, 1, 2, 3, 4, 5, 6, 7, 8, 9, 10, 11, 12, 13], [0, 1, 2, 3, 4, 5, 6, 7, 8, 9, 10, 11, 12, 13, 14]]) [⟨(some 61), none, .fa 2 (.t 3)⟩,
              ⟨(some 62), none, .ld false 1 (.t 61)⟩,
              ⟨(some 63), none, .mv (.t 0)⟩,
              ⟨(some 64), none, .fa 2 (.t 3)⟩,
              ⟨(some 65), none, .ld false 1 (.t 64)⟩,
              ⟨(some 66), none, .len false (.t 65)⟩,
              ⟨(some 67), none, .callm 101 (.t 63) [(.t 66)]⟩,
              ⟨(some 68), none, .mv (.t 0)⟩,
              ⟨(some 69), none, .fa 0 (.t 3)⟩,
              ⟨(some 70), none, .ld false 1 (.t 69)⟩,
              ⟨(some 71), none, .len false (.t 70)⟩,
              ⟨(some 72), none, .bslr 1 [(.k (V.i (-1))), (.k (V.i 0)), (.t 71)]⟩,
              ⟨(some 73), none, .callm 93 (.t 68) [(.t 72)]⟩,
              ⟨(some 74), none, .ia 2 (.t 62) (.t 67)⟩,
              ⟨(some 75), none, .fa 0 (.t 74)⟩,
              ⟨none, none, .st 1 (.t 75) (.t 73)⟩] [2, 3])
           (.seq (.reg none [⟨(some 77), none, .bin .eql .i (.t 7) (.k (V.i 4))⟩,
               ⟨(some 76), none, .mv (.t 77)⟩] [0, 2, 3, 7, 76])
            (.cond (.t 76)
             (.reg (some [[], [0], [], [], [3], [3, 4], [2, 3, 4, 5], [], [], [8], [8, 9], [8, 9, 10], [2, 3, 4, 5, 6, 7, 8, 9, 10, 11], [0, 1, 2, 3, 4, 5, 6, 7, 8, 9, 10, 11, 12], [0, 1, 2, 3, 4, 5, 6, 7, 8, 9, 10, 11, 12, 13]]) [⟨(some 78), none, .fa 3 (.t 3)⟩,
                ⟨(some 79), none, .ld false 1 (.t 78)⟩,
                ⟨(some 80), none, .mv (.t 0)⟩,
                ⟨(some 81), none, .fa 3 (.t 3)⟩,
                ⟨(some 82), none, .ld false 1 (.t 81)⟩,
                ⟨(some 83), none, .len false (.t 82)⟩,
                ⟨(some 84), none, .callm 101 (.t 80) [(.t 83)]⟩,
                ⟨(some 85), none, .mv (.t 0)⟩,
                ⟨(some 86), none, .fa 1 (.t 3)⟩,
                ⟨(some 87), none, .ld false 1 (.t 86)⟩,
                ⟨(some 88), none, .len false (.t 87)⟩,
                ⟨(some 89), none, .bslr 1 [(.k (V.i (-1))), (.k (V.i 0)), (.t 88)]⟩,
                ⟨(some 90), none, .callm 93 (.t 85) [(.t 89)]⟩,
                ⟨(some 91), none, .ia 1 (.t 79) (.t 84)⟩,
                ⟨none, none, .st 1 (.t 91) (.t 90)⟩] [2, 3])
             (.seq (.reg none [⟨(some 93), none, .bin .eql .i (.t 7) (.k (V.i 5))⟩,
                 ⟨(some 92), none, .mv (.t 93)⟩] [0, 2, 3, 7, 92])
              (.cond (.t 92)
               (.reg none [⟨(some 94), none, .mv (.t 0)⟩,
                  ⟨(some 95), none, .bslr 1 [(.k (V.i (-1))), (.k (V.i 99999)), (.k (V.i 100000)), (.k (V.i 100001))]⟩,
                  ⟨(some 96), none, .callm 93 (.t 94) [(.t 95)]⟩,
                  ⟨(some 97), none, .fa 4 (.t 3)⟩,
                  ⟨none, none, .st 1 (.t 97) (.t 96)⟩] [2, 3])
               (.seq (.reg none [⟨(some 99), none, .bin .eql .i (.t 7) (.k (V.i 6))⟩,
                   ⟨(some 98), none, .mv (.t 99)⟩] [0, 2, 3, 7, 98])
                (.cond (.t 98)
                 (.gh (.ga (.reg (some [[], [0], [], [2], [2, 3], [2, 3, 4], [2, 3, 4, 5], [], [7], [7, 8], [7, 8, 9], [7, 8, 9, 10], [2, 3, 4, 5, 6, 7, 8, 9, 10, 11], [0, 1, 2, 3, 4, 5, 6, 7, 8, 9, 10, 11, 12], [0, 1, 2, 3, 4, 5, 6, 7, 8, 9, 10, 11, 12, 13], [0, 1, 2, 3, 4, 5, 6, 7, 8, 9, 10, 11, 12, 13, 14]]) [⟨(some 100), none, .fa 2 (.t 3)⟩,
                     ⟨(some 101), none, .ld false 1 (.t 100)⟩,
                     ⟨(some 102), none, .fa 2 (.t 3)⟩,
                     ⟨(some 103), none, .ld false 1 (.t 102)⟩,
                     ⟨(some 104), none, .ia 2 (.t 103) (.k (V.i 0))⟩,
                     ⟨(some 105), none, .fa 1 (.t 104)⟩,
                     ⟨(some 106), none, .ld false 1 (.t 105)⟩,
                     ⟨(some 107), none, .mv (.t 0)⟩,
                     ⟨(some 108), none, .callm 101 (.t 107) [(.k (V.i 3))]⟩,
                     ⟨(some 109), none, .bin .add .i (.k (V.i 1)) (.t 108)⟩,
                     ⟨(some 110), none, .bld [.r (.v (.int .i64 0)), .r (.v (.int .i64 0))] [(0, 1, (.t 109))]⟩,
                     ⟨(some 111), none, .bsl 2 [(.t 110)]⟩,
                     ⟨(some 112), none, .app 2 16 true (.t 106) (.t 111)⟩,
                     ⟨(some 113), none, .ia 2 (.t 101) (.k (V.i 0))⟩,
                     ⟨(some 114), none, .fa 1 (.t 113)⟩,
                     ⟨none, none, .st 1 (.t 114) (.t 112)⟩] [2, 3])))
                 (.seq (.reg none [⟨(some 116), none, .bin .eql .i (.t 7) (.k (V.i 7))⟩,
                     ⟨(some 115), none, .mv (.t 116)⟩] [2, 3, 115])
                  (.cond (.t 115)
                   (.reg none [⟨(some 117), none, .fa 2 (.t 3)⟩,
                      ⟨(some 118), none, .ld false 1 (.t 117)⟩,
                      ⟨(some 119), none, .cut 2 (.t 118)⟩,
                      ⟨(some 120), none, .fa 2 (.t 3)⟩,
                      ⟨none, none, .st 1 (.t 120) (.t 119)⟩] [2, 3])
                   (.skip)))))))))))))))))))
  (.seq (.reg none [⟨(some 121), none, .ld true 5 (.t 3)⟩,
     ⟨none, none, .st 5 (.t 2) (.t 121)⟩] [2])
  (.ret))))
def rv92 : List RV := [.c 2 true 5]
open Go.Proofs Go.IntWalk
set_option linter.unusedVariables false
set_option maxRecDepth 100000
set_option maxHeartbeats 4000000
def S_l7Any (g : G) (t : TE) (a0 : Cur) : Option (Centre × Cur) :=
  cl (S_l7Draw g t a0) fun x1 =>
  cl (S_l1Below g t (Cur.mk x1.2.b x1.2.i x1.2.h) 12) fun x2 =>
  br (g.eq x2.1 0)
  (
   cl (S_l1Below g t (Cur.mk x2.2.b x2.2.i x2.2.h) (g.int (g.dlen (t.d_Item x1.1.Belt)))) fun x3 =>
   lP ([0, 1, 9999, 10000]) fun (l1 : List Int) =>
   cl (S_l1Int g t (Cur.mk x3.2.b x3.2.i x3.2.h) l1) fun x4 =>
   lP ([0, (-1), (g.int (g.dlen (t.d_I64 x1.1.Plan)))]) fun (l2 : List Int) =>
   cl (S_l1Int g t (Cur.mk x4.2.b x4.2.i x4.2.h) l2) fun x5 =>
   gd (((0 : Int) ≤ x3.1 ∧ x3.1 < (((g.dlen (t.d_Item x1.1.Belt)) : Nat) : Int))) <|
   gt x1.1.Belt (g.nat x3.1) fun x6 =>
   lP (List.set x1.1.Belt (g.nat x3.1) (Item.mk x4.1 x5.1)) fun (l3 : List Item) =>
   some (((Centre.mk l3 x1.1.Chutes x1.1.Inlets x1.1.Plan x1.1.Now), (Cur.mk x5.2.b x5.2.i x5.2.h))))
  (
   br (g.eq x2.1 1)
   (
    cl (S_l1Below g t (Cur.mk x2.2.b x2.2.i x2.2.h) (g.int (g.dlen (t.d_Chute x1.1.Chutes)))) fun x7 =>
    lP ([(-1), 0, (g.int (g.dlen (t.d_Item x1.1.Belt)))]) fun (l4 : List Int) =>
    cl (S_l1Int g t (Cur.mk x7.2.b x7.2.i x7.2.h) l4) fun x8 =>
    gd (((0 : Int) ≤ x7.1 ∧ x7.1 < (((g.dlen (t.d_Chute x1.1.Chutes)) : Nat) : Int))) <|
    gt x1.1.Chutes (g.nat x7.1) fun x9 =>
    lP (List.set x1.1.Chutes (g.nat x7.1) (Chute.mk x8.1 x9.Room x9.Held)) fun (l5 : List Chute) =>
    some (((Centre.mk x1.1.Belt l5 x1.1.Inlets x1.1.Plan x1.1.Now), (Cur.mk x8.2.b x8.2.i x8.2.h))))
   (
    br (g.eq x2.1 2)
    (
     cl (S_l1Below g t (Cur.mk x2.2.b x2.2.i x2.2.h) (g.int (g.dlen (t.d_Chute x1.1.Chutes)))) fun x10 =>
     lP ([0, 1, 20, 21]) fun (l6 : List Int) =>
     cl (S_l1Int g t (Cur.mk x10.2.b x10.2.i x10.2.h) l6) fun x11 =>
     gd (((0 : Int) ≤ x10.1 ∧ x10.1 < (((g.dlen (t.d_Chute x1.1.Chutes)) : Nat) : Int))) <|
     gt x1.1.Chutes (g.nat x10.1) fun x12 =>
     lP (List.set x1.1.Chutes (g.nat x10.1) (Chute.mk x12.Cell x11.1 x12.Held)) fun (l7 : List Chute) =>
     some (((Centre.mk x1.1.Belt l7 x1.1.Inlets x1.1.Plan x1.1.Now), (Cur.mk x11.2.b x11.2.i x11.2.h))))
    (
     br (g.eq x2.1 3)
     (
      cl (S_l1Below g t (Cur.mk x2.2.b x2.2.i x2.2.h) (g.int (g.dlen (t.d_Inlet x1.1.Inlets)))) fun x13 =>
      lP ([(-1), 0, (g.int (g.dlen (t.d_Item x1.1.Belt)))]) fun (l8 : List Int) =>
      cl (S_l1Int g t (Cur.mk x13.2.b x13.2.i x13.2.h) l8) fun x14 =>
      gd (((0 : Int) ≤ x13.1 ∧ x13.1 < (((g.dlen (t.d_Inlet x1.1.Inlets)) : Nat) : Int))) <|
      gt x1.1.Inlets (g.nat x13.1) fun x15 =>
      lP (List.set x1.1.Inlets (g.nat x13.1) (Inlet.mk x14.1 x15.Wait)) fun (l9 : List Inlet) =>
      some (((Centre.mk x1.1.Belt x1.1.Chutes l9 x1.1.Plan x1.1.Now), (Cur.mk x14.2.b x14.2.i x14.2.h))))
     (
      br (g.eq x2.1 4)
      (
       cl (S_l1Below g t (Cur.mk x2.2.b x2.2.i x2.2.h) (g.int (g.dlen (t.d_I64 x1.1.Plan)))) fun x16 =>
       lP ([(-1), 0, (g.int (g.dlen (t.d_Chute x1.1.Chutes)))]) fun (l10 : List Int) =>
       cl (S_l1Int g t (Cur.mk x16.2.b x16.2.i x16.2.h) l10) fun x17 =>
       gd (((0 : Int) ≤ x16.1 ∧ x16.1 < (((g.dlen (t.d_I64 x1.1.Plan)) : Nat) : Int))) <|
       gt x1.1.Plan (g.nat x16.1) fun x18 =>
       lP (List.set x1.1.Plan (g.nat x16.1) x17.1) fun (l11 : List Int) =>
       some (((Centre.mk x1.1.Belt x1.1.Chutes x1.1.Inlets l11 x1.1.Now), (Cur.mk x17.2.b x17.2.i x17.2.h))))
      (
       br (g.eq x2.1 5)
       (
        lP ([(-1), 99999, 100000, 100001]) fun (l12 : List Int) =>
        cl (S_l1Int g t (Cur.mk x2.2.b x2.2.i x2.2.h) l12) fun x19 =>
        some (((Centre.mk x1.1.Belt x1.1.Chutes x1.1.Inlets x1.1.Plan x19.1), (Cur.mk x19.2.b x19.2.i x19.2.h))))
       (
        br (g.eq x2.1 6)
        (
         gt x1.1.Inlets (g.nat 0) fun x20 =>
         gd (((0 : Int) ≤ 0 ∧ 0 < (((g.dlen (t.d_Inlet x1.1.Inlets)) : Nat) : Int))) <|
         cl (S_l1Below g t (Cur.mk x2.2.b x2.2.i x2.2.h) 3) fun x21 =>
         lP ([(Item.mk (g.wrap .i64 (g.add 1 x21.1)) 0)]) fun (l13 : List Item) =>
         gd (((x20.Wait.length + l13.length) * 16 ≤ 70368744177664)) <|
         lP (x20.Wait ++ l13) fun (l14 : List Item) =>
         gd (((0 : Int) ≤ 0 ∧ 0 < (((g.dlen (t.d_Inlet x1.1.Inlets)) : Nat) : Int))) <|
         lP (List.set x1.1.Inlets (g.nat 0) (Inlet.mk x20.Cell l14)) fun (l15 : List Inlet) =>
         some (((Centre.mk x1.1.Belt x1.1.Chutes l15 x1.1.Plan x1.1.Now), (Cur.mk x21.2.b x21.2.i x21.2.h))))
        (
         br (g.eq x2.1 7)
         (
          lP [] fun (l16 : List Inlet) =>
          some (((Centre.mk x1.1.Belt x1.1.Chutes l16 x1.1.Plan x1.1.Now), (Cur.mk x2.2.b x2.2.i x2.2.h))))
         (
          some (((Centre.mk x1.1.Belt x1.1.Chutes x1.1.Inlets x1.1.Plan x1.1.Now), (Cur.mk x2.2.b x2.2.i x2.2.h)))))))))))
theorem fit92 : codeFit Try.prog Try.f92.ntmps (Try.f92.body.getD .skip) ir92 = true := by kernel_rfl
theorem c_S_l7Any {g : G} {t : TE} {a0 : Cur} {r : Centre × Cur} (hg : g = G.real) (ht : t = TE.real) (h : S_l7Any g t a0 = some r) : FnM Try.prog 92 (.p (Cur.ds t a0)) [] (.g (Centre.ds t r.1)) (.p (Cur.ds t r.2)) := by
  obtain ⟨X, hX⟩ := hide (.g (Centre.ds t r.1) : X)
  obtain ⟨Y, hY⟩ := hide (.p (Cur.ds t r.2) : AM)
  rw [← hX, ← hY]
  refine fnM_of (rvs := rv92) (j := ir92) Try.func92 rfl fit92 (Nat.le_of_ble_eq_true rfl) (by kernel_rfl) prog_mixed ?_
  intro g2 F hg2 hF
  obtain rfl : g2 = g := hg2.unique.trans hg.symm
  clear hg2
  obtain ⟨wrap, lt, le, eq, quo, rem, band, bor, bxor, shl, shr, nat, int, add, sub, mul, cat, seq, slt, sub3, byte, llen, nadd, nsub, dlen, dapp, dset, drep, rd, rda, up, rsub, dsub, all, sle, slen, hasI, putI, hasS, putS, imin, imax, fzc⟩ := g2
  obtain ⟨r_Item, d_Item, r_Chute, d_Chute, r_Inlet, d_Inlet, r_I64, d_I64, r_U8, d_U8, d_InletF⟩ := t
  obtain ⟨a0_b, a0_i, a0_h⟩ := a0
  unfold S_l7Any at h
  try dsimp only at h
  cbv
  obtain ⟨x1, hx1, h⟩ := of_cl h
  obtain ⟨⟨x1_1_Belt, x1_1_Chutes, x1_1_Inlets, x1_1_Plan, x1_1_Now⟩, ⟨x1_2_b, x1_2_i, x1_2_h⟩⟩ := x1
  try dsimp only at h
  refine ACallM.mk _ _ _ _ rfl rfl (hF _ _ _ (c_S_l7Draw hg ht hx1)) rfl (Nat.le_of_ble_eq_true rfl) (Nat.le_of_ble_eq_true rfl) ?_
  cbv
  obtain ⟨x2, hx2, h⟩ := of_cl h
  obtain ⟨x2_1, ⟨x2_2_b, x2_2_i, x2_2_h⟩⟩ := x2
  try dsimp only at h
  refine ACallM.mk _ _ _ _ rfl rfl (hF _ _ _ (c_S_l1Below hg ht hx2)) rfl (Nat.le_of_ble_eq_true rfl) (Nat.le_of_ble_eq_true rfl) ?_
  cbv
  cases hb1 : (eq x2_1 0) with
  | true =>
    rw [br_true hb1] at h
    cbv
    obtain ⟨x3, hx3, h⟩ := of_cl h
    obtain ⟨x3_1, ⟨x3_2_b, x3_2_i, x3_2_h⟩⟩ := x3
    try dsimp only at h
    refine ACallM.mk _ _ _ _ rfl rfl (hF _ _ _ (c_S_l1Below hg ht hx3)) rfl (Nat.le_of_ble_eq_true rfl) (Nat.le_of_ble_eq_true rfl) ?_
    cbv
    obtain ⟨l1, hl1, h⟩ := of_lP h
    try dsimp only at h
    refine AVal.mk (r_I64 l1) (by rw [← hl1]; exact litr_I64 hg ht [0, 1, 9999, 10000]) ?_
    cbv
    obtain ⟨x4, hx4, h⟩ := of_cl h
    obtain ⟨x4_1, ⟨x4_2_b, x4_2_i, x4_2_h⟩⟩ := x4
    try dsimp only at h
    refine ACallM.mk _ _ _ _ rfl rfl (hF _ _ _ (c_S_l1Int hg ht hx4)) rfl (Nat.le_of_ble_eq_true rfl) (Nat.le_of_ble_eq_true rfl) ?_
    cbv
    obtain ⟨l2, hl2, h⟩ := of_lP h
    try dsimp only at h
    refine AVal.mk (r_I64 l2) (by rw [← hl2]; exact litr_I64 hg ht [0, (-1), (int (dlen (d_I64 x1_1_Plan)))]) ?_
    cbv
    obtain ⟨x5, hx5, h⟩ := of_cl h
    obtain ⟨x5_1, ⟨x5_2_b, x5_2_i, x5_2_h⟩⟩ := x5
    try dsimp only at h
    refine ACallM.mk _ _ _ _ rfl rfl (hF _ _ _ (c_S_l1Int hg ht hx5)) rfl (Nat.le_of_ble_eq_true rfl) (Nat.le_of_ble_eq_true rfl) ?_
    cbv
    obtain ⟨hc1, h⟩ := of_gd h
    refine AStep.mk hc1 ?_
    cbv
    obtain ⟨x6, hx6, h⟩ := of_gt h
    obtain ⟨x6_Id, x6_Dest⟩ := x6
    try dsimp only at h
    refine AGet.mk _ (d_get_Item hg ht hx6) ?_
    cbv
    obtain ⟨l3, hl3, h⟩ := of_lP h
    try dsimp only at h
    refine ANew.mk (d_Item l3) _ (by rw [← hl3]; exact dset_Item hg ht _ _ (Item.mk x4_1 x5_1)) rfl ?_
    have hnl3 : (dlen (d_Item x1_1_Belt)) = (d_Item l3).length := (by rw [← hl3, dsetl_Item ht]; exact (dlen_Item hg ht _))
    cbv
    obtain rfl := Option.some.inj h
    exact ARetM.mk ⟨⟨rfl, hnl3⟩, ⟨⟨rfl, (dlen_Chute hg ht _)⟩, ⟨⟨rfl, (dlen_Inlet hg ht _)⟩, ⟨rfl, (dlen_I64 hg ht _)⟩⟩⟩⟩ hX.symm hY.symm
  | false =>
    rw [br_false hb1] at h
    cbv
    cases hb2 : (eq x2_1 1) with
    | true =>
      rw [br_true hb2] at h
      cbv
      obtain ⟨x7, hx7, h⟩ := of_cl h
      obtain ⟨x7_1, ⟨x7_2_b, x7_2_i, x7_2_h⟩⟩ := x7
      try dsimp only at h
      refine ACallM.mk _ _ _ _ rfl rfl (hF _ _ _ (c_S_l1Below hg ht hx7)) rfl (Nat.le_of_ble_eq_true rfl) (Nat.le_of_ble_eq_true rfl) ?_
      cbv
      obtain ⟨l4, hl4, h⟩ := of_lP h
      try dsimp only at h
      refine AVal.mk (r_I64 l4) (by rw [← hl4]; exact litr_I64 hg ht [(-1), 0, (int (dlen (d_Item x1_1_Belt)))]) ?_
      cbv
      obtain ⟨x8, hx8, h⟩ := of_cl h
      obtain ⟨x8_1, ⟨x8_2_b, x8_2_i, x8_2_h⟩⟩ := x8
      try dsimp only at h
      refine ACallM.mk _ _ _ _ rfl rfl (hF _ _ _ (c_S_l1Int hg ht hx8)) rfl (Nat.le_of_ble_eq_true rfl) (Nat.le_of_ble_eq_true rfl) ?_
      cbv
      obtain ⟨hc2, h⟩ := of_gd h
      refine AStep.mk hc2 ?_
      cbv
      obtain ⟨x9, hx9, h⟩ := of_gt h
      obtain ⟨x9_Cell, x9_Room, x9_Held⟩ := x9
      try dsimp only at h
      refine AGet.mk _ (d_get_Chute hg ht hx9) ?_
      cbv
      obtain ⟨l5, hl5, h⟩ := of_lP h
      try dsimp only at h
      refine ANew.mk (d_Chute l5) _ (by rw [← hl5]; exact dset_Chute hg ht _ _ (Chute.mk x8_1 x9_Room x9_Held)) rfl ?_
      have hnl5 : (dlen (d_Chute x1_1_Chutes)) = (d_Chute l5).length := (by rw [← hl5, dsetl_Chute ht]; exact (dlen_Chute hg ht _))
      cbv
      obtain rfl := Option.some.inj h
      exact ARetM.mk ⟨⟨rfl, (dlen_Item hg ht _)⟩, ⟨⟨rfl, hnl5⟩, ⟨⟨rfl, (dlen_Inlet hg ht _)⟩, ⟨rfl, (dlen_I64 hg ht _)⟩⟩⟩⟩ hX.symm hY.symm
    | false =>
      rw [br_false hb2] at h
      cbv
      cases hb3 : (eq x2_1 2) with
      | true =>
        rw [br_true hb3] at h
        cbv
        obtain ⟨x10, hx10, h⟩ := of_cl h
        obtain ⟨x10_1, ⟨x10_2_b, x10_2_i, x10_2_h⟩⟩ := x10
        try dsimp only at h
        refine ACallM.mk _ _ _ _ rfl rfl (hF _ _ _ (c_S_l1Below hg ht hx10)) rfl (Nat.le_of_ble_eq_true rfl) (Nat.le_of_ble_eq_true rfl) ?_
        cbv
        obtain ⟨l6, hl6, h⟩ := of_lP h
        try dsimp only at h
        refine AVal.mk (r_I64 l6) (by rw [← hl6]; exact litr_I64 hg ht [0, 1, 20, 21]) ?_
        cbv
        obtain ⟨x11, hx11, h⟩ := of_cl h
        obtain ⟨x11_1, ⟨x11_2_b, x11_2_i, x11_2_h⟩⟩ := x11
        try dsimp only at h
        refine ACallM.mk _ _ _ _ rfl rfl (hF _ _ _ (c_S_l1Int hg ht hx11)) rfl (Nat.le_of_ble_eq_true rfl) (Nat.le_of_ble_eq_true rfl) ?_
        cbv
        obtain ⟨hc3, h⟩ := of_gd h
        refine AStep.mk hc3 ?_
        cbv
        obtain ⟨x12, hx12, h⟩ := of_gt h
        obtain ⟨x12_Cell, x12_Room, x12_Held⟩ := x12
        try dsimp only at h
        refine AGet.mk _ (d_get_Chute hg ht hx12) ?_
        cbv
        obtain ⟨l7, hl7, h⟩ := of_lP h
        try dsimp only at h
        refine ANew.mk (d_Chute l7) _ (by rw [← hl7]; exact dset_Chute hg ht _ _ (Chute.mk x12_Cell x11_1 x12_Held)) rfl ?_
        have hnl7 : (dlen (d_Chute x1_1_Chutes)) = (d_Chute l7).length := (by rw [← hl7, dsetl_Chute ht]; exact (dlen_Chute hg ht _))
        cbv
        obtain rfl := Option.some.inj h
        exact ARetM.mk ⟨⟨rfl, (dlen_Item hg ht _)⟩, ⟨⟨rfl, hnl7⟩, ⟨⟨rfl, (dlen_Inlet hg ht _)⟩, ⟨rfl, (dlen_I64 hg ht _)⟩⟩⟩⟩ hX.symm hY.symm
      | false =>
        rw [br_false hb3] at h
        cbv
        cases hb4 : (eq x2_1 3) with
        | true =>
          rw [br_true hb4] at h
          cbv
          obtain ⟨x13, hx13, h⟩ := of_cl h
          obtain ⟨x13_1, ⟨x13_2_b, x13_2_i, x13_2_h⟩⟩ := x13
          try dsimp only at h
          refine ACallM.mk _ _ _ _ rfl rfl (hF _ _ _ (c_S_l1Below hg ht hx13)) rfl (Nat.le_of_ble_eq_true rfl) (Nat.le_of_ble_eq_true rfl) ?_
          cbv
          obtain ⟨l8, hl8, h⟩ := of_lP h
          try dsimp only at h
          refine AVal.mk (r_I64 l8) (by rw [← hl8]; exact litr_I64 hg ht [(-1), 0, (int (dlen (d_Item x1_1_Belt)))]) ?_
          cbv
          obtain ⟨x14, hx14, h⟩ := of_cl h
          obtain ⟨x14_1, ⟨x14_2_b, x14_2_i, x14_2_h⟩⟩ := x14
          try dsimp only at h
          refine ACallM.mk _ _ _ _ rfl rfl (hF _ _ _ (c_S_l1Int hg ht hx14)) rfl (Nat.le_of_ble_eq_true rfl) (Nat.le_of_ble_eq_true rfl) ?_
          cbv
          obtain ⟨hc4, h⟩ := of_gd h
          refine AStep.mk hc4 ?_
          cbv
          obtain ⟨x15, hx15, h⟩ := of_gt h
          obtain ⟨x15_Cell, x15_Wait⟩ := x15
          try dsimp only at h
          refine AGet.mk _ (d_get_Inlet hg ht hx15) ?_
          cbv
          obtain ⟨l9, hl9, h⟩ := of_lP h
          try dsimp only at h
          refine ANew.mk (d_Inlet l9) _ (by rw [← hl9]; exact dset_Inlet hg ht _ _ (Inlet.mk x14_1 x15_Wait)) rfl ?_
          have hnl9 : (dlen (d_Inlet x1_1_Inlets)) = (d_Inlet l9).length := (by rw [← hl9, dsetl_Inlet ht]; exact (dlen_Inlet hg ht _))
          cbv
          obtain rfl := Option.some.inj h
          exact ARetM.mk ⟨⟨rfl, (dlen_Item hg ht _)⟩, ⟨⟨rfl, (dlen_Chute hg ht _)⟩, ⟨⟨rfl, hnl9⟩, ⟨rfl, (dlen_I64 hg ht _)⟩⟩⟩⟩ hX.symm hY.symm
        | false =>
          rw [br_false hb4] at h
          cbv
          cases hb5 : (eq x2_1 4) with
          | true =>
            rw [br_true hb5] at h
            cbv
            obtain ⟨x16, hx16, h⟩ := of_cl h
            obtain ⟨x16_1, ⟨x16_2_b, x16_2_i, x16_2_h⟩⟩ := x16
            try dsimp only at h
            refine ACallM.mk _ _ _ _ rfl rfl (hF _ _ _ (c_S_l1Below hg ht hx16)) rfl (Nat.le_of_ble_eq_true rfl) (Nat.le_of_ble_eq_true rfl) ?_
            cbv
            obtain ⟨l10, hl10, h⟩ := of_lP h
            try dsimp only at h
            refine AVal.mk (r_I64 l10) (by rw [← hl10]; exact litr_I64 hg ht [(-1), 0, (int (dlen (d_Chute x1_1_Chutes)))]) ?_
            cbv
            obtain ⟨x17, hx17, h⟩ := of_cl h
            obtain ⟨x17_1, ⟨x17_2_b, x17_2_i, x17_2_h⟩⟩ := x17
            try dsimp only at h
            refine ACallM.mk _ _ _ _ rfl rfl (hF _ _ _ (c_S_l1Int hg ht hx17)) rfl (Nat.le_of_ble_eq_true rfl) (Nat.le_of_ble_eq_true rfl) ?_
            cbv
            obtain ⟨hc5, h⟩ := of_gd h
            refine AStep.mk hc5 ?_
            cbv
            obtain ⟨x18, hx18, h⟩ := of_gt h
            try dsimp only at h
            refine AGet.mk _ (d_get_I64 hg ht hx18) ?_
            cbv
            obtain ⟨l11, hl11, h⟩ := of_lP h
            try dsimp only at h
            refine ANew.mk (d_I64 l11) _ (by rw [← hl11]; exact dset_I64 hg ht _ _ x17_1) rfl ?_
            have hnl11 : (dlen (d_I64 x1_1_Plan)) = (d_I64 l11).length := (by rw [← hl11, dsetl_I64 ht]; exact (dlen_I64 hg ht _))
            cbv
            obtain rfl := Option.some.inj h
            exact ARetM.mk ⟨⟨rfl, (dlen_Item hg ht _)⟩, ⟨⟨rfl, (dlen_Chute hg ht _)⟩, ⟨⟨rfl, (dlen_Inlet hg ht _)⟩, ⟨rfl, hnl11⟩⟩⟩⟩ hX.symm hY.symm
          | false =>
            rw [br_false hb5] at h
            cbv
            cases hb6 : (eq x2_1 5) with
            | true =>
              rw [br_true hb6] at h
              cbv
              obtain ⟨l12, hl12, h⟩ := of_lP h
              try dsimp only at h
              refine AVal.mk (r_I64 l12) (by rw [← hl12]; exact litr_I64 hg ht [(-1), 99999, 100000, 100001]) ?_
              cbv
              obtain ⟨x19, hx19, h⟩ := of_cl h
              obtain ⟨x19_1, ⟨x19_2_b, x19_2_i, x19_2_h⟩⟩ := x19
              try dsimp only at h
              refine ACallM.mk _ _ _ _ rfl rfl (hF _ _ _ (c_S_l1Int hg ht hx19)) rfl (Nat.le_of_ble_eq_true rfl) (Nat.le_of_ble_eq_true rfl) ?_
              cbv
              obtain rfl := Option.some.inj h
              exact ARetM.mk ⟨⟨rfl, (dlen_Item hg ht _)⟩, ⟨⟨rfl, (dlen_Chute hg ht _)⟩, ⟨⟨rfl, (dlen_Inlet hg ht _)⟩, ⟨rfl, (dlen_I64 hg ht _)⟩⟩⟩⟩ hX.symm hY.symm
            | false =>
              rw [br_false hb6] at h
              cbv
              cases hb7 : (eq x2_1 6) with
              | true =>
                rw [br_true hb7] at h
                cbv
                obtain ⟨x20, hx20, h⟩ := of_gt h
                obtain ⟨x20_Cell, x20_Wait⟩ := x20
                try dsimp only at h
                refine AGh.opn 38 2 (nat 0) (d_Inlet x1_1_Inlets) _ rfl (d_get_Inlet hg ht hx20) rfl ?_
                cbv
                refine AGh.nil ?_
                cbv
                obtain ⟨hc6, h⟩ := of_gd h
                refine AStep.mk hc6 ?_
                cbv
                refine AStep.mk rfl ?_
                cbv
                obtain ⟨x21, hx21, h⟩ := of_cl h
                obtain ⟨x21_1, ⟨x21_2_b, x21_2_i, x21_2_h⟩⟩ := x21
                try dsimp only at h
                refine ACallM.mk _ _ _ _ rfl rfl (hF _ _ _ (c_S_l1Below hg ht hx21)) rfl (Nat.le_of_ble_eq_true rfl) (Nat.le_of_ble_eq_true rfl) ?_
                cbv
                obtain ⟨l13, hl13, h⟩ := of_lP h
                try dsimp only at h
                refine ANew.mk (d_Item l13) (dlen (d_Item l13)) (by rw [← hl13]; exact lit_Item hg ht [(Item.mk (wrap .i64 (add 1 x21_1)) 0)]) (by rw [← hl13]; exact litn_Item hg ht [(Item.mk (wrap .i64 (add 1 x21_1)) 0)]) ?_
                cbv
                obtain ⟨hc8, h⟩ := of_gd h
                refine AStep.mk ⟨⟨rfl, (dlen_Item hg ht _)⟩, (app_ok_Item hg ht (dlen_Item hg ht _) rfl hc8)⟩ ?_
                cbv
                obtain ⟨l14, hl14, h⟩ := of_lP h
                try dsimp only at h
                refine ANew.mk (d_Item l14) (dlen (d_Item l14)) (by rw [← hl14]; exact app_Item hg ht (dlen_Item hg ht _) rfl) (by rw [← hl14]; exact appl_Item hg ht (dlen_Item hg ht _) rfl) ?_
                cbv
                obtain ⟨hc7, h⟩ := of_gd h
                refine AStep.mk hc7 ?_
                cbv
                refine AStep.mk rfl ?_
                cbv
                obtain ⟨l15, hl15, h⟩ := of_lP h
                try dsimp only at h
                refine AGh.cls 38 2 (nat 0) (d_Inlet x1_1_Inlets) _ _ _ _ (d_Inlet l15) rfl rfl ⟨rfl, (dlen_Item hg ht _)⟩ (by rw [← hl15]; exact dset_Inlet hg ht _ _ (Inlet.mk x20_Cell l14)) ?_
                have hnl15 : (dlen (d_Inlet x1_1_Inlets)) = (d_Inlet l15).length := (by rw [← hl15, dsetl_Inlet ht]; exact (dlen_Inlet hg ht _))
                cbv
                refine AGh.nil ?_
                cbv
                obtain rfl := Option.some.inj h
                exact ARetM.mk ⟨⟨rfl, (dlen_Item hg ht _)⟩, ⟨⟨rfl, (dlen_Chute hg ht _)⟩, ⟨⟨rfl, hnl15⟩, ⟨rfl, (dlen_I64 hg ht _)⟩⟩⟩⟩ hX.symm hY.symm
              | false =>
                rw [br_false hb7] at h
                cbv
                cases hb8 : (eq x2_1 7) with
                | true =>
                  rw [br_true hb8] at h
                  cbv
                  obtain ⟨l16, hl16, h⟩ := of_lP h
                  try dsimp only at h
                  refine ANew.mk (d_Inlet l16) (dlen (d_Inlet l16)) (by rw [← hl16]; exact lit_Inlet hg ht []) (by rw [← hl16]; exact litn_Inlet hg ht []) ?_
                  cbv
                  obtain rfl := Option.some.inj h
                  exact ARetM.mk ⟨⟨rfl, (dlen_Item hg ht _)⟩, ⟨⟨rfl, (dlen_Chute hg ht _)⟩, ⟨⟨rfl, (dlen_Inlet hg ht _)⟩, ⟨rfl, (dlen_I64 hg ht _)⟩⟩⟩⟩ hX.symm hY.symm
                | false =>
                  rw [br_false hb8] at h
                  cbv
                  obtain rfl := Option.some.inj h
                  exact ARetM.mk ⟨⟨rfl, (dlen_Item hg ht _)⟩, ⟨⟨rfl, (dlen_Chute hg ht _)⟩, ⟨⟨rfl, (dlen_Inlet hg ht _)⟩, ⟨rfl, (dlen_I64 hg ht _)⟩⟩⟩⟩ hX.symm hY.symm
end Go.Vs
namespace Go.Vs
set_option maxRecDepth 100000
def ir104 : J :=
  .seq (.reg none [⟨(some 2), none, .alloc [.n 2, .n 3, .n 2, .n 1, .r (.v (.int .i64 0))]⟩] [0, 2])
  (.seq (.reg none [⟨(some 8), none, .mv (.t 0)⟩,
     ⟨(some 9), none, .callm 118 (.t 8) []⟩,
     ⟨(some 10), none, .call 72 true [(.t 9), (.k (V.i 40))]⟩,
     ⟨(some 3), none, .alloc [.n 2, .n 3, .n 2, .n 1, .r (.v (.int .i64 0))]⟩,
     ⟨none, none, .st 5 (.t 3) (.t 10)⟩] [0, 2, 3])
  (.seq (.seq (.reg none [⟨(some 4), none, .mv (.k (V.i 0))⟩] [0, 2, 3, 4])
   (.bl 0 (.seq (.seq (.reg none [⟨(some 11), none, .mv (.t 4)⟩,
        ⟨(some 12), none, .fa 1 (.t 3)⟩,
        ⟨(some 13), none, .ld false 1 (.t 12)⟩,
        ⟨(some 14), none, .len false (.t 13)⟩,
        ⟨(some 15), none, .bin .lss .i (.t 11) (.t 14)⟩] [0, 2, 3, 4, 15])
     (.cond (.t 15)
      (.skip)
      (.exit 0)))
    (.seq (.block 1 (.seq (.gh (.ga (.reg none [⟨(some 18), none, .mv (.t 0)⟩,
          ⟨(some 19), none, .callm 103 (.t 18) [(.k (V.i 4))]⟩,
          ⟨(some 20), none, .not (.t 19)⟩,
          ⟨(some 21), none, .mv (.t 20)⟩,
          ⟨(some 22), (some (21, true)), .fa 1 (.t 3)⟩,
          ⟨(some 23), (some (21, true)), .ld false 1 (.t 22)⟩,
          ⟨(some 24), (some (21, true)), .mv (.t 4)⟩,
          ⟨(some 25), (some (21, true)), .ia 3 (.t 23) (.t 24)⟩,
          ⟨(some 26), (some (21, true)), .fa 2 (.t 25)⟩,
          ⟨(some 27), (some (21, true)), .ld false 1 (.t 26)⟩,
          ⟨(some 28), (some (21, true)), .len false (.t 27)⟩,
          ⟨(some 29), (some (21, true)), .bin .gtr .i (.t 28) (.k (V.i 0))⟩,
          ⟨(some 30), none, .pick (.t 21) (.t 29) (.k (V.b false))⟩] [0, 2, 3, 4, 30])))
      (.cond (.t 30)
       (.gh (.ga (.reg (some [[], [0], [], [], [3], [], [3, 4, 5], [3, 4, 5, 6], [3, 4, 5, 6, 7], [3, 4, 5, 6, 7, 8], [0, 1, 2, 3, 4, 5, 6, 7, 8, 9], [0, 1, 2, 3, 4, 5, 6, 7, 8, 9, 10], [0, 1, 2, 3, 4, 5, 6, 7, 8, 9, 10, 11]]) [⟨(some 31), none, .fa 1 (.t 3)⟩,
           ⟨(some 32), none, .ld false 1 (.t 31)⟩,
           ⟨(some 33), none, .mv (.t 4)⟩,
           ⟨(some 34), none, .fa 1 (.t 3)⟩,
           ⟨(some 35), none, .ld false 1 (.t 34)⟩,
           ⟨(some 36), none, .mv (.t 4)⟩,
           ⟨(some 37), none, .ia 3 (.t 35) (.t 36)⟩,
           ⟨(some 38), none, .fa 2 (.t 37)⟩,
           ⟨(some 39), none, .ld false 1 (.t 38)⟩,
           ⟨(some 40), none, .len false (.t 39)⟩,
           ⟨(some 41), none, .ia 3 (.t 32) (.t 33)⟩,
           ⟨(some 42), none, .fa 1 (.t 41)⟩,
           ⟨none, none, .st 1 (.t 42) (.t 40)⟩] [0, 2, 3, 4])))
       (.skip))))
    (.reg none [⟨(some 16), none, .mv (.t 4)⟩,
      ⟨(some 17), none, .bin .add .i (.t 16) (.k (V.i 1))⟩,
      ⟨(some 4), none, .mv (.t 17)⟩] [0, 2, 3, 4])))))
  (.seq (.seq (.reg none [⟨(some 43), none, .mv (.t 0)⟩,
      ⟨(some 44), none, .callm 101 (.t 43) [(.k (V.i 16))]⟩,
      ⟨(some 5), none, .mv (.t 44)⟩] [0, 2, 3, 5])
   (.bl 2 (.seq (.seq (.reg none [⟨(some 45), none, .mv (.t 5)⟩,
        ⟨(some 46), none, .bin .gtr .i (.t 45) (.k (V.i 0))⟩] [0, 2, 3, 5, 46])
     (.cond (.t 46)
      (.skip)
      (.exit 2)))
    (.seq (.block 3 (.seq (.reg (some [[], [], [], [2], [2, 3], [1, 2, 3, 4], [], [6], [], [], [9], [9, 10], [1, 2, 3, 4, 5, 8, 9, 10, 11], [1, 2, 3, 4, 5, 6, 7, 8, 9, 10, 11, 12], [0, 1, 2, 3, 4, 5, 6, 7, 8, 9, 10, 11, 12, 13], [0, 1, 2, 3, 4, 5, 6, 7, 8, 9, 10, 11, 12, 13, 14], [0, 1, 2, 3, 4, 5, 6, 7, 8, 9, 10, 11, 12, 13, 14, 15], [0, 1, 2, 3, 4, 5, 6, 7, 8, 9, 10, 11, 12, 13, 14, 15], [], [0, 1, 2, 3, 4, 5, 6, 7, 8, 9, 10, 11, 12, 13, 14, 15, 16, 18], [0, 1, 2, 3, 4, 5, 6, 7, 8, 9, 10, 11, 12, 13, 14, 15, 16, 17, 18, 19]]) [⟨(some 50), none, .ld true 5 (.t 3)⟩,
         ⟨(some 51), none, .mv (.t 0)⟩,
         ⟨(some 52), none, .fa 2 (.t 3)⟩,
         ⟨(some 53), none, .ld false 1 (.t 52)⟩,
         ⟨(some 54), none, .len false (.t 53)⟩,
         ⟨(some 55), none, .callm 101 (.t 51) [(.t 54)]⟩,
         ⟨(some 56), none, .mv (.t 5)⟩,
         ⟨(some 57), none, .bin .add .i (.k (V.i 100)) (.t 56)⟩,
         ⟨(some 58), none, .mv (.t 0)⟩,
         ⟨(some 59), none, .fa 3 (.t 3)⟩,
         ⟨(some 60), none, .ld false 1 (.t 59)⟩,
         ⟨(some 61), none, .len false (.t 60)⟩,
         ⟨(some 62), none, .callm 101 (.t 58) [(.t 61)]⟩,
         ⟨(some 63), none, .bld [.r (.v (.int .i64 0)), .r (.v (.int .i64 0))] [(0, 1, (.t 57)), (1, 1, (.t 62))]⟩,
         ⟨(some 64), none, .call 69 true [(.t 50), (.t 55), (.t 63)]⟩,
         ⟨(some 49), none, .mv (.t 64)⟩,
         ⟨(some 65), none, .ext 0 (.t 49)⟩,
         ⟨(some 66), none, .ext 1 (.t 49)⟩,
         ⟨(some 6), none, .alloc [.n 2, .n 3, .n 2, .n 1, .r (.v (.int .i64 0))]⟩,
         ⟨none, none, .st 5 (.t 6) (.t 65)⟩,
         ⟨(some 7), none, .mv (.t 66)⟩] [0, 2, 3, 5, 6])
      (.reg none [⟨(some 67), none, .ld true 5 (.t 6)⟩,
        ⟨none, none, .st 5 (.t 3) (.t 67)⟩] [0, 2, 3, 5])))
    (.reg none [⟨(some 47), none, .mv (.t 5)⟩,
      ⟨(some 48), none, .bin .sub .i (.t 47) (.k (V.i 1))⟩,
      ⟨(some 5), none, .mv (.t 48)⟩] [0, 2, 3, 5])))))
  (.seq (.reg (some [[], [], [1], [0, 1, 2], [0, 1, 2, 3]]) [⟨(some 68), none, .ld true 5 (.t 3)⟩,
     ⟨(some 69), none, .mv (.t 0)⟩,
     ⟨(some 70), none, .callm 101 (.t 69) [(.k (V.i 30))]⟩,
     ⟨(some 71), none, .call 72 true [(.t 68), (.t 70)]⟩,
     ⟨none, none, .st 5 (.t 2) (.t 71)⟩] [2])
  (.ret)))))
def rv104 : List RV := [.c 2 true 5]
open Go.Proofs Go.IntWalk
set_option linter.unusedVariables false
set_option maxRecDepth 100000
set_option maxHeartbeats 4000000
def S_l7Full_l2 (g : G) (t : TE) : Nat → List Int → Int → Int → List Item → List Chute → List Inlet → List Int → Int → Int → Option ((List Int) × Int × Int × (List Item) × (List Chute) × (List Inlet) × (List Int) × Int)
  | 0, _, _, _, _, _, _, _, _, _ => none
  | n2 + 1, v5, v6, v7, w2, w3, w4, w5, v8, v9 =>
    br (g.lt 0 v9)
    (
     cl (S_l1Below g t (Cur.mk v5 v6 v7) (g.int (g.dlen (t.d_Inlet w4)))) fun x6 =>
     cl (S_l1Below g t (Cur.mk x6.2.b x6.2.i x6.2.h) (g.int (g.dlen (t.d_I64 w5)))) fun x7 =>
     cl (S_FeedCentre g t (Centre.mk w2 w3 w4 w5 v8) x6.1 (Item.mk (g.wrap .i64 (g.add 100 v9)) x7.1)) fun x8 =>
     S_l7Full_l2 g t n2 x7.2.b x7.2.i x7.2.h x8.1.Belt x8.1.Chutes x8.1.Inlets x8.1.Plan x8.1.Now (g.wrap .i64 (g.sub v9 1)))
    (
     some (v5, v6, v7, w2, w3, w4, w5, v8))
def S_l7Full_l1 (g : G) (t : TE) : Nat → List Int → Int → Int → List Chute → Int → Option ((List Int) × Int × Int × List Chute)
  | 0, _, _, _, _, _ => none
  | n1 + 1, v1, v2, v3, w1, v4 =>
    br (g.lt v4 (g.int (g.dlen (t.d_Chute w1))))
    (
     gt w1 (g.nat v4) fun x3 =>
     cl (S_l1Once g t (Cur.mk v1 v2 v3) 4) fun x4 =>
     br x4.1
     (
      S_l7Full_l1 g t n1 x4.2.b x4.2.i x4.2.h w1 (g.wrap .i64 (g.add v4 1)))
     (
      gd (((0 : Int) ≤ v4 ∧ v4 < (((g.dlen (t.d_Chute w1)) : Nat) : Int))) <|
      br (g.lt 0 (g.int (g.dlen (t.d_Item x3.Held))))
      (
       gd (((0 : Int) ≤ v4 ∧ v4 < (((g.dlen (t.d_Chute w1)) : Nat) : Int))) <|
       gd (((0 : Int) ≤ v4 ∧ v4 < (((g.dlen (t.d_Chute w1)) : Nat) : Int))) <|
       lP (List.set w1 (g.nat v4) (Chute.mk x3.Cell (g.int (g.dlen (t.d_Item x3.Held))) x3.Held)) fun (l1 : List Chute) =>
       S_l7Full_l1 g t n1 x4.2.b x4.2.i x4.2.h l1 (g.wrap .i64 (g.add v4 1)))
      (
       S_l7Full_l1 g t n1 x4.2.b x4.2.i x4.2.h w1 (g.wrap .i64 (g.add v4 1)))))
    (
     some (v1, v2, v3, w1))
def S_l7Full (g : G) (t : TE) (a0 : Cur) : Option (Centre × Cur) :=
  cl (S_l7Draw g t a0) fun x1 =>
  cl (S_RunCentre g t (Centre.mk x1.1.Belt x1.1.Chutes x1.1.Inlets x1.1.Plan x1.1.Now) 40) fun x2 =>
  cl (S_l7Full_l1 g t 1000000000 x1.2.b x1.2.i x1.2.h x2.Chutes 0) fun y1 =>
  cl (S_l1Below g t (Cur.mk y1.1 y1.2.1 y1.2.2.1) 16) fun x5 =>
  cl (S_l7Full_l2 g t 1000000000 x5.2.b x5.2.i x5.2.h x2.Belt y1.2.2.2 x2.Inlets x2.Plan x2.Now x5.1) fun y2 =>
  cl (S_l1Below g t (Cur.mk y2.1 y2.2.1 y2.2.2.1) 30) fun x9 =>
  cl (S_RunCentre g t (Centre.mk y2.2.2.2.1 y2.2.2.2.2.1 y2.2.2.2.2.2.1 y2.2.2.2.2.2.2.1 y2.2.2.2.2.2.2.2) x9.1) fun x10 =>
  some ((x10, (Cur.mk x9.2.b x9.2.i x9.2.h)))
theorem fit104 : codeFit Try.prog Try.f104.ntmps (Try.f104.body.getD .skip) ir104 = true := by kernel_rfl
theorem c_S_l7Full {g : G} {t : TE} {a0 : Cur} {r : Centre × Cur} (hg : g = G.real) (ht : t = TE.real) (h : S_l7Full g t a0 = some r) : FnM Try.prog 104 (.p (Cur.ds t a0)) [] (.g (Centre.ds t r.1)) (.p (Cur.ds t r.2)) := by
  obtain ⟨X, hX⟩ := hide (.g (Centre.ds t r.1) : X)
  obtain ⟨Y, hY⟩ := hide (.p (Cur.ds t r.2) : AM)
  rw [← hX, ← hY]
  refine fnM_of (rvs := rv104) (j := ir104) Try.func104 rfl fit104 (Nat.le_of_ble_eq_true rfl) (by kernel_rfl) prog_mixed ?_
  intro g2 F hg2 hF
  obtain rfl : g2 = g := hg2.unique.trans hg.symm
  clear hg2
  obtain ⟨wrap, lt, le, eq, quo, rem, band, bor, bxor, shl, shr, nat, int, add, sub, mul, cat, seq, slt, sub3, byte, llen, nadd, nsub, dlen, dapp, dset, drep, rd, rda, up, rsub, dsub, all, sle, slen, hasI, putI, hasS, putS, imin, imax, fzc⟩ := g2
  obtain ⟨r_Item, d_Item, r_Chute, d_Chute, r_Inlet, d_Inlet, r_I64, d_I64, r_U8, d_U8, d_InletF⟩ := t
  obtain ⟨a0_b, a0_i, a0_h⟩ := a0
  have hfr_Item : ∀ l, freshDss (d_Item l) = true := fresh_Item ht
  have hfr_Chute : ∀ l, freshDss (d_Chute l) = true := fresh_Chute ht
  have hfr_Inlet : ∀ l, freshDss (d_Inlet l) = true := fresh_Inlet ht
  have hfr_I64 : ∀ l, freshDss (d_I64 l) = true := fresh_I64 ht
  unfold S_l7Full at h
  try dsimp only at h
  cbv
  obtain ⟨x1, hx1, h⟩ := of_cl h
  obtain ⟨⟨x1_1_Belt, x1_1_Chutes, x1_1_Inlets, x1_1_Plan, x1_1_Now⟩, ⟨x1_2_b, x1_2_i, x1_2_h⟩⟩ := x1
  try dsimp only at h
  refine ACallM.mk _ _ _ _ rfl rfl (hF _ _ _ (c_S_l7Draw hg ht hx1)) rfl (Nat.le_of_ble_eq_true rfl) (Nat.le_of_ble_eq_true rfl) ?_
  cbv
  refine AStep.mk ⟨(lend_Item ht (dlen_Item hg ht _)), ⟨(lend_Chute ht (dlen_Chute hg ht _)), ⟨(lend_Inlet ht (dlen_Inlet hg ht _)), (lend_I64 ht (dlen_I64 hg ht _))⟩⟩⟩ ?_
  cbv
  obtain ⟨x2, hx2, h⟩ := of_cl h
  obtain ⟨x2_Belt, x2_Chutes, x2_Inlets, x2_Plan, x2_Now⟩ := x2
  try dsimp only at h
  refine ACall.mk _ _ (by rw [show rd (d_Item x1_1_Belt) 0 (dlen (d_Item x1_1_Belt)) = r_Item x1_1_Belt from rdw_Item hg ht (dlen_Item hg ht _), show rd (d_Chute x1_1_Chutes) 0 (dlen (d_Chute x1_1_Chutes)) = r_Chute x1_1_Chutes from rdw_Chute hg ht (dlen_Chute hg ht _), show rd (d_Inlet x1_1_Inlets) 0 (dlen (d_Inlet x1_1_Inlets)) = r_Inlet x1_1_Inlets from rdw_Inlet hg ht (dlen_Inlet hg ht _), show rd (d_I64 x1_1_Plan) 0 (dlen (d_I64 x1_1_Plan)) = r_I64 x1_1_Plan from rdw_I64 hg ht (dlen_I64 hg ht _)]; try rfl) (hF _ _ _ (c_S_RunCentre hg ht hx2)) (.inr (by simp only [Go.Vs.X.fresh, Go.Vs.X.freshs, freshD, freshDs, Bool.and_self, Centre.ds, hfr_Chute, hfr_I64, hfr_Inlet, hfr_Item])) (Nat.le_of_ble_eq_true rfl) ?_
  cbv
  obtain ⟨o1, ho1, h⟩ := of_cl h
  try dsimp only at h
  try rw [hg] at ho1
  try rw [ht] at ho1
  refine ABL.mk { p : Nat × (List Int) × Int × Int × (List Chute) × Int // S_l7Full_l1 G.real TE.real p.1 p.2.1 p.2.2.1 p.2.2.2.1 p.2.2.2.2.1 p.2.2.2.2.2 = some o1 } (fun ⟨⟨n1, v1, v2, v3, w1, v4⟩, _⟩ => ({ sl := [(0, .c (.p 3 3 0 0)), (2, .c (.p 0 5 0 0)), (3, .c (.p 1 5 0 0)), (4, .c (.r (.v (.int .i64 v4))))], tab := [(0, some (.foc 5 [] [.n 2, .n 3, .n 2, .n 1, .r (.v (.int .i64 0))] [])), (1, some (.foc 5 [] [.f 2 2 0 (dlen (d_Item x2_Belt)), .f 4 3 0 (dlen (d_Chute w1)), .f 5 2 0 (dlen (d_Inlet x2_Inlets)), .f 6 1 0 (dlen (d_I64 x2_Plan)), .r (.v (.int .i64 x2_Now))] [])), (2, some (.arr 2 (d_Item x2_Belt))), (3, some (.foc 3 [] [.r (.s 1 (r_U8 v1)), .r (.v (.int .i64 v2)), .r (.v (.int .i64 v3))] [])), (4, some (.arr 3 (d_Chute w1))), (5, some (.arr 2 (d_Inlet x2_Inlets))), (6, some (.arr 1 (d_I64 x2_Plan)))] } : St)) 7 (fun p => p.1.1) ⟨(1000000000, x1_2_b, x1_2_i, x1_2_h, x2_Chutes, 0), ho1⟩ ((List Int) × Int × Int × List Chute) (fun ⟨y1_1, y1_2_1, y1_2_2_1, y1_2_2_2⟩ => ({ sl := [(0, .c (.p 3 3 0 0)), (2, .c (.p 0 5 0 0)), (3, .c (.p 1 5 0 0))], tab := [(0, some (.foc 5 [] [.n 2, .n 3, .n 2, .n 1, .r (.v (.int .i64 0))] [])), (1, some (.foc 5 [] [.f 2 2 0 (dlen (d_Item x2_Belt)), .f 4 3 0 (dlen (d_Chute y1_2_2_2)), .f 5 2 0 (dlen (d_Inlet x2_Inlets)), .f 6 1 0 (dlen (d_I64 x2_Plan)), .r (.v (.int .i64 x2_Now))] [])), (2, some (.arr 2 (d_Item x2_Belt))), (3, some (.foc 3 [] [.r (.s 1 (r_U8 y1_1)), .r (.v (.int .i64 y1_2_1)), .r (.v (.int .i64 y1_2_2_1))] [])), (4, some (.arr 3 (d_Chute y1_2_2_2))), (5, some (.arr 2 (d_Inlet x2_Inlets))), (6, some (.arr 1 (d_I64 x2_Plan)))] } : St)) 7 (fun y => o1 = y) ?_ ?_ ?_
  · refine Wk.of [(0, some 4), (1, some 68), (2, some 52), (3, some 3), (4, some 53), (5, some 54), (6, some 55)] rfl rfl ?_ ?_
    · cbv
      all_goals exact ⟨⟨_, rfl, rfl⟩, ⟨_, rfl, rfl⟩, ⟨_, rfl, rfl⟩, ⟨_, rfl, rfl⟩, trivial⟩
    · cbv
      all_goals exact ⟨⟨_, rfl, _, rfl, rfl, rfl, rfl, rfl, rfl, trivial⟩, ⟨_, rfl, _, rfl, rfl, rfl, rfl, rfl, rfl, trivial⟩, ⟨_, rfl, rfl⟩, ⟨_, rfl, _, rfl, rfl, rfl, rfl, trivial⟩, ⟨_, rfl, rfl⟩, ⟨_, rfl, rfl⟩, ⟨_, rfl, rfl⟩, trivial⟩
  · rintro ⟨⟨n1, v1, v2, v3, w1, v4⟩, h_1⟩ hq1
    try dsimp only at h_1
    clear hq1
    rcases n1 with _ | n1
    · rw [S_l7Full_l1] at h_1; cases h_1
    · rw [S_l7Full_l1] at h_1
      try rw [← hg] at h_1
      try rw [← ht] at h_1
      try dsimp only at h_1
      cbv
      cases hb1 : (lt v4 (int (dlen (d_Chute w1)))) with
      | true =>
        rw [br_true hb1] at h_1
        cbv
        obtain ⟨x3, hx3, h_1⟩ := of_gt h_1
        obtain ⟨x3_Cell, x3_Room, x3_Held⟩ := x3
        try dsimp only at h_1
        refine AGh.opn 4 3 (nat v4) (d_Chute w1) _ rfl (d_get_Chute hg ht hx3) rfl ?_
        cbv
        refine AGh.nil ?_
        cbv
        obtain ⟨x4, hx4, h_1⟩ := of_cl h_1
        obtain ⟨x4_1, ⟨x4_2_b, x4_2_i, x4_2_h⟩⟩ := x4
        try dsimp only at h_1
        refine ACallM.mk _ _ _ _ rfl rfl (hF _ _ _ (c_S_l1Once hg ht hx4)) rfl (Nat.le_of_ble_eq_true rfl) (Nat.le_of_ble_eq_true rfl) ?_
        cbv
        cases hb2 : x4_1 with
        | true =>
          rw [br_true hb2] at h_1
          cbv
          try (rw [hb2]; cbv)
          try (rw [hb2]; cbv)
          try (rw [hb2]; cbv)
          try (rw [hb2]; cbv)
          try (rw [hb2]; cbv)
          try (rw [hb2]; cbv)
          try (rw [hb2]; cbv)
          try (rw [hb2]; cbv)
          refine AGh.cls 4 3 (nat v4) (d_Chute w1) _ _ _ _ (d_Chute w1) rfl rfl ⟨rfl, (dlen_Item hg ht _)⟩ (dsets_Chute hg ht hx3) ?_
          cbv
          refine AGh.nil ?_
          cbv
          try rw [hg] at h_1
          try rw [ht] at h_1
          refine ⟨⟨(n1, x4_2_b, x4_2_i, x4_2_h, w1, (wrap .i64 (add v4 1))), h_1⟩, Wk.of [(0, some 0), (1, some 1), (2, some 2), (3, some 3), (4, some 4), (5, some 5), (6, some 6)] rfl rfl ?_ ?_, Nat.lt_succ_self _⟩
          · cbv
            all_goals exact ⟨⟨_, rfl, rfl⟩, ⟨_, rfl, rfl⟩, ⟨_, rfl, rfl⟩, ⟨_, rfl, rfl⟩, trivial⟩
          · cbv
            all_goals exact ⟨⟨_, rfl, _, rfl, rfl, rfl, rfl, rfl, rfl, trivial⟩, ⟨_, rfl, _, rfl, rfl, rfl, rfl, rfl, rfl, trivial⟩, ⟨_, rfl, rfl⟩, ⟨_, rfl, _, rfl, rfl, rfl, rfl, trivial⟩, ⟨_, rfl, rfl⟩, ⟨_, rfl, rfl⟩, ⟨_, rfl, rfl⟩, trivial⟩
        | false =>
          rw [br_false hb2] at h_1
          cbv
          try (rw [hb2]; cbv)
          try (rw [hb2]; cbv)
          try (rw [hb2]; cbv)
          obtain ⟨hc1, h_1⟩ := of_gd h_1
          refine AStep.mk hc1 ?_
          cbv
          try (rw [hb2]; cbv)
          try (rw [hb2]; cbv)
          refine AStep.mk rfl ?_
          cbv
          try (rw [hb2]; cbv)
          try (rw [hb2]; cbv)
          try (rw [hb2]; cbv)
          refine AGh.cls 4 3 (nat v4) (d_Chute w1) _ _ _ _ (d_Chute w1) rfl rfl ⟨rfl, (dlen_Item hg ht _)⟩ (dsets_Chute hg ht hx3) ?_
          cbv
          refine AGh.nil ?_
          cbv
          cases hb3 : (lt 0 (int (dlen (d_Item x3_Held)))) with
          | true =>
            rw [br_true hb3] at h_1
            cbv
            refine AGh.opn 4 3 (nat v4) (d_Chute w1) _ rfl (d_get_Chute hg ht hx3) rfl ?_
            cbv
            refine AGh.nil ?_
            cbv
            obtain ⟨hc2, h_1⟩ := of_gd h_1
            refine AStep.mk hc2 ?_
            cbv
            refine AStep.mk rfl ?_
            cbv
            obtain ⟨hc3, h_1⟩ := of_gd h_1
            refine AStep.mk hc3 ?_
            cbv
            refine AStep.mk rfl ?_
            cbv
            obtain ⟨l1, hl1, h_1⟩ := of_lP h_1
            try dsimp only at h_1
            refine AGh.cls 4 3 (nat v4) (d_Chute w1) _ _ _ _ (d_Chute l1) rfl rfl ⟨rfl, (dlen_Item hg ht _)⟩ (by rw [← hl1]; exact dset_Chute hg ht _ _ (Chute.mk x3_Cell (int (dlen (d_Item x3_Held))) x3_Held)) ?_
            have hnl1 : (dlen (d_Chute w1)) = (d_Chute l1).length := (by rw [← hl1, dsetl_Chute ht]; exact (dlen_Chute hg ht _))
            cbv
            refine AGh.nil ?_
            cbv
            try rw [hg] at h_1
            try rw [ht] at h_1
            refine ⟨⟨(n1, x4_2_b, x4_2_i, x4_2_h, l1, (wrap .i64 (add v4 1))), h_1⟩, Wk.of [(0, some 0), (1, some 1), (2, some 2), (3, some 3), (4, some 4), (5, some 5), (6, some 6)] rfl rfl ?_ ?_, Nat.lt_succ_self _⟩
            · cbv
              all_goals try rw [show (dlen (d_Chute w1)) = (dlen (d_Chute l1)) from (hnl1).trans (dlen_Chute hg ht _).symm]
              all_goals exact ⟨⟨_, rfl, rfl⟩, ⟨_, rfl, rfl⟩, ⟨_, rfl, rfl⟩, ⟨_, rfl, rfl⟩, trivial⟩
            · cbv
              all_goals try rw [show (dlen (d_Chute w1)) = (dlen (d_Chute l1)) from (hnl1).trans (dlen_Chute hg ht _).symm]
              all_goals exact ⟨⟨_, rfl, _, rfl, rfl, rfl, rfl, rfl, rfl, trivial⟩, ⟨_, rfl, _, rfl, rfl, rfl, rfl, rfl, rfl, trivial⟩, ⟨_, rfl, rfl⟩, ⟨_, rfl, _, rfl, rfl, rfl, rfl, trivial⟩, ⟨_, rfl, rfl⟩, ⟨_, rfl, rfl⟩, ⟨_, rfl, rfl⟩, trivial⟩
          | false =>
            rw [br_false hb3] at h_1
            cbv
            try rw [hg] at h_1
            try rw [ht] at h_1
            refine ⟨⟨(n1, x4_2_b, x4_2_i, x4_2_h, w1, (wrap .i64 (add v4 1))), h_1⟩, Wk.of [(0, some 0), (1, some 1), (2, some 2), (3, some 3), (4, some 4), (5, some 5), (6, some 6)] rfl rfl ?_ ?_, Nat.lt_succ_self _⟩
            · cbv
              all_goals exact ⟨⟨_, rfl, rfl⟩, ⟨_, rfl, rfl⟩, ⟨_, rfl, rfl⟩, ⟨_, rfl, rfl⟩, trivial⟩
            · cbv
              all_goals exact ⟨⟨_, rfl, _, rfl, rfl, rfl, rfl, rfl, rfl, trivial⟩, ⟨_, rfl, _, rfl, rfl, rfl, rfl, rfl, rfl, trivial⟩, ⟨_, rfl, rfl⟩, ⟨_, rfl, _, rfl, rfl, rfl, rfl, trivial⟩, ⟨_, rfl, rfl⟩, ⟨_, rfl, rfl⟩, ⟨_, rfl, rfl⟩, trivial⟩
      | false =>
        rw [br_false hb1] at h_1
        cbv
        refine ⟨(v1, v2, v3, w1), Wk.of [(0, some 0), (1, some 1), (2, some 2), (3, some 3), (4, some 4), (5, some 5), (6, some 6)] rfl rfl ?_ ?_, (Option.some.inj h_1).symm⟩
        · cbv
          all_goals exact ⟨⟨_, rfl, rfl⟩, ⟨_, rfl, rfl⟩, ⟨_, rfl, rfl⟩, trivial⟩
        · cbv
          all_goals exact ⟨⟨_, rfl, _, rfl, rfl, rfl, rfl, rfl, rfl, trivial⟩, ⟨_, rfl, _, rfl, rfl, rfl, rfl, rfl, rfl, trivial⟩, ⟨_, rfl, rfl⟩, ⟨_, rfl, _, rfl, rfl, rfl, rfl, trivial⟩, ⟨_, rfl, rfl⟩, ⟨_, rfl, rfl⟩, ⟨_, rfl, rfl⟩, trivial⟩
  · rintro ⟨y1_1, y1_2_1, y1_2_2_1, y1_2_2_2⟩ hy1
    replace hy1 := hy1.symm
    subst hy1
    try dsimp only [lr, lrL, lrp, lrpL] at h
    cbv
    obtain ⟨x5, hx5, h⟩ := of_cl h
    obtain ⟨x5_1, ⟨x5_2_b, x5_2_i, x5_2_h⟩⟩ := x5
    try dsimp only at h
    refine ACallM.mk _ _ _ _ rfl rfl (hF _ _ _ (c_S_l1Below hg ht hx5)) rfl (Nat.le_of_ble_eq_true rfl) (Nat.le_of_ble_eq_true rfl) ?_
    cbv
    obtain ⟨o2, ho2, h⟩ := of_cl h
    try dsimp only at h
    try rw [hg] at ho2
    try rw [ht] at ho2
    refine ABL.mk { p : Nat × (List Int) × Int × Int × (List Item) × (List Chute) × (List Inlet) × (List Int) × Int × Int // S_l7Full_l2 G.real TE.real p.1 p.2.1 p.2.2.1 p.2.2.2.1 p.2.2.2.2.1 p.2.2.2.2.2.1 p.2.2.2.2.2.2.1 p.2.2.2.2.2.2.2.1 p.2.2.2.2.2.2.2.2.1 p.2.2.2.2.2.2.2.2.2 = some o2 } (fun ⟨⟨n2, v5, v6, v7, w2, w3, w4, w5, v8, v9⟩, _⟩ => ({ sl := [(0, .c (.p 3 3 0 0)), (2, .c (.p 0 5 0 0)), (3, .c (.p 1 5 0 0)), (5, .c (.r (.v (.int .i64 v9))))], tab := [(0, some (.foc 5 [] [.n 2, .n 3, .n 2, .n 1, .r (.v (.int .i64 0))] [])), (1, some (.foc 5 [] [.f 2 2 0 (dlen (d_Item w2)), .f 4 3 0 (dlen (d_Chute w3)), .f 5 2 0 (dlen (d_Inlet w4)), .f 6 1 0 (dlen (d_I64 w5)), .r (.v (.int .i64 v8))] [])), (2, some (.arr 2 (d_Item w2))), (3, some (.foc 3 [] [.r (.s 1 (r_U8 v5)), .r (.v (.int .i64 v6)), .r (.v (.int .i64 v7))] [])), (4, some (.arr 3 (d_Chute w3))), (5, some (.arr 2 (d_Inlet w4))), (6, some (.arr 1 (d_I64 w5)))] } : St)) 7 (fun p => p.1.1) ⟨(1000000000, x5_2_b, x5_2_i, x5_2_h, x2_Belt, y1_2_2_2, x2_Inlets, x2_Plan, x2_Now, x5_1), ho2⟩ ((List Int) × Int × Int × (List Item) × (List Chute) × (List Inlet) × (List Int) × Int) (fun ⟨y2_1, y2_2_1, y2_2_2_1, y2_2_2_2_1, y2_2_2_2_2_1, y2_2_2_2_2_2_1, y2_2_2_2_2_2_2_1, y2_2_2_2_2_2_2_2⟩ => ({ sl := [(0, .c (.p 3 3 0 0)), (2, .c (.p 0 5 0 0)), (3, .c (.p 1 5 0 0))], tab := [(0, some (.foc 5 [] [.n 2, .n 3, .n 2, .n 1, .r (.v (.int .i64 0))] [])), (1, some (.foc 5 [] [.f 2 2 0 (dlen (d_Item y2_2_2_2_1)), .f 4 3 0 (dlen (d_Chute y2_2_2_2_2_1)), .f 5 2 0 (dlen (d_Inlet y2_2_2_2_2_2_1)), .f 6 1 0 (dlen (d_I64 y2_2_2_2_2_2_2_1)), .r (.v (.int .i64 y2_2_2_2_2_2_2_2))] [])), (2, some (.arr 2 (d_Item y2_2_2_2_1))), (3, some (.foc 3 [] [.r (.s 1 (r_U8 y2_1)), .r (.v (.int .i64 y2_2_1)), .r (.v (.int .i64 y2_2_2_1))] [])), (4, some (.arr 3 (d_Chute y2_2_2_2_2_1))), (5, some (.arr 2 (d_Inlet y2_2_2_2_2_2_1))), (6, some (.arr 1 (d_I64 y2_2_2_2_2_2_2_1)))] } : St)) 7 (fun y => o2 = y) ?_ ?_ ?_
    · refine Wk.of [(0, some 0), (1, some 1), (2, some 2), (3, some 3), (4, some 4), (5, some 5), (6, some 6)] rfl rfl ?_ ?_
      · cbv
        all_goals exact ⟨⟨_, rfl, rfl⟩, ⟨_, rfl, rfl⟩, ⟨_, rfl, rfl⟩, ⟨_, rfl, rfl⟩, trivial⟩
      · cbv
        all_goals exact ⟨⟨_, rfl, _, rfl, rfl, rfl, rfl, rfl, rfl, trivial⟩, ⟨_, rfl, _, rfl, rfl, rfl, rfl, rfl, rfl, trivial⟩, ⟨_, rfl, rfl⟩, ⟨_, rfl, _, rfl, rfl, rfl, rfl, trivial⟩, ⟨_, rfl, rfl⟩, ⟨_, rfl, rfl⟩, ⟨_, rfl, rfl⟩, trivial⟩
    · rintro ⟨⟨n2, v5, v6, v7, w2, w3, w4, w5, v8, v9⟩, h_2⟩ hq2
      try dsimp only at h_2
      clear hq2
      rcases n2 with _ | n2
      · rw [S_l7Full_l2] at h_2; cases h_2
      · rw [S_l7Full_l2] at h_2
        try rw [← hg] at h_2
        try rw [← ht] at h_2
        try dsimp only at h_2
        cbv
        cases hb4 : (lt 0 v9) with
        | true =>
          rw [br_true hb4] at h_2
          cbv
          obtain ⟨x6, hx6, h_2⟩ := of_cl h_2
          obtain ⟨x6_1, ⟨x6_2_b, x6_2_i, x6_2_h⟩⟩ := x6
          try dsimp only at h_2
          refine ACallM.mk _ _ _ _ rfl rfl (hF _ _ _ (c_S_l1Below hg ht hx6)) rfl (Nat.le_of_ble_eq_true rfl) (Nat.le_of_ble_eq_true rfl) ?_
          cbv
          obtain ⟨x7, hx7, h_2⟩ := of_cl h_2
          obtain ⟨x7_1, ⟨x7_2_b, x7_2_i, x7_2_h⟩⟩ := x7
          try dsimp only at h_2
          refine ACallM.mk _ _ _ _ rfl rfl (hF _ _ _ (c_S_l1Below hg ht hx7)) rfl (Nat.le_of_ble_eq_true rfl) (Nat.le_of_ble_eq_true rfl) ?_
          cbv
          refine AStep.mk ⟨(lend_Item ht (dlen_Item hg ht _)), ⟨(lend_Chute ht (dlen_Chute hg ht _)), ⟨(lend_Inlet ht (dlen_Inlet hg ht _)), (lend_I64 ht (dlen_I64 hg ht _))⟩⟩⟩ ?_
          cbv
          obtain ⟨x8, hx8, h_2⟩ := of_cl h_2
          obtain ⟨⟨x8_1_Belt, x8_1_Chutes, x8_1_Inlets, x8_1_Plan, x8_1_Now⟩, x8_2⟩ := x8
          try dsimp only at h_2
          refine ACall.mk _ _ (by rw [show rd (d_Item w2) 0 (dlen (d_Item w2)) = r_Item w2 from rdw_Item hg ht (dlen_Item hg ht _), show rd (d_Chute w3) 0 (dlen (d_Chute w3)) = r_Chute w3 from rdw_Chute hg ht (dlen_Chute hg ht _), show rd (d_Inlet w4) 0 (dlen (d_Inlet w4)) = r_Inlet w4 from rdw_Inlet hg ht (dlen_Inlet hg ht _), show rd (d_I64 w5) 0 (dlen (d_I64 w5)) = r_I64 w5 from rdw_I64 hg ht (dlen_I64 hg ht _)]; try rfl) (hF _ _ _ (c_S_FeedCentre hg ht hx8)) (.inr (by simp only [Go.Vs.X.fresh, Go.Vs.X.freshs, freshD, freshDs, Bool.and_self, Centre.ds, hfr_Chute, hfr_I64, hfr_Inlet, hfr_Item])) (Nat.le_of_ble_eq_true rfl) ?_
          cbv
          try rw [hg] at h_2
          try rw [ht] at h_2
          refine ⟨⟨(n2, x7_2_b, x7_2_i, x7_2_h, x8_1_Belt, x8_1_Chutes, x8_1_Inlets, x8_1_Plan, x8_1_Now, (wrap .i64 (sub v9 1))), h_2⟩, Wk.of [(0, some 0), (1, some 1), (2, some 263), (3, some 3), (4, some 264), (5, some 265), (6, some 266)] rfl rfl ?_ ?_, Nat.lt_succ_self _⟩
          · cbv
            all_goals exact ⟨⟨_, rfl, rfl⟩, ⟨_, rfl, rfl⟩, ⟨_, rfl, rfl⟩, ⟨_, rfl, rfl⟩, trivial⟩
          · cbv
            all_goals exact ⟨⟨_, rfl, _, rfl, rfl, rfl, rfl, rfl, rfl, trivial⟩, ⟨_, rfl, _, rfl, rfl, rfl, rfl, rfl, rfl, trivial⟩, ⟨_, rfl, rfl⟩, ⟨_, rfl, _, rfl, rfl, rfl, rfl, trivial⟩, ⟨_, rfl, rfl⟩, ⟨_, rfl, rfl⟩, ⟨_, rfl, rfl⟩, trivial⟩
        | false =>
          rw [br_false hb4] at h_2
          cbv
          refine ⟨(v5, v6, v7, w2, w3, w4, w5, v8), Wk.of [(0, some 0), (1, some 1), (2, some 2), (3, some 3), (4, some 4), (5, some 5), (6, some 6)] rfl rfl ?_ ?_, (Option.some.inj h_2).symm⟩
          · cbv
            all_goals exact ⟨⟨_, rfl, rfl⟩, ⟨_, rfl, rfl⟩, ⟨_, rfl, rfl⟩, trivial⟩
          · cbv
            all_goals exact ⟨⟨_, rfl, _, rfl, rfl, rfl, rfl, rfl, rfl, trivial⟩, ⟨_, rfl, _, rfl, rfl, rfl, rfl, rfl, rfl, trivial⟩, ⟨_, rfl, rfl⟩, ⟨_, rfl, _, rfl, rfl, rfl, rfl, trivial⟩, ⟨_, rfl, rfl⟩, ⟨_, rfl, rfl⟩, ⟨_, rfl, rfl⟩, trivial⟩
    · rintro ⟨y2_1, y2_2_1, y2_2_2_1, y2_2_2_2_1, y2_2_2_2_2_1, y2_2_2_2_2_2_1, y2_2_2_2_2_2_2_1, y2_2_2_2_2_2_2_2⟩ hy2
      replace hy2 := hy2.symm
      subst hy2
      try dsimp only [lr, lrL, lrp, lrpL] at h
      cbv
      obtain ⟨x9, hx9, h⟩ := of_cl h
      obtain ⟨x9_1, ⟨x9_2_b, x9_2_i, x9_2_h⟩⟩ := x9
      try dsimp only at h
      refine ACallM.mk _ _ _ _ rfl rfl (hF _ _ _ (c_S_l1Below hg ht hx9)) rfl (Nat.le_of_ble_eq_true rfl) (Nat.le_of_ble_eq_true rfl) ?_
      cbv
      refine AStep.mk ⟨(lend_Item ht (dlen_Item hg ht _)), ⟨(lend_Chute ht (dlen_Chute hg ht _)), ⟨(lend_Inlet ht (dlen_Inlet hg ht _)), (lend_I64 ht (dlen_I64 hg ht _))⟩⟩⟩ ?_
      cbv
      obtain ⟨x10, hx10, h⟩ := of_cl h
      obtain ⟨x10_Belt, x10_Chutes, x10_Inlets, x10_Plan, x10_Now⟩ := x10
      try dsimp only at h
      refine ACall.mk _ _ (by rw [show rd (d_Item y2_2_2_2_1) 0 (dlen (d_Item y2_2_2_2_1)) = r_Item y2_2_2_2_1 from rdw_Item hg ht (dlen_Item hg ht _), show rd (d_Chute y2_2_2_2_2_1) 0 (dlen (d_Chute y2_2_2_2_2_1)) = r_Chute y2_2_2_2_2_1 from rdw_Chute hg ht (dlen_Chute hg ht _), show rd (d_Inlet y2_2_2_2_2_2_1) 0 (dlen (d_Inlet y2_2_2_2_2_2_1)) = r_Inlet y2_2_2_2_2_2_1 from rdw_Inlet hg ht (dlen_Inlet hg ht _), show rd (d_I64 y2_2_2_2_2_2_2_1) 0 (dlen (d_I64 y2_2_2_2_2_2_2_1)) = r_I64 y2_2_2_2_2_2_2_1 from rdw_I64 hg ht (dlen_I64 hg ht _)]; try rfl) (hF _ _ _ (c_S_RunCentre hg ht hx10)) (.inr (by simp only [Go.Vs.X.fresh, Go.Vs.X.freshs, freshD, freshDs, Bool.and_self, Centre.ds, hfr_Chute, hfr_I64, hfr_Inlet, hfr_Item])) (Nat.le_of_ble_eq_true rfl) ?_
      cbv
      obtain rfl := Option.some.inj h
      exact ARetM.mk ⟨⟨rfl, (dlen_Item hg ht _)⟩, ⟨⟨rfl, (dlen_Chute hg ht _)⟩, ⟨⟨rfl, (dlen_Inlet hg ht _)⟩, ⟨rfl, (dlen_I64 hg ht _)⟩⟩⟩⟩ hX.symm hY.symm
end Go.Vs
namespace Go.Vs
set_option maxRecDepth 100000
def ir53 : J :=
  .seq (.reg none [⟨(some 2), none, .alloc [.n 2, .n 3, .n 2, .n 1, .r (.v (.int .i64 0))]⟩,
     ⟨(some 3), none, .mv (.k (V.i 0))⟩] [0, 2])
  (.seq (.reg none [⟨(some 6), none, .mv (.t 0)⟩,
     ⟨(some 7), none, .call 91 true [(.t 6)]⟩,
     ⟨(some 4), none, .mv (.t 7)⟩] [2, 4])
  (.seq (.reg none [⟨(some 8), none, .mv (.t 4)⟩,
     ⟨(some 9), none, .callm 92 (.t 8) []⟩,
     ⟨(some 5), none, .alloc [.n 2, .n 3, .n 2, .n 1, .r (.v (.int .i64 0))]⟩,
     ⟨none, none, .st 5 (.t 5) (.t 9)⟩] [2, 4, 5])
  (.seq (.seq (.reg none [⟨(some 10), none, .mv (.t 4)⟩,
      ⟨(some 11), none, .callm 103 (.t 10) [(.k (V.i 3))]⟩] [2, 4, 5, 11])
   (.cond (.t 11)
    (.reg none [⟨(some 12), none, .mv (.t 4)⟩,
       ⟨(some 13), none, .callm 104 (.t 12) []⟩,
       ⟨none, none, .st 5 (.t 5) (.t 13)⟩] [2, 4, 5])
    (.skip)))
  (.seq (.reg (some [[], [], [], [1, 2], [0, 1, 2, 3], [0, 1, 2, 3, 4]]) [⟨(some 14), none, .ld true 5 (.t 5)⟩,
     ⟨(some 15), none, .mv (.t 4)⟩,
     ⟨(some 16), none, .bslr 1 [(.k (V.i 0)), (.k (V.i 3)), (.k (V.i 10)), (.k (V.i 40)), (.k (V.i 100)), (.k (V.i 1000)), (.k (V.i 1001)), (.k (V.i (-1)))]⟩,
     ⟨(some 17), none, .callm 93 (.t 15) [(.t 16)]⟩,
     ⟨none, none, .st 5 (.t 2) (.t 14)⟩,
     ⟨(some 3), none, .mv (.t 17)⟩] [2, 3])
  (.ret)))))
def rv53 : List RV := [.c 2 true 5, .t 3]
open Go.Proofs Go.IntWalk
set_option linter.unusedVariables false
set_option maxRecDepth 100000
set_option maxHeartbeats 4000000
def S_DrawTicksToDrain (g : G) (t : TE) (a0 : List Int) : Option (Centre × Int) :=
  lP (S_l1New g t a0) fun x1 =>
  cl (S_l7Any g t x1) fun x2 =>
  cl (S_l1Once g t (Cur.mk x2.2.b x2.2.i x2.2.h) 3) fun x3 =>
  br x3.1
  (
   cl (S_l7Full g t (Cur.mk x3.2.b x3.2.i x3.2.h)) fun x4 =>
   lP ([0, 3, 10, 40, 100, 1000, 1001, (-1)]) fun (l1 : List Int) =>
   cl (S_l1Int g t (Cur.mk x4.2.b x4.2.i x4.2.h) l1) fun x5 =>
   some (((Centre.mk x4.1.Belt x4.1.Chutes x4.1.Inlets x4.1.Plan x4.1.Now), x5.1)))
  (
   lP ([0, 3, 10, 40, 100, 1000, 1001, (-1)]) fun (l2 : List Int) =>
   cl (S_l1Int g t (Cur.mk x3.2.b x3.2.i x3.2.h) l2) fun x6 =>
   some (((Centre.mk x2.1.Belt x2.1.Chutes x2.1.Inlets x2.1.Plan x2.1.Now), x6.1)))
theorem fit53 : codeFit Try.prog Try.f53.ntmps (Try.f53.body.getD .skip) ir53 = true := by kernel_rfl
theorem c_S_DrawTicksToDrain {g : G} {t : TE} {a0 : List Int} {r : Centre × Int} (hg : g = G.real) (ht : t = TE.real) (h : S_DrawTicksToDrain g t a0 = some r) : Fn Try.prog 53 [.c (.s 1 (t.r_U8 a0))] (.u [.g (Centre.ds t r.1), .c (.r (.v (.int .i64 r.2)))]) := by
  obtain ⟨X, hX⟩ := hide (.u [.g (Centre.ds t r.1), .c (.r (.v (.int .i64 r.2)))] : X)
  rw [← hX]
  refine fn_of (rvs := rv53) (j := ir53) Try.func53 rfl fit53 (Nat.le_of_ble_eq_true rfl) (by kernel_rfl) prog_mixed ?_
  intro g2 F hg2 hF
  obtain rfl : g2 = g := hg2.unique.trans hg.symm
  clear hg2
  obtain ⟨wrap, lt, le, eq, quo, rem, band, bor, bxor, shl, shr, nat, int, add, sub, mul, cat, seq, slt, sub3, byte, llen, nadd, nsub, dlen, dapp, dset, drep, rd, rda, up, rsub, dsub, all, sle, slen, hasI, putI, hasS, putS, imin, imax, fzc⟩ := g2
  obtain ⟨r_Item, d_Item, r_Chute, d_Chute, r_Inlet, d_Inlet, r_I64, d_I64, r_U8, d_U8, d_InletF⟩ := t
  unfold S_DrawTicksToDrain at h
  try dsimp only at h
  cbv
  obtain ⟨x1, hx1, h⟩ := of_lP h
  obtain ⟨x1_b, x1_i, x1_h⟩ := x1
  try dsimp only at h
  refine ACall.mk _ _ rfl (hF _ _ _ (c_S_l1New hg ht hx1)) (.inl rfl) (Nat.le_of_ble_eq_true rfl) ?_
  cbv
  obtain ⟨x2, hx2, h⟩ := of_cl h
  obtain ⟨⟨x2_1_Belt, x2_1_Chutes, x2_1_Inlets, x2_1_Plan, x2_1_Now⟩, ⟨x2_2_b, x2_2_i, x2_2_h⟩⟩ := x2
  try dsimp only at h
  refine ACallM.mk _ _ _ _ rfl rfl (hF _ _ _ (c_S_l7Any hg ht hx2)) rfl (Nat.le_of_ble_eq_true rfl) (Nat.le_of_ble_eq_true rfl) ?_
  cbv
  obtain ⟨x3, hx3, h⟩ := of_cl h
  obtain ⟨x3_1, ⟨x3_2_b, x3_2_i, x3_2_h⟩⟩ := x3
  try dsimp only at h
  refine ACallM.mk _ _ _ _ rfl rfl (hF _ _ _ (c_S_l1Once hg ht hx3)) rfl (Nat.le_of_ble_eq_true rfl) (Nat.le_of_ble_eq_true rfl) ?_
  cbv
  cases hb1 : x3_1 with
  | true =>
    rw [br_true hb1] at h
    cbv
    obtain ⟨x4, hx4, h⟩ := of_cl h
    obtain ⟨⟨x4_1_Belt, x4_1_Chutes, x4_1_Inlets, x4_1_Plan, x4_1_Now⟩, ⟨x4_2_b, x4_2_i, x4_2_h⟩⟩ := x4
    try dsimp only at h
    refine ACallM.mk _ _ _ _ rfl rfl (hF _ _ _ (c_S_l7Full hg ht hx4)) rfl (Nat.le_of_ble_eq_true rfl) (Nat.le_of_ble_eq_true rfl) ?_
    cbv
    obtain ⟨l1, hl1, h⟩ := of_lP h
    try dsimp only at h
    refine AVal.mk (r_I64 l1) (by rw [← hl1]; exact litr_I64 hg ht [0, 3, 10, 40, 100, 1000, 1001, (-1)]) ?_
    cbv
    obtain ⟨x5, hx5, h⟩ := of_cl h
    obtain ⟨x5_1, ⟨x5_2_b, x5_2_i, x5_2_h⟩⟩ := x5
    try dsimp only at h
    refine ACallM.mk _ _ _ _ rfl rfl (hF _ _ _ (c_S_l1Int hg ht hx5)) rfl (Nat.le_of_ble_eq_true rfl) (Nat.le_of_ble_eq_true rfl) ?_
    cbv
    obtain rfl := Option.some.inj h
    exact ARet.mk ⟨⟨rfl, (dlen_Item hg ht _)⟩, ⟨⟨rfl, (dlen_Chute hg ht _)⟩, ⟨⟨rfl, (dlen_Inlet hg ht _)⟩, ⟨rfl, (dlen_I64 hg ht _)⟩⟩⟩⟩ hX.symm
  | false =>
    rw [br_false hb1] at h
    cbv
    obtain ⟨l2, hl2, h⟩ := of_lP h
    try dsimp only at h
    refine AVal.mk (r_I64 l2) (by rw [← hl2]; exact litr_I64 hg ht [0, 3, 10, 40, 100, 1000, 1001, (-1)]) ?_
    cbv
    obtain ⟨x6, hx6, h⟩ := of_cl h
    obtain ⟨x6_1, ⟨x6_2_b, x6_2_i, x6_2_h⟩⟩ := x6
    try dsimp only at h
    refine ACallM.mk _ _ _ _ rfl rfl (hF _ _ _ (c_S_l1Int hg ht hx6)) rfl (Nat.le_of_ble_eq_true rfl) (Nat.le_of_ble_eq_true rfl) ?_
    cbv
    obtain rfl := Option.some.inj h
    exact ARet.mk ⟨⟨rfl, (dlen_Item hg ht _)⟩, ⟨⟨rfl, (dlen_Chute hg ht _)⟩, ⟨⟨rfl, (dlen_Inlet hg ht _)⟩, ⟨rfl, (dlen_I64 hg ht _)⟩⟩⟩⟩ hX.symm
end Go.Vs
