/- Part of the proofs of this seat's laws: Lab. No condition. -/
import Derived.Test.YtieeagobedjogaaTy
import Derived.Test.YtieeagobedjogaaTIRall
set_option linter.unusedVariables false
set_option linter.unusedSimpArgs false
set_option linter.unusedSectionVars false
namespace Go.Vs
set_option maxRecDepth 100000
def ir91 : J :=
  .seq (.reg none [⟨(some 2), none, .mv (.k (.c .un))⟩] [0])
  (.seq (.reg none [⟨(some 5), none, .mv (.t 0)⟩,
     ⟨(some 6), none, .len false (.t 5)⟩,
     ⟨(some 7), none, .bin .mul .i (.k (V.i 3)) (.t 6)⟩,
     ⟨(some 8), none, .bin .add .i (.k (V.i 744201)) (.t 7)⟩,
     ⟨(some 3), none, .mv (.t 8)⟩] [0, 3])
  (.seq (.seq (.reg none [⟨(some 4), none, .mv (.k (V.i 0))⟩] [0, 3, 4])
   (.bl 0 (.seq (.seq (.reg none [⟨(some 9), none, .mv (.t 4)⟩,
        ⟨(some 10), none, .mv (.t 0)⟩,
        ⟨(some 11), none, .len false (.t 10)⟩,
        ⟨(some 12), none, .bin .lss .i (.t 9) (.t 11)⟩,
        ⟨(some 13), none, .mv (.t 12)⟩,
        ⟨(some 14), (some (13, true)), .mv (.t 4)⟩,
        ⟨(some 15), (some (13, true)), .bin .lss .i (.t 14) (.k (V.i 4000))⟩,
        ⟨(some 16), none, .pick (.t 13) (.t 15) (.k (V.b false))⟩] [0, 3, 4, 16])
     (.cond (.t 16)
      (.skip)
      (.exit 0)))
    (.seq (.block 1 (.reg none [⟨(some 19), none, .mv (.t 3)⟩,
        ⟨(some 20), none, .bin .mul .i (.t 19) (.k (V.i 167))⟩,
        ⟨(some 21), none, .mv (.t 0)⟩,
        ⟨(some 22), none, .mv (.t 4)⟩,
        ⟨(some 23), none, .ia 1 (.t 21) (.t 22)⟩,
        ⟨(some 24), none, .ld false 1 (.t 23)⟩,
        ⟨(some 25), none, .cvt .i64 (.t 24)⟩,
        ⟨(some 26), none, .bin .add .i (.t 20) (.t 25)⟩,
        ⟨(some 27), none, .bin .add .i (.t 26) (.k (V.i 29))⟩,
        ⟨(some 28), none, .bin .and .i (.t 27) (.k (V.i 1073741823))⟩,
        ⟨(some 3), none, .mv (.t 28)⟩] [0, 3, 4]))
    (.reg none [⟨(some 17), none, .mv (.t 4)⟩,
      ⟨(some 18), none, .bin .add .i (.t 17) (.k (V.i 1))⟩,
      ⟨(some 4), none, .mv (.t 18)⟩] [0, 3, 4])))))
  (.seq (.reg none [⟨(some 29), none, .mv (.t 0)⟩,
     ⟨(some 30), none, .mv (.t 3)⟩,
     ⟨(some 31), none, .bld [.n 1, .r (.v (.int .i64 0)), .r (.v (.int .i64 0))] [(0, 1, (.t 29)), (2, 1, (.t 30))]⟩,
     ⟨(some 32), none, .box (.t 31)⟩,
     ⟨(some 2), none, .mv (.t 32)⟩] [2])
  (.ret))))
def rv91 : List RV := [.t 2]
open Go.Proofs Go.IntWalk
set_option linter.unusedVariables false
set_option maxRecDepth 100000
set_option maxHeartbeats 4000000
def S_l1New_l1 (g : G) (t : TE) : List Int → Int → Int → Int
  | [], v2, v1 =>
    v1
  | z1 :: ls1, v2, v1 =>
    br (g.lt v2 4000)
    (
     S_l1New_l1 g t ls1 (g.wrap .i64 (g.add v2 1)) (g.band .i64 (g.wrap .i64 (g.add (g.wrap .i64 (g.add (g.wrap .i64 (g.mul v1 167)) (g.wrap .i64 z1))) 29)) 1073741823))
    (
     v1)
def S_l1New (g : G) (t : TE) (a0 : List Int) : Cur :=
  lP (S_l1New_l1 g t a0 0 (g.wrap .i64 (g.add 744201 (g.wrap .i64 (g.mul 3 (g.llen (t.r_U8 a0))))))) fun y1 =>
  (Cur.mk a0 0 y1)
theorem fit91 : codeFit Try.prog Try.f91.ntmps (Try.f91.body.getD .skip) ir91 = true := by kernel_rfl
theorem c_S_l1New {g : G} {t : TE} {a0 : List Int} {r : Cur} (hg : g = G.real) (ht : t = TE.real) (h : S_l1New g t a0 = r) : Fn Try.prog 91 [.c (.s 1 (t.r_U8 a0))] (.p (Cur.ds t r)) := by
  obtain ⟨X, hX⟩ := hide (.p (Cur.ds t r) : X)
  rw [← hX]
  refine fn_of (rvs := rv91) (j := ir91) Try.func91 rfl fit91 (Nat.le_of_ble_eq_true rfl) (by kernel_rfl) prog_mixed ?_
  intro g2 F hg2 hF
  obtain rfl : g2 = g := hg2.unique.trans hg.symm
  clear hg2
  obtain ⟨wrap, lt, le, eq, quo, rem, band, bor, bxor, shl, shr, nat, int, add, sub, mul, cat, seq, slt, sub3, byte, llen, nadd, nsub, dlen, dapp, dset, drep, rd, rda, up, rsub, dsub, all, sle, slen, hasI, putI, hasS, putS, imin, imax, fzc⟩ := g2
  obtain ⟨r_Item, d_Item, r_Chute, d_Chute, r_Inlet, d_Inlet, r_I64, d_I64, r_U8, d_U8, d_InletF⟩ := t
  unfold S_l1New at h
  try dsimp only at h
  cbv
  obtain ⟨o1, ho1, h⟩ := of_lP h
  try dsimp only at h
  try rw [hg] at ho1
  try rw [ht] at ho1
  refine ABL.mk { p : Nat × Int × Int // p.1 ≤ a0.length ∧ p.2.1 = ((p.1 : Nat) : Int) ∧ S_l1New_l1 G.real TE.real (List.drop p.1 a0) p.2.1 p.2.2 = o1 } (fun ⟨⟨k1, v2, v1⟩, _⟩ => ({ sl := [(0, .c (.r (.s 1 (r_U8 a0)))), (3, .c (.r (.v (.int .i64 v1)))), (4, .c (.r (.v (.int .i64 v2))))], tab := [] } : St)) 0 (fun p => a0.length - p.1.1) ⟨(0, 0, (wrap .i64 (add 744201 (wrap .i64 (mul 3 (llen (r_U8 a0))))))), Nat.zero_le _, rfl, ho1⟩ (Int) (fun y1 => ({ sl := [(0, .c (.r (.s 1 (r_U8 a0)))), (3, .c (.r (.v (.int .i64 y1))))], tab := [] } : St)) 0 (fun y => o1 = y) ?_ ?_ ?_
  · refine Wk.of [] rfl rfl ?_ ?_
    · cbv
      all_goals exact ⟨⟨_, rfl, rfl⟩, ⟨_, rfl, rfl⟩, ⟨_, rfl, rfl⟩, trivial⟩
    · cbv
      all_goals exact trivial
  · rintro ⟨⟨k1, v2, v1⟩, hk1, hi1, h_1⟩ hq1
    have hm1 := (hq1.1 0 _ _ rfl)
    try dsimp only at hk1 hi1 h_1
    clear hq1
    cbv
    by_cases hc1_ : k1 < a0.length
    · have hb1 : lt v2 (llen (r_U8 a0)) = true := ltL_true_U8 hg ht hi1 hc1_
      have hs1 := stepL_U8 hg ht hi1 hc1_ hm1
      obtain ⟨z1, hz1⟩ := some_of_lt hc1_
      rw [drop_of_some hz1] at h_1
      rw [S_l1New_l1] at h_1
      try rw [← hg] at h_1
      try rw [← ht] at h_1
      try dsimp only at h_1
      rw [hb1]
      cbv
      try (rw [hb1]; cbv)
      try (rw [hb1]; cbv)
      cases hb2 : (lt v2 4000) with
      | true =>
        rw [br_true hb2] at h_1
        cbv
        refine AStep.mk (nn_L hi1) ?_
        cbv
        refine AGet.mk _ (r_getL_U8 hg ht hi1 hz1) ?_
        cbv
        try rw [hg] at h_1
        try rw [ht] at h_1
        refine ⟨⟨(k1 + 1, (wrap .i64 (add v2 1)), (band .i64 (wrap .i64 (add (wrap .i64 (add (wrap .i64 (mul v1 167)) (wrap .i64 z1))) 29)) 1073741823)), hc1_, hs1, h_1⟩, Wk.of [] rfl rfl ?_ ?_, meas_L hc1_⟩
        · cbv
          all_goals exact ⟨⟨_, rfl, rfl⟩, ⟨_, rfl, rfl⟩, ⟨_, rfl, rfl⟩, trivial⟩
        · cbv
          all_goals exact trivial
      | false =>
        rw [br_false hb2] at h_1
        cbv
        refine ⟨v1, Wk.of [] rfl rfl ?_ ?_, h_1.symm⟩
        · cbv
          all_goals exact ⟨⟨_, rfl, rfl⟩, ⟨_, rfl, rfl⟩, trivial⟩
        · cbv
          all_goals exact trivial
    · have hb1 : lt v2 (llen (r_U8 a0)) = false := ltL_false_U8 hg ht hi1 hc1_
      rw [List.drop_of_length_le (Nat.le_of_not_lt hc1_)] at h_1
      rw [S_l1New_l1] at h_1
      try rw [← hg] at h_1
      try rw [← ht] at h_1
      try dsimp only at h_1
      rw [hb1]
      cbv
      try (rw [hb1]; cbv)
      try (rw [hb1]; cbv)
      refine ⟨v1, Wk.of [] rfl rfl ?_ ?_, h_1.symm⟩
      · cbv
        all_goals exact ⟨⟨_, rfl, rfl⟩, ⟨_, rfl, rfl⟩, trivial⟩
      · cbv
        all_goals exact trivial
  · rintro y1 hy1
    replace hy1 := hy1.symm
    subst hy1
    try dsimp only [lr, lrL, lrp, lrpL] at h
    cbv
    subst h
    exact ARet.mk trivial hX.symm
end Go.Vs
namespace Go.Vs
set_option maxRecDepth 100000
def ir119 : J :=
  .seq (.reg none [⟨(some 2), none, .mv (.k (V.i 0))⟩] [0])
  (.seq (.reg none [⟨(some 4), none, .mv (.t 0)⟩,
     ⟨(some 5), none, .mv (.t 0)⟩,
     ⟨(some 6), none, .nilc (.t 5)⟩,
     ⟨(some 7), none, .fa 2 (.t 6)⟩,
     ⟨(some 8), none, .ld false 1 (.t 7)⟩,
     ⟨(some 9), none, .bin .mul .i (.t 8) (.k (V.i 6364136223846793005))⟩,
     ⟨(some 10), none, .bin .add .i (.t 9) (.k (V.i 1442695040888963407))⟩,
     ⟨(some 11), none, .nilc (.t 4)⟩,
     ⟨(some 12), none, .fa 2 (.t 11)⟩,
     ⟨none, none, .st 1 (.t 12) (.t 10)⟩] [0])
  (.seq (.reg (some [[], [0], [0, 1], [0, 1, 2], [0, 1, 2, 3], [], [5], [5, 6], [5, 6, 7], [5, 6, 7, 8], [0, 1, 2, 3, 4, 5, 6, 7, 8, 9], [0, 1, 2, 3, 4, 5, 6, 7, 8, 9, 10], [0, 1, 2, 3, 4, 5, 6, 7, 8, 9, 10, 11]]) [⟨(some 13), none, .mv (.t 0)⟩,
     ⟨(some 14), none, .nilc (.t 13)⟩,
     ⟨(some 15), none, .fa 2 (.t 14)⟩,
     ⟨(some 16), none, .ld false 1 (.t 15)⟩,
     ⟨(some 17), none, .bin .shr .i (.t 16) (.k (.c (.r (.v (.int .u64 35)))))⟩,
     ⟨(some 18), none, .mv (.t 0)⟩,
     ⟨(some 19), none, .nilc (.t 18)⟩,
     ⟨(some 20), none, .fa 2 (.t 19)⟩,
     ⟨(some 21), none, .ld false 1 (.t 20)⟩,
     ⟨(some 22), none, .bin .shr .i (.t 21) (.k (.c (.r (.v (.int .u64 45)))))⟩,
     ⟨(some 23), none, .bin .xor .i (.t 17) (.t 22)⟩,
     ⟨(some 24), none, .bin .and .i (.t 23) (.k (V.i 255))⟩,
     ⟨(some 3), none, .mv (.t 24)⟩] [0, 3])
  (.seq (.seq (.reg (some [[], [0], [0, 1], [0, 1, 2], [], [4], [4, 5], [4, 5, 6], [4, 5, 6, 7], [0, 1, 2, 3, 4, 5, 6, 7, 8]]) [⟨(some 25), none, .mv (.t 0)⟩,
      ⟨(some 26), none, .nilc (.t 25)⟩,
      ⟨(some 27), none, .fa 1 (.t 26)⟩,
      ⟨(some 28), none, .ld false 1 (.t 27)⟩,
      ⟨(some 29), none, .mv (.t 0)⟩,
      ⟨(some 30), none, .nilc (.t 29)⟩,
      ⟨(some 31), none, .fa 0 (.t 30)⟩,
      ⟨(some 32), none, .ld false 1 (.t 31)⟩,
      ⟨(some 33), none, .len false (.t 32)⟩,
      ⟨(some 34), none, .bin .lss .i (.t 28) (.t 33)⟩] [0, 3, 34])
   (.cond (.t 34)
    (.seq (.reg (some [[], [], [1], [1, 2], [1, 2, 3], [], [5], [5, 6], [5, 6, 7], [1, 2, 3, 4, 5, 6, 7, 8], [1, 2, 3, 4, 5, 6, 7, 8, 9], [1, 2, 3, 4, 5, 6, 7, 8, 9, 10], [0, 1, 2, 3, 4, 5, 6, 7, 8, 9, 10, 11], [0, 1, 2, 3, 4, 5, 6, 7, 8, 9, 10, 11, 12], [0, 1, 2, 3, 4, 5, 6, 7, 8, 9, 10, 11, 12, 13]]) [⟨(some 35), none, .mv (.t 3)⟩,
        ⟨(some 36), none, .mv (.t 0)⟩,
        ⟨(some 37), none, .nilc (.t 36)⟩,
        ⟨(some 38), none, .fa 0 (.t 37)⟩,
        ⟨(some 39), none, .ld false 1 (.t 38)⟩,
        ⟨(some 40), none, .mv (.t 0)⟩,
        ⟨(some 41), none, .nilc (.t 40)⟩,
        ⟨(some 42), none, .fa 1 (.t 41)⟩,
        ⟨(some 43), none, .ld false 1 (.t 42)⟩,
        ⟨(some 44), none, .ia 1 (.t 39) (.t 43)⟩,
        ⟨(some 45), none, .ld false 1 (.t 44)⟩,
        ⟨(some 46), none, .cvt .i64 (.t 45)⟩,
        ⟨(some 47), none, .bin .add .i (.t 35) (.t 46)⟩,
        ⟨(some 48), none, .bin .and .i (.t 47) (.k (V.i 255))⟩,
        ⟨(some 3), none, .mv (.t 48)⟩] [0, 3])
     (.reg none [⟨(some 49), none, .mv (.t 0)⟩,
       ⟨(some 50), none, .mv (.t 0)⟩,
       ⟨(some 51), none, .nilc (.t 50)⟩,
       ⟨(some 52), none, .fa 1 (.t 51)⟩,
       ⟨(some 53), none, .ld false 1 (.t 52)⟩,
       ⟨(some 54), none, .bin .add .i (.t 53) (.k (V.i 1))⟩,
       ⟨(some 55), none, .nilc (.t 49)⟩,
       ⟨(some 56), none, .fa 1 (.t 55)⟩,
       ⟨none, none, .st 1 (.t 56) (.t 54)⟩] [3]))
    (.skip)))
  (.seq (.reg none [⟨(some 57), none, .mv (.t 3)⟩,
     ⟨(some 2), none, .mv (.t 57)⟩] [2])
  (.ret)))))
def rv119 : List RV := [.t 2]
open Go.Proofs Go.IntWalk
set_option linter.unusedVariables false
set_option maxRecDepth 100000
set_option maxHeartbeats 4000000
def S_l1Byte (g : G) (t : TE) (a0 : Cur) : Option (Int × Cur) :=
  br (g.lt a0.i (g.llen (t.r_U8 a0.b)))
  (
   gd (((0 : Int) ≤ a0.i)) <|
   gt a0.b (g.nat a0.i) fun x1 =>
   some (((g.band .i64 (g.wrap .i64 (g.add (g.band .i64 (g.bxor .i64 (g.shr .i64 (g.wrap .i64 (g.add (g.wrap .i64 (g.mul a0.h 6364136223846793005)) 1442695040888963407)) 35) (g.shr .i64 (g.wrap .i64 (g.add (g.wrap .i64 (g.mul a0.h 6364136223846793005)) 1442695040888963407)) 45)) 255) (g.wrap .i64 x1))) 255), (Cur.mk a0.b (g.wrap .i64 (g.add a0.i 1)) (g.wrap .i64 (g.add (g.wrap .i64 (g.mul a0.h 6364136223846793005)) 1442695040888963407))))))
  (
   some (((g.band .i64 (g.bxor .i64 (g.shr .i64 (g.wrap .i64 (g.add (g.wrap .i64 (g.mul a0.h 6364136223846793005)) 1442695040888963407)) 35) (g.shr .i64 (g.wrap .i64 (g.add (g.wrap .i64 (g.mul a0.h 6364136223846793005)) 1442695040888963407)) 45)) 255), (Cur.mk a0.b a0.i (g.wrap .i64 (g.add (g.wrap .i64 (g.mul a0.h 6364136223846793005)) 1442695040888963407))))))
theorem fit119 : codeFit Try.prog Try.f119.ntmps (Try.f119.body.getD .skip) ir119 = true := by kernel_rfl
theorem c_S_l1Byte {g : G} {t : TE} {a0 : Cur} {r : Int × Cur} (hg : g = G.real) (ht : t = TE.real) (h : S_l1Byte g t a0 = some r) : FnM Try.prog 119 (.p (Cur.ds t a0)) [] (.c (.r (.v (.int .i64 r.1)))) (.p (Cur.ds t r.2)) := by
  obtain ⟨X, hX⟩ := hide (.c (.r (.v (.int .i64 r.1))) : X)
  obtain ⟨Y, hY⟩ := hide (.p (Cur.ds t r.2) : AM)
  rw [← hX, ← hY]
  refine fnM_of (rvs := rv119) (j := ir119) Try.func119 rfl fit119 (Nat.le_of_ble_eq_true rfl) (by kernel_rfl) prog_mixed ?_
  intro g2 F hg2 hF
  obtain rfl : g2 = g := hg2.unique.trans hg.symm
  clear hg2
  obtain ⟨wrap, lt, le, eq, quo, rem, band, bor, bxor, shl, shr, nat, int, add, sub, mul, cat, seq, slt, sub3, byte, llen, nadd, nsub, dlen, dapp, dset, drep, rd, rda, up, rsub, dsub, all, sle, slen, hasI, putI, hasS, putS, imin, imax, fzc⟩ := g2
  obtain ⟨r_Item, d_Item, r_Chute, d_Chute, r_Inlet, d_Inlet, r_I64, d_I64, r_U8, d_U8, d_InletF⟩ := t
  obtain ⟨a0_b, a0_i, a0_h⟩ := a0
  unfold S_l1Byte at h
  try dsimp only at h
  cbv
  refine AStep.mk (by decide) ?_
  cbv
  refine AStep.mk (by decide) ?_
  cbv
  cases hb1 : (lt a0_i (llen (r_U8 a0_b))) with
  | true =>
    rw [br_true hb1] at h
    cbv
    obtain ⟨hc1, h⟩ := of_gd h
    refine AStep.mk hc1 ?_
    cbv
    obtain ⟨x1, hx1, h⟩ := of_gt h
    try dsimp only at h
    refine AGet.mk _ (r_get_U8 hg ht hx1) ?_
    cbv
    obtain rfl := Option.some.inj h
    exact ARetM.mk trivial hX.symm hY.symm
  | false =>
    rw [br_false hb1] at h
    cbv
    obtain rfl := Option.some.inj h
    exact ARetM.mk trivial hX.symm hY.symm
end Go.Vs
namespace Go.Vs
set_option maxRecDepth 100000
def ir101 : J :=
  .seq (.reg none [⟨(some 4), none, .mv (.k (V.i 0))⟩] [0, 1])
  (.seq (.seq (.reg none [⟨(some 8), none, .mv (.t 1)⟩,
      ⟨(some 9), none, .bin .leq .i (.t 8) (.k (V.i 0))⟩] [0, 1, 9])
   (.cond (.t 9)
    (.seq (.reg none [⟨(some 4), none, .mv (.k (V.i 0))⟩] [4])
     (.ret))
    (.skip)))
  (.seq (.seq (.reg none [⟨(some 10), none, .mv (.t 1)⟩,
      ⟨(some 11), none, .bin .leq .i (.t 10) (.k (V.i 256))⟩] [0, 1, 11])
   (.cond (.t 11)
    (.seq (.reg none [⟨(some 12), none, .mv (.t 0)⟩,
        ⟨(some 13), none, .callm 119 (.t 12) []⟩,
        ⟨(some 14), none, .mv (.t 1)⟩,
        ⟨(some 15), none, .bin .rem .i (.t 13) (.t 14)⟩,
        ⟨(some 4), none, .mv (.t 15)⟩] [4])
     (.ret))
    (.skip)))
  (.seq (.reg none [⟨(some 16), none, .mv (.t 0)⟩,
     ⟨(some 17), none, .callm 119 (.t 16) []⟩,
     ⟨(some 5), none, .mv (.t 17)⟩] [0, 1, 5])
  (.seq (.reg none [⟨(some 18), none, .mv (.t 0)⟩,
     ⟨(some 19), none, .callm 119 (.t 18) []⟩,
     ⟨(some 6), none, .mv (.t 19)⟩] [0, 1, 5, 6])
  (.seq (.reg none [⟨(some 20), none, .mv (.t 0)⟩,
     ⟨(some 21), none, .callm 119 (.t 20) []⟩,
     ⟨(some 7), none, .mv (.t 21)⟩] [1, 5, 6, 7])
  (.seq (.reg none [⟨(some 22), none, .mv (.t 5)⟩,
     ⟨(some 23), none, .bin .mul .i (.t 22) (.k (V.i 65536))⟩,
     ⟨(some 24), none, .mv (.t 6)⟩,
     ⟨(some 25), none, .bin .mul .i (.t 24) (.k (V.i 256))⟩,
     ⟨(some 26), none, .bin .add .i (.t 23) (.t 25)⟩,
     ⟨(some 27), none, .mv (.t 7)⟩,
     ⟨(some 28), none, .bin .add .i (.t 26) (.t 27)⟩,
     ⟨(some 29), none, .mv (.t 1)⟩,
     ⟨(some 30), none, .bin .rem .i (.t 28) (.t 29)⟩,
     ⟨(some 4), none, .mv (.t 30)⟩] [4])
  (.ret)))))))
def rv101 : List RV := [.t 4]
open Go.Proofs Go.IntWalk
set_option linter.unusedVariables false
set_option maxRecDepth 100000
set_option maxHeartbeats 4000000
def S_l1Below (g : G) (t : TE) (a0 : Cur) (a1 : Int) : Option (Int × Cur) :=
  br (g.le a1 0)
  (
   some ((0, a0)))
  (
   br (g.le a1 256)
   (
    cl (S_l1Byte g t a0) fun x1 =>
    gd ((a1 ≠ 0)) <|
    some (((g.rem x1.1 a1), (Cur.mk x1.2.b x1.2.i x1.2.h))))
   (
    cl (S_l1Byte g t a0) fun x2 =>
    cl (S_l1Byte g t (Cur.mk x2.2.b x2.2.i x2.2.h)) fun x3 =>
    cl (S_l1Byte g t (Cur.mk x3.2.b x3.2.i x3.2.h)) fun x4 =>
    gd ((a1 ≠ 0)) <|
    some (((g.rem (g.wrap .i64 (g.add (g.wrap .i64 (g.add (g.wrap .i64 (g.mul x2.1 65536)) (g.wrap .i64 (g.mul x3.1 256)))) x4.1)) a1), (Cur.mk x4.2.b x4.2.i x4.2.h)))))
theorem fit101 : codeFit Try.prog Try.f101.ntmps (Try.f101.body.getD .skip) ir101 = true := by kernel_rfl
theorem c_S_l1Below {g : G} {t : TE} {a0 : Cur} {a1 : Int} {r : Int × Cur} (hg : g = G.real) (ht : t = TE.real) (h : S_l1Below g t a0 a1 = some r) : FnM Try.prog 101 (.p (Cur.ds t a0)) [.c (.v (.int .i64 a1))] (.c (.r (.v (.int .i64 r.1)))) (.p (Cur.ds t r.2)) := by
  obtain ⟨X, hX⟩ := hide (.c (.r (.v (.int .i64 r.1))) : X)
  obtain ⟨Y, hY⟩ := hide (.p (Cur.ds t r.2) : AM)
  rw [← hX, ← hY]
  refine fnM_of (rvs := rv101) (j := ir101) Try.func101 rfl fit101 (Nat.le_of_ble_eq_true rfl) (by kernel_rfl) prog_mixed ?_
  intro g2 F hg2 hF
  obtain rfl : g2 = g := hg2.unique.trans hg.symm
  clear hg2
  obtain ⟨wrap, lt, le, eq, quo, rem, band, bor, bxor, shl, shr, nat, int, add, sub, mul, cat, seq, slt, sub3, byte, llen, nadd, nsub, dlen, dapp, dset, drep, rd, rda, up, rsub, dsub, all, sle, slen, hasI, putI, hasS, putS, imin, imax, fzc⟩ := g2
  obtain ⟨r_Item, d_Item, r_Chute, d_Chute, r_Inlet, d_Inlet, r_I64, d_I64, r_U8, d_U8, d_InletF⟩ := t
  obtain ⟨a0_b, a0_i, a0_h⟩ := a0
  unfold S_l1Below at h
  try dsimp only at h
  cbv
  cases hb1 : (le a1 0) with
  | true =>
    rw [br_true hb1] at h
    cbv
    obtain rfl := Option.some.inj h
    exact ARetM.mk trivial hX.symm hY.symm
  | false =>
    rw [br_false hb1] at h
    cbv
    cases hb2 : (le a1 256) with
    | true =>
      rw [br_true hb2] at h
      cbv
      obtain ⟨x1, hx1, h⟩ := of_cl h
      obtain ⟨x1_1, ⟨x1_2_b, x1_2_i, x1_2_h⟩⟩ := x1
      try dsimp only at h
      refine ACallM.mk _ _ _ _ rfl rfl (hF _ _ _ (c_S_l1Byte hg ht hx1)) rfl (Nat.le_of_ble_eq_true rfl) (Nat.le_of_ble_eq_true rfl) ?_
      cbv
      obtain ⟨hc1, h⟩ := of_gd h
      refine AStep.mk hc1 ?_
      cbv
      obtain rfl := Option.some.inj h
      exact ARetM.mk trivial hX.symm hY.symm
    | false =>
      rw [br_false hb2] at h
      cbv
      obtain ⟨x2, hx2, h⟩ := of_cl h
      obtain ⟨x2_1, ⟨x2_2_b, x2_2_i, x2_2_h⟩⟩ := x2
      try dsimp only at h
      refine ACallM.mk _ _ _ _ rfl rfl (hF _ _ _ (c_S_l1Byte hg ht hx2)) rfl (Nat.le_of_ble_eq_true rfl) (Nat.le_of_ble_eq_true rfl) ?_
      cbv
      obtain ⟨x3, hx3, h⟩ := of_cl h
      obtain ⟨x3_1, ⟨x3_2_b, x3_2_i, x3_2_h⟩⟩ := x3
      try dsimp only at h
      refine ACallM.mk _ _ _ _ rfl rfl (hF _ _ _ (c_S_l1Byte hg ht hx3)) rfl (Nat.le_of_ble_eq_true rfl) (Nat.le_of_ble_eq_true rfl) ?_
      cbv
      obtain ⟨x4, hx4, h⟩ := of_cl h
      obtain ⟨x4_1, ⟨x4_2_b, x4_2_i, x4_2_h⟩⟩ := x4
      try dsimp only at h
      refine ACallM.mk _ _ _ _ rfl rfl (hF _ _ _ (c_S_l1Byte hg ht hx4)) rfl (Nat.le_of_ble_eq_true rfl) (Nat.le_of_ble_eq_true rfl) ?_
      cbv
      obtain ⟨hc2, h⟩ := of_gd h
      refine AStep.mk hc2 ?_
      cbv
      obtain rfl := Option.some.inj h
      exact ARetM.mk trivial hX.symm hY.symm
end Go.Vs
namespace Go.Vs
set_option maxRecDepth 100000
def ir93 : J :=
  .seq (.reg none [⟨(some 4), none, .mv (.k (V.i 0))⟩] [0, 1])
  (.seq (.reg none [⟨(some 5), none, .mv (.t 1)⟩,
     ⟨(some 6), none, .mv (.t 0)⟩,
     ⟨(some 7), none, .mv (.t 1)⟩,
     ⟨(some 8), none, .len false (.t 7)⟩,
     ⟨(some 9), none, .callm 101 (.t 6) [(.t 8)]⟩,
     ⟨(some 10), none, .ia 1 (.t 5) (.t 9)⟩,
     ⟨(some 11), none, .ld false 1 (.t 10)⟩,
     ⟨(some 4), none, .mv (.t 11)⟩] [4])
  (.ret))
def rv93 : List RV := [.t 4]
open Go.Proofs Go.IntWalk
set_option linter.unusedVariables false
set_option maxRecDepth 100000
set_option maxHeartbeats 4000000
def S_l1Int (g : G) (t : TE) (a0 : Cur) (a1 : List Int) : Option (Int × Cur) :=
  cl (S_l1Below g t a0 (g.llen (t.r_I64 a1))) fun x1 =>
  gd (((0 : Int) ≤ x1.1)) <|
  gt a1 (g.nat x1.1) fun x2 =>
  some ((x2, (Cur.mk x1.2.b x1.2.i x1.2.h)))
theorem fit93 : codeFit Try.prog Try.f93.ntmps (Try.f93.body.getD .skip) ir93 = true := by kernel_rfl
theorem c_S_l1Int {g : G} {t : TE} {a0 : Cur} {a1 : List Int} {r : Int × Cur} (hg : g = G.real) (ht : t = TE.real) (h : S_l1Int g t a0 a1 = some r) : FnM Try.prog 93 (.p (Cur.ds t a0)) [.c (.s 1 (t.r_I64 a1))] (.c (.r (.v (.int .i64 r.1)))) (.p (Cur.ds t r.2)) := by
  obtain ⟨X, hX⟩ := hide (.c (.r (.v (.int .i64 r.1))) : X)
  obtain ⟨Y, hY⟩ := hide (.p (Cur.ds t r.2) : AM)
  rw [← hX, ← hY]
  refine fnM_of (rvs := rv93) (j := ir93) Try.func93 rfl fit93 (Nat.le_of_ble_eq_true rfl) (by kernel_rfl) prog_mixed ?_
  intro g2 F hg2 hF
  obtain rfl : g2 = g := hg2.unique.trans hg.symm
  clear hg2
  obtain ⟨wrap, lt, le, eq, quo, rem, band, bor, bxor, shl, shr, nat, int, add, sub, mul, cat, seq, slt, sub3, byte, llen, nadd, nsub, dlen, dapp, dset, drep, rd, rda, up, rsub, dsub, all, sle, slen, hasI, putI, hasS, putS, imin, imax, fzc⟩ := g2
  obtain ⟨r_Item, d_Item, r_Chute, d_Chute, r_Inlet, d_Inlet, r_I64, d_I64, r_U8, d_U8, d_InletF⟩ := t
  obtain ⟨a0_b, a0_i, a0_h⟩ := a0
  unfold S_l1Int at h
  try dsimp only at h
  cbv
  obtain ⟨x1, hx1, h⟩ := of_cl h
  obtain ⟨x1_1, ⟨x1_2_b, x1_2_i, x1_2_h⟩⟩ := x1
  try dsimp only at h
  refine ACallM.mk _ _ _ _ rfl rfl (hF _ _ _ (c_S_l1Below hg ht hx1)) rfl (Nat.le_of_ble_eq_true rfl) (Nat.le_of_ble_eq_true rfl) ?_
  cbv
  obtain ⟨hc1, h⟩ := of_gd h
  refine AStep.mk hc1 ?_
  cbv
  obtain ⟨x2, hx2, h⟩ := of_gt h
  try dsimp only at h
  refine AGet.mk _ (r_get_I64 hg ht hx2) ?_
  cbv
  obtain rfl := Option.some.inj h
  exact ARetM.mk trivial hX.symm hY.symm
end Go.Vs
namespace Go.Vs
set_option maxRecDepth 100000
def ir85 : J :=
  .seq (.reg none [⟨(some 6), none, .mv (.k (V.b false))⟩] [0, 1, 2])
  (.seq (.reg none [⟨(some 7), none, .mv (.t 0)⟩,
     ⟨(some 8), none, .mv (.t 1)⟩,
     ⟨(some 9), none, .bin .geq .i (.t 7) (.t 8)⟩,
     ⟨(some 10), none, .mv (.t 9)⟩,
     ⟨(some 11), (some (10, true)), .mv (.t 0)⟩,
     ⟨(some 12), (some (10, true)), .mv (.t 2)⟩,
     ⟨(some 13), (some (10, true)), .bin .leq .i (.t 11) (.t 12)⟩,
     ⟨(some 14), none, .pick (.t 10) (.t 13) (.k (V.b false))⟩,
     ⟨(some 6), none, .mv (.t 14)⟩] [6])
  (.ret))
def rv85 : List RV := [.t 6]
open Go.Proofs Go.IntWalk
set_option linter.unusedVariables false
set_option maxRecDepth 100000
set_option maxHeartbeats 4000000
def S_l1In (g : G) (t : TE) (a0 : Int) (a1 : Int) (a2 : Int) : Bool :=
  br (g.le a1 a0)
  (
   (g.le a0 a2))
  (
   false)
theorem fit85 : codeFit Try.prog Try.f85.ntmps (Try.f85.body.getD .skip) ir85 = true := by kernel_rfl
theorem c_S_l1In {g : G} {t : TE} {a0 : Int} {a1 : Int} {a2 : Int} {r : Bool} (hg : g = G.real) (ht : t = TE.real) (h : S_l1In g t a0 a1 a2 = r) : Fn Try.prog 85 [.c (.v (.int .i64 a0)), .c (.v (.int .i64 a1)), .c (.v (.int .i64 a2))] (.c (.r (.v (.bool r)))) := by
  obtain ⟨X, hX⟩ := hide (.c (.r (.v (.bool r))) : X)
  rw [← hX]
  refine fn_of (rvs := rv85) (j := ir85) Try.func85 rfl fit85 (Nat.le_of_ble_eq_true rfl) (by kernel_rfl) prog_mixed ?_
  intro g2 F hg2 hF
  obtain rfl : g2 = g := hg2.unique.trans hg.symm
  clear hg2
  obtain ⟨wrap, lt, le, eq, quo, rem, band, bor, bxor, shl, shr, nat, int, add, sub, mul, cat, seq, slt, sub3, byte, llen, nadd, nsub, dlen, dapp, dset, drep, rd, rda, up, rsub, dsub, all, sle, slen, hasI, putI, hasS, putS, imin, imax, fzc⟩ := g2
  obtain ⟨r_Item, d_Item, r_Chute, d_Chute, r_Inlet, d_Inlet, r_I64, d_I64, r_U8, d_U8, d_InletF⟩ := t
  unfold S_l1In at h
  try dsimp only at h
  cbv
  cases hb1 : (le a1 a0) with
  | true =>
    rw [br_true hb1] at h
    cbv
    try (rw [hb1]; cbv)
    try (rw [hb1]; cbv)
    try (rw [hb1]; cbv)
    subst h
    exact ARet.mk trivial hX.symm
  | false =>
    rw [br_false hb1] at h
    cbv
    try (rw [hb1]; cbv)
    try (rw [hb1]; cbv)
    try (rw [hb1]; cbv)
    subst h
    exact ARet.mk trivial hX.symm
end Go.Vs
namespace Go.Vs
set_option maxRecDepth 100000
def ir86 : J :=
  .seq (.reg none [⟨(some 1), none, .box (.t 0)⟩,
     ⟨(some 2), none, .mv (.k (V.b false))⟩] [1])
  (.seq (.seq (.reg none [⟨(some 3), none, .mv (.k (V.i 0))⟩] [1, 3])
   (.bl 0 (.seq (.seq (.reg none [⟨(some 10), none, .mv (.t 3)⟩,
        ⟨(some 11), none, .fa 1 (.t 1)⟩,
        ⟨(some 12), none, .ld false 1 (.t 11)⟩,
        ⟨(some 13), none, .len false (.t 12)⟩,
        ⟨(some 14), none, .bin .lss .i (.t 10) (.t 13)⟩] [1, 3, 14])
     (.cond (.t 14)
      (.skip)
      (.exit 0)))
    (.seq (.block 1 (.seq (.reg none [⟨(some 17), none, .fa 1 (.t 1)⟩,
         ⟨(some 18), none, .ld false 1 (.t 17)⟩,
         ⟨(some 19), none, .mv (.t 3)⟩,
         ⟨(some 20), none, .ia 3 (.t 18) (.t 19)⟩,
         ⟨(some 21), none, .ld true 3 (.t 20)⟩,
         ⟨(some 4), none, .alloc [.r (.v (.int .i64 0)), .r (.v (.int .i64 0)), .n 2]⟩,
         ⟨none, none, .st 3 (.t 4) (.t 21)⟩] [1, 3, 4])
      (.seq (.seq (.reg none [⟨(some 22), none, .fa 0 (.t 4)⟩,
          ⟨(some 23), none, .ld false 1 (.t 22)⟩,
          ⟨(some 24), none, .fa 0 (.t 1)⟩,
          ⟨(some 25), none, .ld false 1 (.t 24)⟩,
          ⟨(some 26), none, .len false (.t 25)⟩,
          ⟨(some 27), none, .bin .sub .i (.t 26) (.k (V.i 1))⟩,
          ⟨(some 28), none, .call 85 true [(.t 23), (.k (V.i 0)), (.t 27)]⟩,
          ⟨(some 29), none, .not (.t 28)⟩,
          ⟨(some 30), none, .mv (.t 29)⟩,
          ⟨(some 31), (some (30, false)), .fa 1 (.t 4)⟩,
          ⟨(some 32), (some (30, false)), .ld false 1 (.t 31)⟩,
          ⟨(some 33), (some (30, false)), .call 85 true [(.t 32), (.k (V.i 1)), (.k (V.i 20))]⟩,
          ⟨(some 34), (some (30, false)), .not (.t 33)⟩,
          ⟨(some 35), none, .pick (.t 30) (.k (V.b true)) (.t 34)⟩,
          ⟨(some 36), none, .mv (.t 35)⟩,
          ⟨(some 37), (some (36, false)), .fa 2 (.t 4)⟩,
          ⟨(some 38), (some (36, false)), .ld false 1 (.t 37)⟩,
          ⟨(some 39), (some (36, false)), .len false (.t 38)⟩,
          ⟨(some 40), (some (36, false)), .fa 1 (.t 4)⟩,
          ⟨(some 41), (some (36, false)), .ld false 1 (.t 40)⟩,
          ⟨(some 42), (some (36, false)), .bin .gtr .i (.t 39) (.t 41)⟩,
          ⟨(some 43), none, .pick (.t 36) (.k (V.b true)) (.t 42)⟩] [1, 3, 4, 43])
       (.cond (.t 43)
        (.seq (.reg none [⟨(some 2), none, .mv (.k (V.b false))⟩] [2])
         (.ret))
        (.skip)))
      (.seq (.reg none [⟨(some 5), none, .mv (.k (V.i 0))⟩] [1, 3, 4, 5])
      (.bl 2 (.seq (.seq (.reg none [⟨(some 44), none, .mv (.t 5)⟩,
           ⟨(some 45), none, .mv (.t 3)⟩,
           ⟨(some 46), none, .bin .lss .i (.t 44) (.t 45)⟩] [1, 3, 4, 5, 46])
        (.cond (.t 46)
         (.skip)
         (.exit 2)))
       (.seq (.block 3 (.seq (.reg (some [[], [0], [], [0, 1, 2], [0, 1, 2, 3], [0, 1, 2, 3, 4], [], [6], [0, 1, 2, 3, 4, 5, 6, 7]]) [⟨(some 49), none, .fa 1 (.t 1)⟩,
            ⟨(some 50), none, .ld false 1 (.t 49)⟩,
            ⟨(some 51), none, .mv (.t 5)⟩,
            ⟨(some 52), none, .ia 3 (.t 50) (.t 51)⟩,
            ⟨(some 53), none, .fa 0 (.t 52)⟩,
            ⟨(some 54), none, .ld false 1 (.t 53)⟩,
            ⟨(some 55), none, .fa 0 (.t 4)⟩,
            ⟨(some 56), none, .ld false 1 (.t 55)⟩,
            ⟨(some 57), none, .bin .eql .i (.t 54) (.t 56)⟩] [1, 3, 4, 5, 57])
         (.cond (.t 57)
          (.seq (.reg none [⟨(some 2), none, .mv (.k (V.b false))⟩] [2])
           (.ret))
          (.skip))))
       (.reg none [⟨(some 47), none, .mv (.t 5)⟩,
         ⟨(some 48), none, .bin .add .i (.t 47) (.k (V.i 1))⟩,
         ⟨(some 5), none, .mv (.t 48)⟩] [1, 3, 4, 5]))))))))
    (.reg none [⟨(some 15), none, .mv (.t 3)⟩,
      ⟨(some 16), none, .bin .add .i (.t 15) (.k (V.i 1))⟩,
      ⟨(some 3), none, .mv (.t 16)⟩] [1, 3])))))
  (.seq (.seq (.reg none [⟨(some 6), none, .mv (.k (V.i 0))⟩] [1, 6])
   (.bl 4 (.seq (.seq (.reg none [⟨(some 58), none, .mv (.t 6)⟩,
        ⟨(some 59), none, .fa 2 (.t 1)⟩,
        ⟨(some 60), none, .ld false 1 (.t 59)⟩,
        ⟨(some 61), none, .len false (.t 60)⟩,
        ⟨(some 62), none, .bin .lss .i (.t 58) (.t 61)⟩] [1, 6, 62])
     (.cond (.t 62)
      (.skip)
      (.exit 4)))
    (.seq (.block 5 (.seq (.reg none [⟨(some 65), none, .fa 2 (.t 1)⟩,
         ⟨(some 66), none, .ld false 1 (.t 65)⟩,
         ⟨(some 67), none, .mv (.t 6)⟩,
         ⟨(some 68), none, .ia 2 (.t 66) (.t 67)⟩,
         ⟨(some 69), none, .ld true 2 (.t 68)⟩,
         ⟨(some 7), none, .alloc [.r (.v (.int .i64 0)), .n 2]⟩,
         ⟨none, none, .st 2 (.t 7) (.t 69)⟩] [1, 6, 7])
      (.seq (.seq (.reg none [⟨(some 70), none, .fa 0 (.t 7)⟩,
          ⟨(some 71), none, .ld false 1 (.t 70)⟩,
          ⟨(some 72), none, .fa 0 (.t 1)⟩,
          ⟨(some 73), none, .ld false 1 (.t 72)⟩,
          ⟨(some 74), none, .len false (.t 73)⟩,
          ⟨(some 75), none, .bin .sub .i (.t 74) (.k (V.i 1))⟩,
          ⟨(some 76), none, .call 85 true [(.t 71), (.k (V.i 0)), (.t 75)]⟩,
          ⟨(some 77), none, .not (.t 76)⟩,
          ⟨(some 78), none, .mv (.t 77)⟩,
          ⟨(some 79), (some (78, false)), .fa 1 (.t 7)⟩,
          ⟨(some 80), (some (78, false)), .ld false 1 (.t 79)⟩,
          ⟨(some 81), (some (78, false)), .len false (.t 80)⟩,
          ⟨(some 82), (some (78, false)), .bin .gtr .i (.t 81) (.k (V.i 20))⟩,
          ⟨(some 83), none, .pick (.t 78) (.k (V.b true)) (.t 82)⟩] [1, 6, 7, 83])
       (.cond (.t 83)
        (.seq (.reg none [⟨(some 2), none, .mv (.k (V.b false))⟩] [2])
         (.ret))
        (.skip)))
      (.seq (.reg none [⟨(some 8), none, .mv (.k (V.i 0))⟩] [1, 6, 7, 8])
      (.bl 6 (.seq (.seq (.reg none [⟨(some 84), none, .mv (.t 8)⟩,
           ⟨(some 85), none, .mv (.t 6)⟩,
           ⟨(some 86), none, .bin .lss .i (.t 84) (.t 85)⟩] [1, 6, 7, 8, 86])
        (.cond (.t 86)
         (.skip)
         (.exit 6)))
       (.seq (.block 7 (.seq (.reg (some [[], [0], [], [0, 1, 2], [0, 1, 2, 3], [0, 1, 2, 3, 4], [], [6], [0, 1, 2, 3, 4, 5, 6, 7]]) [⟨(some 89), none, .fa 2 (.t 1)⟩,
            ⟨(some 90), none, .ld false 1 (.t 89)⟩,
            ⟨(some 91), none, .mv (.t 8)⟩,
            ⟨(some 92), none, .ia 2 (.t 90) (.t 91)⟩,
            ⟨(some 93), none, .fa 0 (.t 92)⟩,
            ⟨(some 94), none, .ld false 1 (.t 93)⟩,
            ⟨(some 95), none, .fa 0 (.t 7)⟩,
            ⟨(some 96), none, .ld false 1 (.t 95)⟩,
            ⟨(some 97), none, .bin .eql .i (.t 94) (.t 96)⟩] [1, 6, 7, 8, 97])
         (.cond (.t 97)
          (.seq (.reg none [⟨(some 2), none, .mv (.k (V.b false))⟩] [2])
           (.ret))
          (.skip))))
       (.reg none [⟨(some 87), none, .mv (.t 8)⟩,
         ⟨(some 88), none, .bin .add .i (.t 87) (.k (V.i 1))⟩,
         ⟨(some 8), none, .mv (.t 88)⟩] [1, 6, 7, 8]))))))))
    (.reg none [⟨(some 63), none, .mv (.t 6)⟩,
      ⟨(some 64), none, .bin .add .i (.t 63) (.k (V.i 1))⟩,
      ⟨(some 6), none, .mv (.t 64)⟩] [1, 6])))))
  (.seq (.seq (.reg none [⟨(some 9), none, .mv (.k (V.i 0))⟩] [1, 9])
   (.bl 8 (.seq (.seq (.reg none [⟨(some 98), none, .mv (.t 9)⟩,
        ⟨(some 99), none, .fa 3 (.t 1)⟩,
        ⟨(some 100), none, .ld false 1 (.t 99)⟩,
        ⟨(some 101), none, .len false (.t 100)⟩,
        ⟨(some 102), none, .bin .lss .i (.t 98) (.t 101)⟩] [1, 9, 102])
     (.cond (.t 102)
      (.skip)
      (.exit 8)))
    (.seq (.block 9 (.seq (.reg (some [[], [0], [], [0, 1, 2], [0, 1, 2, 3], [], [5], [5, 6], [5, 6, 7], [0, 1, 2, 3, 4, 5, 6, 7, 8], [0, 1, 2, 3, 4, 5, 6, 7, 8, 9]]) [⟨(some 105), none, .fa 3 (.t 1)⟩,
         ⟨(some 106), none, .ld false 1 (.t 105)⟩,
         ⟨(some 107), none, .mv (.t 9)⟩,
         ⟨(some 108), none, .ia 1 (.t 106) (.t 107)⟩,
         ⟨(some 109), none, .ld false 1 (.t 108)⟩,
         ⟨(some 110), none, .fa 1 (.t 1)⟩,
         ⟨(some 111), none, .ld false 1 (.t 110)⟩,
         ⟨(some 112), none, .len false (.t 111)⟩,
         ⟨(some 113), none, .bin .sub .i (.t 112) (.k (V.i 1))⟩,
         ⟨(some 114), none, .call 85 true [(.t 109), (.k (V.i 0)), (.t 113)]⟩,
         ⟨(some 115), none, .not (.t 114)⟩] [1, 9, 115])
      (.cond (.t 115)
       (.seq (.reg none [⟨(some 2), none, .mv (.k (V.b false))⟩] [2])
        (.ret))
       (.skip))))
    (.reg none [⟨(some 103), none, .mv (.t 9)⟩,
      ⟨(some 104), none, .bin .add .i (.t 103) (.k (V.i 1))⟩,
      ⟨(some 9), none, .mv (.t 104)⟩] [1, 9])))))
  (.seq (.reg none [⟨(some 116), none, .fa 1 (.t 1)⟩,
     ⟨(some 117), none, .ld false 1 (.t 116)⟩,
     ⟨(some 118), none, .len false (.t 117)⟩,
     ⟨(some 119), none, .call 85 true [(.t 118), (.k (V.i 1)), (.k (V.i 6))]⟩,
     ⟨(some 120), none, .mv (.t 119)⟩,
     ⟨(some 121), (some (120, true)), .fa 2 (.t 1)⟩,
     ⟨(some 122), (some (120, true)), .ld false 1 (.t 121)⟩,
     ⟨(some 123), (some (120, true)), .len false (.t 122)⟩,
     ⟨(some 124), (some (120, true)), .call 85 true [(.t 123), (.k (V.i 1)), (.k (V.i 4))]⟩,
     ⟨(some 125), none, .pick (.t 120) (.t 124) (.k (V.b false))⟩,
     ⟨(some 126), none, .mv (.t 125)⟩,
     ⟨(some 127), (some (126, true)), .fa 3 (.t 1)⟩,
     ⟨(some 128), (some (126, true)), .ld false 1 (.t 127)⟩,
     ⟨(some 129), (some (126, true)), .len false (.t 128)⟩,
     ⟨(some 130), (some (126, true)), .call 85 true [(.t 129), (.k (V.i 1)), (.k (V.i 8))]⟩,
     ⟨(some 131), none, .pick (.t 126) (.t 130) (.k (V.b false))⟩,
     ⟨(some 2), none, .mv (.t 131)⟩] [2])
  (.ret)))))
def rv86 : List RV := [.t 2]
open Go.Proofs Go.IntWalk
set_option linter.unusedVariables false
set_option maxRecDepth 100000
set_option maxHeartbeats 4000000
def S_l7Parts_l5 (g : G) (t : TE) (a0 : Centre) : List Int → LR Bool Unit
  | [] =>
    (LR.out ())
  | z5 :: ls5 =>
    lP (S_l1In g t z5 0 (g.wrap .i64 (g.sub (g.llen (t.r_Chute a0.Chutes)) 1))) fun x6 =>
    br x6
    (
     S_l7Parts_l5 g t a0 ls5)
    (
     (LR.ret false))
def S_l7Parts_l4 (g : G) (t : TE) (a0 : Centre) (z3 : Inlet) : Nat → Int → Option (LR Bool Unit)
  | 0, v4 =>
    some (LR.out ())
  | n4 + 1, v4 =>
    gt a0.Inlets (g.nat v4) fun x5 =>
    br (g.eq x5.Cell z3.Cell)
    (
     some (LR.ret false))
    (
     S_l7Parts_l4 g t a0 z3 n4 (g.wrap .i64 (g.add v4 1)))
def S_l7Parts_l3 (g : G) (t : TE) (a0 : Centre) : List Inlet → Int → Option (LR Bool Unit)
  | [], v3 =>
    some (LR.out ())
  | z3 :: ls3, v3 =>
    lP (S_l1In g t z3.Cell 0 (g.wrap .i64 (g.sub (g.llen (t.r_Item a0.Belt)) 1))) fun x4 =>
    br x4
    (
     br (g.lt 20 (g.llen (t.r_Item z3.Wait)))
     (
      some (LR.ret false))
     (
      gd ((v3 ≤ 4611686018427387904)) <|
      cl (S_l7Parts_l4 g t a0 z3 (cntLt 0 v3) 0) fun o4 => lrL o4 fun y3 =>
      S_l7Parts_l3 g t a0 ls3 (g.wrap .i64 (g.add v3 1))))
    (
     some (LR.ret false))
def S_l7Parts_l2 (g : G) (t : TE) (a0 : Centre) (z1 : Chute) : Nat → Int → Option (LR Bool Unit)
  | 0, v2 =>
    some (LR.out ())
  | n2 + 1, v2 =>
    gt a0.Chutes (g.nat v2) fun x3 =>
    br (g.eq x3.Cell z1.Cell)
    (
     some (LR.ret false))
    (
     S_l7Parts_l2 g t a0 z1 n2 (g.wrap .i64 (g.add v2 1)))
def S_l7Parts_l1 (g : G) (t : TE) (a0 : Centre) : List Chute → Int → Option (LR Bool Unit)
  | [], v1 =>
    some (LR.out ())
  | z1 :: ls1, v1 =>
    lP (S_l1In g t z1.Cell 0 (g.wrap .i64 (g.sub (g.llen (t.r_Item a0.Belt)) 1))) fun x1 =>
    br x1
    (
     lP (S_l1In g t z1.Room 1 20) fun x2 =>
     br x2
     (
      br (g.lt z1.Room (g.llen (t.r_Item z1.Held)))
      (
       some (LR.ret false))
      (
       gd ((v1 ≤ 4611686018427387904)) <|
       cl (S_l7Parts_l2 g t a0 z1 (cntLt 0 v1) 0) fun o2 => lrL o2 fun y1 =>
       S_l7Parts_l1 g t a0 ls1 (g.wrap .i64 (g.add v1 1))))
     (
      some (LR.ret false)))
    (
     some (LR.ret false))
def S_l7Parts (g : G) (t : TE) (a0 : Centre) : Option Bool :=
  cl (S_l7Parts_l1 g t a0 a0.Chutes 0) fun o1 => lr o1 fun y2 =>
  cl (S_l7Parts_l3 g t a0 a0.Inlets 0) fun o3 => lr o3 fun y4 =>
  lP (S_l7Parts_l5 g t a0 a0.Plan) fun o5 => lr o5 fun y5 =>
  lP (S_l1In g t (g.llen (t.r_Chute a0.Chutes)) 1 6) fun x7 =>
  br x7
  (
   lP (S_l1In g t (g.llen (t.r_Inlet a0.Inlets)) 1 4) fun x8 =>
   br x8
   (
    lP (S_l1In g t (g.llen (t.r_I64 a0.Plan)) 1 8) fun x9 =>
    some x9)
   (
    some false))
  (
   some false)
theorem fit86 : codeFit Try.prog Try.f86.ntmps (Try.f86.body.getD .skip) ir86 = true := by kernel_rfl
theorem c_S_l7Parts {g : G} {t : TE} {a0 : Centre} {r : Bool} (hg : g = G.real) (ht : t = TE.real) (h : S_l7Parts g t a0 = some r) : Fn Try.prog 86 [.g (Centre.rs t a0)] (.c (.r (.v (.bool r)))) := by
  obtain ⟨X, hX⟩ := hide (.c (.r (.v (.bool r))) : X)
  rw [← hX]
  refine fn_of (rvs := rv86) (j := ir86) Try.func86 rfl fit86 (Nat.le_of_ble_eq_true rfl) (by kernel_rfl) prog_mixed ?_
  intro g2 F hg2 hF
  obtain rfl : g2 = g := hg2.unique.trans hg.symm
  clear hg2
  obtain ⟨wrap, lt, le, eq, quo, rem, band, bor, bxor, shl, shr, nat, int, add, sub, mul, cat, seq, slt, sub3, byte, llen, nadd, nsub, dlen, dapp, dset, drep, rd, rda, up, rsub, dsub, all, sle, slen, hasI, putI, hasS, putS, imin, imax, fzc⟩ := g2
  obtain ⟨r_Item, d_Item, r_Chute, d_Chute, r_Inlet, d_Inlet, r_I64, d_I64, r_U8, d_U8, d_InletF⟩ := t
  obtain ⟨a0_Belt, a0_Chutes, a0_Inlets, a0_Plan, a0_Now⟩ := a0
  unfold S_l7Parts at h
  try dsimp only at h
  cbv
  obtain ⟨o1, ho1, h⟩ := of_cl h
  try dsimp only at h
  try rw [hg] at ho1
  try rw [ht] at ho1
  refine ABL.mk { p : Nat × Int // p.1 ≤ a0_Chutes.length ∧ p.2 = ((p.1 : Nat) : Int) ∧ S_l7Parts_l1 G.real TE.real (Centre.mk a0_Belt a0_Chutes a0_Inlets a0_Plan a0_Now) (List.drop p.1 a0_Chutes) p.2 = some o1 } (fun ⟨⟨k1, v1⟩, _⟩ => ({ sl := [(1, .c (.p 0 5 0 0)), (3, .c (.r (.v (.int .i64 v1))))], tab := [(0, some (.foc 5 [] [.r (.s 2 (r_Item a0_Belt)), .r (.s 3 (r_Chute a0_Chutes)), .r (.s 2 (r_Inlet a0_Inlets)), .r (.s 1 (r_I64 a0_Plan)), .r (.v (.int .i64 a0_Now))] []))] } : St)) 1 (fun p => a0_Chutes.length - p.1.1) ⟨(0, 0), Nat.zero_le _, rfl, ho1⟩ (Unit) (fun _ => ({ sl := [(1, .c (.p 0 5 0 0))], tab := [(0, some (.foc 5 [] [.r (.s 2 (r_Item a0_Belt)), .r (.s 3 (r_Chute a0_Chutes)), .r (.s 2 (r_Inlet a0_Inlets)), .r (.s 1 (r_I64 a0_Plan)), .r (.v (.int .i64 a0_Now))] []))] } : St)) 1 (fun y => o1 = LR.out y) ?_ ?_ ?_
  · refine Wk.of [(0, some 0)] rfl rfl ?_ ?_
    · cbv
      all_goals exact ⟨⟨_, rfl, rfl⟩, ⟨_, rfl, rfl⟩, trivial⟩
    · cbv
      all_goals exact ⟨⟨_, rfl, _, rfl, rfl, rfl, rfl, rfl, rfl, trivial⟩, trivial⟩
  · rintro ⟨⟨k1, v1⟩, hk1, hi1, h_1⟩ hq1
    have hm1 := (hq1.2.2.1 0 _ _ _ _ 1 _ _ rfl rfl)
    try dsimp only at hk1 hi1 h_1
    clear hq1
    cbv
    by_cases hc1_ : k1 < a0_Chutes.length
    · have hb1 : lt v1 (llen (r_Chute a0_Chutes)) = true := ltL_true_Chute hg ht hi1 hc1_
      have hs1 := stepL_Chute hg ht hi1 hc1_ hm1
      obtain ⟨z1, hz1⟩ := some_of_lt hc1_
      rw [drop_of_some hz1] at h_1
      rw [S_l7Parts_l1] at h_1
      obtain ⟨z1_Cell, z1_Room, z1_Held⟩ := z1
      try rw [← hg] at h_1
      try rw [← ht] at h_1
      try dsimp only at h_1
      rw [hb1]
      cbv
      refine AStep.mk (nn_L hi1) ?_
      cbv
      refine AGet.mk _ (r_getL_Chute hg ht hi1 hz1) ?_
      cbv
      obtain ⟨x1, hx1, h_1⟩ := of_lP h_1
      try dsimp only at h_1
      refine ACall.mk _ _ rfl (hF _ _ _ (c_S_l1In hg ht hx1)) (.inl rfl) (Nat.le_of_ble_eq_true rfl) ?_
      cbv
      cases hb2 : x1 with
      | true =>
        rw [br_true hb2] at h_1
        cbv
        try (rw [hb2]; cbv)
        try (rw [hb2]; cbv)
        obtain ⟨x2, hx2, h_1⟩ := of_lP h_1
        try dsimp only at h_1
        refine ACall.mk _ _ rfl (hF _ _ _ (c_S_l1In hg ht hx2)) (.inl rfl) (Nat.le_of_ble_eq_true rfl) ?_
        cbv
        try (rw [hb2]; cbv)
        try (rw [hb2]; cbv)
        cases hb3 : x2 with
        | true =>
          rw [br_true hb3] at h_1
          cbv
          try (rw [hb3]; cbv)
          try (rw [hb3]; cbv)
          try (rw [hb3]; cbv)
          try (rw [hb3]; cbv)
          try (rw [hb3]; cbv)
          try (rw [hb3]; cbv)
          cases hb4 : (lt z1_Room (llen (r_Item z1_Held))) with
          | true =>
            rw [br_true hb4] at h_1
            cbv
            obtain rfl := Option.some.inj h_1
            try dsimp only [lr, lrL, lrp, lrpL] at h
            obtain rfl := Option.some.inj h
            exact ARet.mk trivial hX.symm
          | false =>
            rw [br_false hb4] at h_1
            cbv
            obtain ⟨hB2, h_1⟩ := of_gd h_1
            obtain ⟨o2, ho2, h_1⟩ := of_cl h_1
            try dsimp only at h_1
            try rw [hg] at ho2
            try rw [ht] at ho2
            refine ABL.mk { p : Nat × Int // p.1 = cntLt p.2 v1 ∧ 0 ≤ p.2 ∧ S_l7Parts_l2 G.real TE.real (Centre.mk a0_Belt a0_Chutes a0_Inlets a0_Plan a0_Now) (Chute.mk z1_Cell z1_Room z1_Held) p.1 p.2 = some o2 } (fun ⟨⟨n2, v2⟩, _⟩ => ({ sl := [(1, .c (.p 0 5 0 0)), (3, .c (.r (.v (.int .i64 v1)))), (4, .c (.p 1 3 0 0)), (5, .c (.r (.v (.int .i64 v2))))], tab := [(0, some (.foc 5 [] [.r (.s 2 (r_Item a0_Belt)), .r (.s 3 (r_Chute a0_Chutes)), .r (.s 2 (r_Inlet a0_Inlets)), .r (.s 1 (r_I64 a0_Plan)), .r (.v (.int .i64 a0_Now))] [])), (1, some (.foc 3 [] [.r (.v (.int .i64 z1_Cell)), .r (.v (.int .i64 z1_Room)), .r (.s 2 (r_Item z1_Held))] []))] } : St)) 2 (fun p => p.1.1) ⟨(cntLt 0 v1, 0), rfl, Int.le_refl _, ho2⟩ (Unit) (fun _ => ({ sl := [(1, .c (.p 0 5 0 0)), (3, .c (.r (.v (.int .i64 v1))))], tab := [(0, some (.foc 5 [] [.r (.s 2 (r_Item a0_Belt)), .r (.s 3 (r_Chute a0_Chutes)), .r (.s 2 (r_Inlet a0_Inlets)), .r (.s 1 (r_I64 a0_Plan)), .r (.v (.int .i64 a0_Now))] []))] } : St)) 1 (fun y => o2 = LR.out y) ?_ ?_ ?_
            · refine Wk.of [(0, some 0), (1, some 161)] rfl rfl ?_ ?_
              · cbv
                all_goals exact ⟨⟨_, rfl, rfl⟩, ⟨_, rfl, rfl⟩, ⟨_, rfl, rfl⟩, ⟨_, rfl, rfl⟩, trivial⟩
              · cbv
                all_goals exact ⟨⟨_, rfl, _, rfl, rfl, rfl, rfl, rfl, rfl, trivial⟩, ⟨_, rfl, _, rfl, rfl, rfl, rfl, trivial⟩, trivial⟩
            · rintro ⟨⟨n2, v2⟩, hn2, hi2, h_2⟩ hq2
              try dsimp only at hn2 hi2 h_2
              clear hq2
              cbv
              rcases n2 with _ | n2
              · have hb5 : lt v2 v1 = false := ltC_false hg hn2
                rw [S_l7Parts_l2] at h_2
                try rw [← hg] at h_2
                try rw [← ht] at h_2
                try dsimp only at h_2
                rw [hb5]
                cbv
                refine ⟨(), Wk.of [(0, some 0)] rfl rfl ?_ ?_, (Option.some.inj h_2).symm⟩
                · cbv
                  all_goals exact ⟨⟨_, rfl, rfl⟩, ⟨_, rfl, rfl⟩, trivial⟩
                · cbv
                  all_goals exact ⟨⟨_, rfl, _, rfl, rfl, rfl, rfl, rfl, rfl, trivial⟩, trivial⟩
              · have hb5 : lt v2 v1 = true := ltC_true hg hn2
                have hl2 := ltC_le hn2
                have hs2 := stepltC hg hn2 hi2 hB2 (by decide)
                rw [S_l7Parts_l2] at h_2
                try rw [← hg] at h_2
                try rw [← ht] at h_2
                try dsimp only at h_2
                rw [hb5]
                cbv
                refine AStep.mk (nn_C hi2) ?_
                cbv
                obtain ⟨x3, hx3, h_2⟩ := of_gt h_2
                obtain ⟨x3_Cell, x3_Room, x3_Held⟩ := x3
                try dsimp only at h_2
                refine AGet.mk _ (r_get_Chute hg ht hx3) ?_
                cbv
                cases hb6 : (eq x3_Cell z1_Cell) with
                | true =>
                  rw [br_true hb6] at h_2
                  cbv
                  obtain rfl := Option.some.inj h_2
                  try dsimp only [lr, lrL, lrp, lrpL] at h_1
                  obtain rfl := Option.some.inj h_1
                  try dsimp only [lr, lrL, lrp, lrpL] at h
                  obtain rfl := Option.some.inj h
                  exact ARet.mk trivial hX.symm
                | false =>
                  rw [br_false hb6] at h_2
                  cbv
                  try rw [hg] at h_2
                  try rw [ht] at h_2
                  refine ⟨⟨(n2, (wrap .i64 (add v2 1))), hs2.1, hs2.2, h_2⟩, Wk.of [(0, some 0), (1, some 1)] rfl rfl ?_ ?_, Nat.lt_succ_self _⟩
                  · cbv
                    all_goals exact ⟨⟨_, rfl, rfl⟩, ⟨_, rfl, rfl⟩, ⟨_, rfl, rfl⟩, ⟨_, rfl, rfl⟩, trivial⟩
                  · cbv
                    all_goals exact ⟨⟨_, rfl, _, rfl, rfl, rfl, rfl, rfl, rfl, trivial⟩, ⟨_, rfl, _, rfl, rfl, rfl, rfl, trivial⟩, trivial⟩
            · rintro _ hy2
              replace hy2 := hy2.symm
              subst hy2
              try dsimp only [lr, lrL, lrp, lrpL] at h_1
              cbv
              try rw [hg] at h_1
              try rw [ht] at h_1
              refine ⟨⟨(k1 + 1, (wrap .i64 (add v1 1))), hc1_, hs1, h_1⟩, Wk.of [(0, some 0)] rfl rfl ?_ ?_, meas_L hc1_⟩
              · cbv
                all_goals exact ⟨⟨_, rfl, rfl⟩, ⟨_, rfl, rfl⟩, trivial⟩
              · cbv
                all_goals exact ⟨⟨_, rfl, _, rfl, rfl, rfl, rfl, rfl, rfl, trivial⟩, trivial⟩
        | false =>
          rw [br_false hb3] at h_1
          cbv
          try (rw [hb3]; cbv)
          try (rw [hb3]; cbv)
          try (rw [hb3]; cbv)
          try (rw [hb3]; cbv)
          try (rw [hb3]; cbv)
          try (rw [hb3]; cbv)
          obtain rfl := Option.some.inj h_1
          try dsimp only [lr, lrL, lrp, lrpL] at h
          obtain rfl := Option.some.inj h
          exact ARet.mk trivial hX.symm
      | false =>
        rw [br_false hb2] at h_1
        cbv
        try (rw [hb2]; cbv)
        try (rw [hb2]; cbv)
        try (rw [hb2]; cbv)
        try (rw [hb2]; cbv)
        obtain rfl := Option.some.inj h_1
        try dsimp only [lr, lrL, lrp, lrpL] at h
        obtain rfl := Option.some.inj h
        exact ARet.mk trivial hX.symm
    · have hb1 : lt v1 (llen (r_Chute a0_Chutes)) = false := ltL_false_Chute hg ht hi1 hc1_
      rw [List.drop_of_length_le (Nat.le_of_not_lt hc1_)] at h_1
      rw [S_l7Parts_l1] at h_1
      try rw [← hg] at h_1
      try rw [← ht] at h_1
      try dsimp only at h_1
      rw [hb1]
      cbv
      refine ⟨(), Wk.of [(0, some 0)] rfl rfl ?_ ?_, (Option.some.inj h_1).symm⟩
      · cbv
        all_goals exact ⟨⟨_, rfl, rfl⟩, trivial⟩
      · cbv
        all_goals exact ⟨⟨_, rfl, _, rfl, rfl, rfl, rfl, rfl, rfl, trivial⟩, trivial⟩
  · rintro _ hy1
    replace hy1 := hy1.symm
    subst hy1
    try dsimp only [lr, lrL, lrp, lrpL] at h
    cbv
    obtain ⟨o3, ho3, h⟩ := of_cl h
    try dsimp only at h
    try rw [hg] at ho3
    try rw [ht] at ho3
    refine ABL.mk { p : Nat × Int // p.1 ≤ a0_Inlets.length ∧ p.2 = ((p.1 : Nat) : Int) ∧ S_l7Parts_l3 G.real TE.real (Centre.mk a0_Belt a0_Chutes a0_Inlets a0_Plan a0_Now) (List.drop p.1 a0_Inlets) p.2 = some o3 } (fun ⟨⟨k3, v3⟩, _⟩ => ({ sl := [(1, .c (.p 0 5 0 0)), (6, .c (.r (.v (.int .i64 v3))))], tab := [(0, some (.foc 5 [] [.r (.s 2 (r_Item a0_Belt)), .r (.s 3 (r_Chute a0_Chutes)), .r (.s 2 (r_Inlet a0_Inlets)), .r (.s 1 (r_I64 a0_Plan)), .r (.v (.int .i64 a0_Now))] []))] } : St)) 1 (fun p => a0_Inlets.length - p.1.1) ⟨(0, 0), Nat.zero_le _, rfl, ho3⟩ (Unit) (fun _ => ({ sl := [(1, .c (.p 0 5 0 0))], tab := [(0, some (.foc 5 [] [.r (.s 2 (r_Item a0_Belt)), .r (.s 3 (r_Chute a0_Chutes)), .r (.s 2 (r_Inlet a0_Inlets)), .r (.s 1 (r_I64 a0_Plan)), .r (.v (.int .i64 a0_Now))] []))] } : St)) 1 (fun y => o3 = LR.out y) ?_ ?_ ?_
    · refine Wk.of [(0, some 0)] rfl rfl ?_ ?_
      · cbv
        all_goals exact ⟨⟨_, rfl, rfl⟩, ⟨_, rfl, rfl⟩, trivial⟩
      · cbv
        all_goals exact ⟨⟨_, rfl, _, rfl, rfl, rfl, rfl, rfl, rfl, trivial⟩, trivial⟩
    · rintro ⟨⟨k3, v3⟩, hk3, hi3, h_3⟩ hq3
      have hm3 := (hq3.2.2.1 0 _ _ _ _ 2 _ _ rfl rfl)
      try dsimp only at hk3 hi3 h_3
      clear hq3
      cbv
      by_cases hc3_ : k3 < a0_Inlets.length
      · have hb7 : lt v3 (llen (r_Inlet a0_Inlets)) = true := ltL_true_Inlet hg ht hi3 hc3_
        have hs3 := stepL_Inlet hg ht hi3 hc3_ hm3
        obtain ⟨z3, hz3⟩ := some_of_lt hc3_
        rw [drop_of_some hz3] at h_3
        rw [S_l7Parts_l3] at h_3
        obtain ⟨z3_Cell, z3_Wait⟩ := z3
        try rw [← hg] at h_3
        try rw [← ht] at h_3
        try dsimp only at h_3
        rw [hb7]
        cbv
        refine AStep.mk (nn_L hi3) ?_
        cbv
        refine AGet.mk _ (r_getL_Inlet hg ht hi3 hz3) ?_
        cbv
        obtain ⟨x4, hx4, h_3⟩ := of_lP h_3
        try dsimp only at h_3
        refine ACall.mk _ _ rfl (hF _ _ _ (c_S_l1In hg ht hx4)) (.inl rfl) (Nat.le_of_ble_eq_true rfl) ?_
        cbv
        cases hb8 : x4 with
        | true =>
          rw [br_true hb8] at h_3
          cbv
          try (rw [hb8]; cbv)
          try (rw [hb8]; cbv)
          try (rw [hb8]; cbv)
          try (rw [hb8]; cbv)
          cases hb9 : (lt 20 (llen (r_Item z3_Wait))) with
          | true =>
            rw [br_true hb9] at h_3
            cbv
            obtain rfl := Option.some.inj h_3
            try dsimp only [lr, lrL, lrp, lrpL] at h
            obtain rfl := Option.some.inj h
            exact ARet.mk trivial hX.symm
          | false =>
            rw [br_false hb9] at h_3
            cbv
            obtain ⟨hB4, h_3⟩ := of_gd h_3
            obtain ⟨o4, ho4, h_3⟩ := of_cl h_3
            try dsimp only at h_3
            try rw [hg] at ho4
            try rw [ht] at ho4
            refine ABL.mk { p : Nat × Int // p.1 = cntLt p.2 v3 ∧ 0 ≤ p.2 ∧ S_l7Parts_l4 G.real TE.real (Centre.mk a0_Belt a0_Chutes a0_Inlets a0_Plan a0_Now) (Inlet.mk z3_Cell z3_Wait) p.1 p.2 = some o4 } (fun ⟨⟨n4, v4⟩, _⟩ => ({ sl := [(1, .c (.p 0 5 0 0)), (6, .c (.r (.v (.int .i64 v3)))), (7, .c (.p 1 2 0 0)), (8, .c (.r (.v (.int .i64 v4))))], tab := [(0, some (.foc 5 [] [.r (.s 2 (r_Item a0_Belt)), .r (.s 3 (r_Chute a0_Chutes)), .r (.s 2 (r_Inlet a0_Inlets)), .r (.s 1 (r_I64 a0_Plan)), .r (.v (.int .i64 a0_Now))] [])), (1, some (.foc 2 [] [.r (.v (.int .i64 z3_Cell)), .r (.s 2 (r_Item z3_Wait))] []))] } : St)) 2 (fun p => p.1.1) ⟨(cntLt 0 v3, 0), rfl, Int.le_refl _, ho4⟩ (Unit) (fun _ => ({ sl := [(1, .c (.p 0 5 0 0)), (6, .c (.r (.v (.int .i64 v3))))], tab := [(0, some (.foc 5 [] [.r (.s 2 (r_Item a0_Belt)), .r (.s 3 (r_Chute a0_Chutes)), .r (.s 2 (r_Inlet a0_Inlets)), .r (.s 1 (r_I64 a0_Plan)), .r (.v (.int .i64 a0_Now))] []))] } : St)) 1 (fun y => o4 = LR.out y) ?_ ?_ ?_
            · refine Wk.of [(0, some 0), (1, some 161)] rfl rfl ?_ ?_
              · cbv
                all_goals exact ⟨⟨_, rfl, rfl⟩, ⟨_, rfl, rfl⟩, ⟨_, rfl, rfl⟩, ⟨_, rfl, rfl⟩, trivial⟩
              · cbv
                all_goals exact ⟨⟨_, rfl, _, rfl, rfl, rfl, rfl, rfl, rfl, trivial⟩, ⟨_, rfl, _, rfl, rfl, rfl, trivial⟩, trivial⟩
            · rintro ⟨⟨n4, v4⟩, hn4, hi4, h_4⟩ hq4
              try dsimp only at hn4 hi4 h_4
              clear hq4
              cbv
              rcases n4 with _ | n4
              · have hb10 : lt v4 v3 = false := ltC_false hg hn4
                rw [S_l7Parts_l4] at h_4
                try rw [← hg] at h_4
                try rw [← ht] at h_4
                try dsimp only at h_4
                rw [hb10]
                cbv
                refine ⟨(), Wk.of [(0, some 0)] rfl rfl ?_ ?_, (Option.some.inj h_4).symm⟩
                · cbv
                  all_goals exact ⟨⟨_, rfl, rfl⟩, ⟨_, rfl, rfl⟩, trivial⟩
                · cbv
                  all_goals exact ⟨⟨_, rfl, _, rfl, rfl, rfl, rfl, rfl, rfl, trivial⟩, trivial⟩
              · have hb10 : lt v4 v3 = true := ltC_true hg hn4
                have hl4 := ltC_le hn4
                have hs4 := stepltC hg hn4 hi4 hB4 (by decide)
                rw [S_l7Parts_l4] at h_4
                try rw [← hg] at h_4
                try rw [← ht] at h_4
                try dsimp only at h_4
                rw [hb10]
                cbv
                refine AStep.mk (nn_C hi4) ?_
                cbv
                obtain ⟨x5, hx5, h_4⟩ := of_gt h_4
                obtain ⟨x5_Cell, x5_Wait⟩ := x5
                try dsimp only at h_4
                refine AGet.mk _ (r_get_Inlet hg ht hx5) ?_
                cbv
                cases hb11 : (eq x5_Cell z3_Cell) with
                | true =>
                  rw [br_true hb11] at h_4
                  cbv
                  obtain rfl := Option.some.inj h_4
                  try dsimp only [lr, lrL, lrp, lrpL] at h_3
                  obtain rfl := Option.some.inj h_3
                  try dsimp only [lr, lrL, lrp, lrpL] at h
                  obtain rfl := Option.some.inj h
                  exact ARet.mk trivial hX.symm
                | false =>
                  rw [br_false hb11] at h_4
                  cbv
                  try rw [hg] at h_4
                  try rw [ht] at h_4
                  refine ⟨⟨(n4, (wrap .i64 (add v4 1))), hs4.1, hs4.2, h_4⟩, Wk.of [(0, some 0), (1, some 1)] rfl rfl ?_ ?_, Nat.lt_succ_self _⟩
                  · cbv
                    all_goals exact ⟨⟨_, rfl, rfl⟩, ⟨_, rfl, rfl⟩, ⟨_, rfl, rfl⟩, ⟨_, rfl, rfl⟩, trivial⟩
                  · cbv
                    all_goals exact ⟨⟨_, rfl, _, rfl, rfl, rfl, rfl, rfl, rfl, trivial⟩, ⟨_, rfl, _, rfl, rfl, rfl, trivial⟩, trivial⟩
            · rintro _ hy4
              replace hy4 := hy4.symm
              subst hy4
              try dsimp only [lr, lrL, lrp, lrpL] at h_3
              cbv
              try rw [hg] at h_3
              try rw [ht] at h_3
              refine ⟨⟨(k3 + 1, (wrap .i64 (add v3 1))), hc3_, hs3, h_3⟩, Wk.of [(0, some 0)] rfl rfl ?_ ?_, meas_L hc3_⟩
              · cbv
                all_goals exact ⟨⟨_, rfl, rfl⟩, ⟨_, rfl, rfl⟩, trivial⟩
              · cbv
                all_goals exact ⟨⟨_, rfl, _, rfl, rfl, rfl, rfl, rfl, rfl, trivial⟩, trivial⟩
        | false =>
          rw [br_false hb8] at h_3
          cbv
          try (rw [hb8]; cbv)
          try (rw [hb8]; cbv)
          try (rw [hb8]; cbv)
          try (rw [hb8]; cbv)
          obtain rfl := Option.some.inj h_3
          try dsimp only [lr, lrL, lrp, lrpL] at h
          obtain rfl := Option.some.inj h
          exact ARet.mk trivial hX.symm
      · have hb7 : lt v3 (llen (r_Inlet a0_Inlets)) = false := ltL_false_Inlet hg ht hi3 hc3_
        rw [List.drop_of_length_le (Nat.le_of_not_lt hc3_)] at h_3
        rw [S_l7Parts_l3] at h_3
        try rw [← hg] at h_3
        try rw [← ht] at h_3
        try dsimp only at h_3
        rw [hb7]
        cbv
        refine ⟨(), Wk.of [(0, some 0)] rfl rfl ?_ ?_, (Option.some.inj h_3).symm⟩
        · cbv
          all_goals exact ⟨⟨_, rfl, rfl⟩, trivial⟩
        · cbv
          all_goals exact ⟨⟨_, rfl, _, rfl, rfl, rfl, rfl, rfl, rfl, trivial⟩, trivial⟩
    · rintro _ hy3
      replace hy3 := hy3.symm
      subst hy3
      try dsimp only [lr, lrL, lrp, lrpL] at h
      cbv
      obtain ⟨o5, ho5, h⟩ := of_lP h
      try dsimp only at h
      try rw [hg] at ho5
      try rw [ht] at ho5
      refine ABL.mk { p : Nat × Int // p.1 ≤ a0_Plan.length ∧ p.2 = ((p.1 : Nat) : Int) ∧ S_l7Parts_l5 G.real TE.real (Centre.mk a0_Belt a0_Chutes a0_Inlets a0_Plan a0_Now) (List.drop p.1 a0_Plan) = o5 } (fun ⟨⟨k5, v5⟩, _⟩ => ({ sl := [(1, .c (.p 0 5 0 0)), (9, .c (.r (.v (.int .i64 v5))))], tab := [(0, some (.foc 5 [] [.r (.s 2 (r_Item a0_Belt)), .r (.s 3 (r_Chute a0_Chutes)), .r (.s 2 (r_Inlet a0_Inlets)), .r (.s 1 (r_I64 a0_Plan)), .r (.v (.int .i64 a0_Now))] []))] } : St)) 1 (fun p => a0_Plan.length - p.1.1) ⟨(0, 0), Nat.zero_le _, rfl, ho5⟩ (Unit) (fun _ => ({ sl := [(1, .c (.p 0 5 0 0))], tab := [(0, some (.foc 5 [] [.r (.s 2 (r_Item a0_Belt)), .r (.s 3 (r_Chute a0_Chutes)), .r (.s 2 (r_Inlet a0_Inlets)), .r (.s 1 (r_I64 a0_Plan)), .r (.v (.int .i64 a0_Now))] []))] } : St)) 1 (fun y => o5 = LR.out y) ?_ ?_ ?_
      · refine Wk.of [(0, some 0)] rfl rfl ?_ ?_
        · cbv
          all_goals exact ⟨⟨_, rfl, rfl⟩, ⟨_, rfl, rfl⟩, trivial⟩
        · cbv
          all_goals exact ⟨⟨_, rfl, _, rfl, rfl, rfl, rfl, rfl, rfl, trivial⟩, trivial⟩
      · rintro ⟨⟨k5, v5⟩, hk5, hi5, h_5⟩ hq5
        have hm5 := (hq5.2.2.1 0 _ _ _ _ 3 _ _ rfl rfl)
        try dsimp only at hk5 hi5 h_5
        clear hq5
        cbv
        by_cases hc5_ : k5 < a0_Plan.length
        · have hb12 : lt v5 (llen (r_I64 a0_Plan)) = true := ltL_true_I64 hg ht hi5 hc5_
          have hs5 := stepL_I64 hg ht hi5 hc5_ hm5
          obtain ⟨z5, hz5⟩ := some_of_lt hc5_
          rw [drop_of_some hz5] at h_5
          rw [S_l7Parts_l5] at h_5
          try rw [← hg] at h_5
          try rw [← ht] at h_5
          try dsimp only at h_5
          rw [hb12]
          cbv
          refine AStep.mk (nn_L hi5) ?_
          cbv
          refine AGet.mk _ (r_getL_I64 hg ht hi5 hz5) ?_
          cbv
          obtain ⟨x6, hx6, h_5⟩ := of_lP h_5
          try dsimp only at h_5
          refine ACall.mk _ _ rfl (hF _ _ _ (c_S_l1In hg ht hx6)) (.inl rfl) (Nat.le_of_ble_eq_true rfl) ?_
          cbv
          cases hb13 : x6 with
          | true =>
            rw [br_true hb13] at h_5
            cbv
            try rw [hg] at h_5
            try rw [ht] at h_5
            refine ⟨⟨(k5 + 1, (wrap .i64 (add v5 1))), hc5_, hs5, h_5⟩, Wk.of [(0, some 0)] rfl rfl ?_ ?_, meas_L hc5_⟩
            · cbv
              all_goals exact ⟨⟨_, rfl, rfl⟩, ⟨_, rfl, rfl⟩, trivial⟩
            · cbv
              all_goals exact ⟨⟨_, rfl, _, rfl, rfl, rfl, rfl, rfl, rfl, trivial⟩, trivial⟩
          | false =>
            rw [br_false hb13] at h_5
            cbv
            subst h_5
            try dsimp only [lr, lrL, lrp, lrpL] at h
            obtain rfl := Option.some.inj h
            exact ARet.mk trivial hX.symm
        · have hb12 : lt v5 (llen (r_I64 a0_Plan)) = false := ltL_false_I64 hg ht hi5 hc5_
          rw [List.drop_of_length_le (Nat.le_of_not_lt hc5_)] at h_5
          rw [S_l7Parts_l5] at h_5
          try rw [← hg] at h_5
          try rw [← ht] at h_5
          try dsimp only at h_5
          rw [hb12]
          cbv
          refine ⟨(), Wk.of [(0, some 0)] rfl rfl ?_ ?_, h_5.symm⟩
          · cbv
            all_goals exact ⟨⟨_, rfl, rfl⟩, trivial⟩
          · cbv
            all_goals exact ⟨⟨_, rfl, _, rfl, rfl, rfl, rfl, rfl, rfl, trivial⟩, trivial⟩
      · rintro _ hy5
        replace hy5 := hy5.symm
        subst hy5
        try dsimp only [lr, lrL, lrp, lrpL] at h
        cbv
        obtain ⟨x7, hx7, h⟩ := of_lP h
        try dsimp only at h
        refine ACall.mk _ _ rfl (hF _ _ _ (c_S_l1In hg ht hx7)) (.inl rfl) (Nat.le_of_ble_eq_true rfl) ?_
        cbv
        cases hb14 : x7 with
        | true =>
          rw [br_true hb14] at h
          cbv
          try (rw [hb14]; cbv)
          try (rw [hb14]; cbv)
          try (rw [hb14]; cbv)
          obtain ⟨x8, hx8, h⟩ := of_lP h
          try dsimp only at h
          refine ACall.mk _ _ rfl (hF _ _ _ (c_S_l1In hg ht hx8)) (.inl rfl) (Nat.le_of_ble_eq_true rfl) ?_
          cbv
          try (rw [hb14]; cbv)
          cases hb15 : x8 with
          | true =>
            rw [br_true hb15] at h
            cbv
            try (rw [hb15]; cbv)
            try (rw [hb15]; cbv)
            try (rw [hb15]; cbv)
            obtain ⟨x9, hx9, h⟩ := of_lP h
            try dsimp only at h
            refine ACall.mk _ _ rfl (hF _ _ _ (c_S_l1In hg ht hx9)) (.inl rfl) (Nat.le_of_ble_eq_true rfl) ?_
            cbv
            try (rw [hb15]; cbv)
            obtain rfl := Option.some.inj h
            exact ARet.mk trivial hX.symm
          | false =>
            rw [br_false hb15] at h
            cbv
            try (rw [hb15]; cbv)
            try (rw [hb15]; cbv)
            try (rw [hb15]; cbv)
            try (rw [hb15]; cbv)
            obtain rfl := Option.some.inj h
            exact ARet.mk trivial hX.symm
        | false =>
          rw [br_false hb14] at h
          cbv
          try (rw [hb14]; cbv)
          try (rw [hb14]; cbv)
          try (rw [hb14]; cbv)
          try (rw [hb14]; cbv)
          obtain rfl := Option.some.inj h
          exact ARet.mk trivial hX.symm
end Go.Vs
namespace Go.Vs
set_option maxRecDepth 100000
def ir87 : J :=
  .seq (.reg none [⟨(some 1), none, .box (.t 0)⟩,
     ⟨(some 2), none, .mv (.k (.c (.n 2)))⟩] [1])
  (.seq (.reg none [⟨(some 7), none, .bsl 2 []⟩,
     ⟨(some 3), none, .mv (.t 7)⟩] [1, 3])
  (.seq (.seq (.reg none [⟨(some 4), none, .mv (.k (V.i 0))⟩] [1, 3, 4])
   (.bl 0 (.seq (.seq (.reg none [⟨(some 8), none, .mv (.t 4)⟩,
        ⟨(some 9), none, .fa 0 (.t 1)⟩,
        ⟨(some 10), none, .ld false 1 (.t 9)⟩,
        ⟨(some 11), none, .len false (.t 10)⟩,
        ⟨(some 12), none, .bin .lss .i (.t 8) (.t 11)⟩] [1, 3, 4, 12])
     (.cond (.t 12)
      (.skip)
      (.exit 0)))
    (.seq (.block 1 (.seq (.reg none [⟨(some 15), none, .fa 0 (.t 1)⟩,
         ⟨(some 16), none, .ld false 1 (.t 15)⟩,
         ⟨(some 17), none, .mv (.t 4)⟩,
         ⟨(some 18), none, .ia 2 (.t 16) (.t 17)⟩,
         ⟨(some 19), none, .fa 0 (.t 18)⟩,
         ⟨(some 20), none, .ld false 1 (.t 19)⟩,
         ⟨(some 21), none, .bin .neq .i (.t 20) (.k (V.i 0))⟩,
         ⟨(some 22), none, .mv (.t 21)⟩,
         ⟨(some 23), (some (22, false)), .fa 0 (.t 1)⟩,
         ⟨(some 24), (some (22, false)), .ld false 1 (.t 23)⟩,
         ⟨(some 25), (some (22, false)), .mv (.t 4)⟩,
         ⟨(some 26), (some (22, false)), .ia 2 (.t 24) (.t 25)⟩,
         ⟨(some 27), (some (22, false)), .fa 1 (.t 26)⟩,
         ⟨(some 28), (some (22, false)), .ld false 1 (.t 27)⟩,
         ⟨(some 29), (some (22, false)), .bin .neq .i (.t 28) (.k (V.i 0))⟩,
         ⟨(some 30), none, .pick (.t 22) (.k (V.b true)) (.t 29)⟩] [1, 3, 4, 30])
      (.cond (.t 30)
       (.reg none [⟨(some 31), none, .mv (.t 3)⟩,
          ⟨(some 32), none, .fa 0 (.t 1)⟩,
          ⟨(some 33), none, .ld false 1 (.t 32)⟩,
          ⟨(some 34), none, .mv (.t 4)⟩,
          ⟨(some 35), none, .ia 2 (.t 33) (.t 34)⟩,
          ⟨(some 36), none, .ld true 2 (.t 35)⟩,
          ⟨(some 37), none, .bsl 2 [(.t 36)]⟩,
          ⟨(some 38), none, .app 2 16 true (.t 31) (.t 37)⟩,
          ⟨(some 3), none, .mv (.t 38)⟩] [1, 3, 4])
       (.skip))))
    (.reg none [⟨(some 13), none, .mv (.t 4)⟩,
      ⟨(some 14), none, .bin .add .i (.t 13) (.k (V.i 1))⟩,
      ⟨(some 4), none, .mv (.t 14)⟩] [1, 3, 4])))))
  (.seq (.seq (.reg none [⟨(some 5), none, .mv (.k (V.i 0))⟩] [1, 3, 5])
   (.bl 2 (.seq (.seq (.reg none [⟨(some 39), none, .mv (.t 5)⟩,
        ⟨(some 40), none, .fa 1 (.t 1)⟩,
        ⟨(some 41), none, .ld false 1 (.t 40)⟩,
        ⟨(some 42), none, .len false (.t 41)⟩,
        ⟨(some 43), none, .bin .lss .i (.t 39) (.t 42)⟩] [1, 3, 5, 43])
     (.cond (.t 43)
      (.skip)
      (.exit 2)))
    (.seq (.block 3 (.reg none [⟨(some 46), none, .mv (.t 3)⟩,
        ⟨(some 47), none, .fa 1 (.t 1)⟩,
        ⟨(some 48), none, .ld false 1 (.t 47)⟩,
        ⟨(some 49), none, .mv (.t 5)⟩,
        ⟨(some 50), none, .ia 3 (.t 48) (.t 49)⟩,
        ⟨(some 51), none, .fa 2 (.t 50)⟩,
        ⟨(some 52), none, .ld false 1 (.t 51)⟩,
        ⟨(some 53), none, .app 2 16 false (.t 46) (.t 52)⟩,
        ⟨(some 3), none, .mv (.t 53)⟩] [1, 3, 5]))
    (.reg none [⟨(some 44), none, .mv (.t 5)⟩,
      ⟨(some 45), none, .bin .add .i (.t 44) (.k (V.i 1))⟩,
      ⟨(some 5), none, .mv (.t 45)⟩] [1, 3, 5])))))
  (.seq (.seq (.reg none [⟨(some 6), none, .mv (.k (V.i 0))⟩] [1, 3, 6])
   (.bl 4 (.seq (.seq (.reg none [⟨(some 54), none, .mv (.t 6)⟩,
        ⟨(some 55), none, .fa 2 (.t 1)⟩,
        ⟨(some 56), none, .ld false 1 (.t 55)⟩,
        ⟨(some 57), none, .len false (.t 56)⟩,
        ⟨(some 58), none, .bin .lss .i (.t 54) (.t 57)⟩] [1, 3, 6, 58])
     (.cond (.t 58)
      (.skip)
      (.exit 4)))
    (.seq (.block 5 (.reg none [⟨(some 61), none, .mv (.t 3)⟩,
        ⟨(some 62), none, .fa 2 (.t 1)⟩,
        ⟨(some 63), none, .ld false 1 (.t 62)⟩,
        ⟨(some 64), none, .mv (.t 6)⟩,
        ⟨(some 65), none, .ia 2 (.t 63) (.t 64)⟩,
        ⟨(some 66), none, .fa 1 (.t 65)⟩,
        ⟨(some 67), none, .ld false 1 (.t 66)⟩,
        ⟨(some 68), none, .app 2 16 false (.t 61) (.t 67)⟩,
        ⟨(some 3), none, .mv (.t 68)⟩] [1, 3, 6]))
    (.reg none [⟨(some 59), none, .mv (.t 6)⟩,
      ⟨(some 60), none, .bin .add .i (.t 59) (.k (V.i 1))⟩,
      ⟨(some 6), none, .mv (.t 60)⟩] [1, 3, 6])))))
  (.seq (.reg none [⟨(some 69), none, .mv (.t 3)⟩,
     ⟨(some 2), none, .mv (.t 69)⟩] [2])
  (.ret))))))
def rv87 : List RV := [.t 2]
open Go.Proofs Go.IntWalk
set_option linter.unusedVariables false
set_option maxRecDepth 100000
set_option maxHeartbeats 4000000
def S_l7All_l3 (g : G) (t : TE) : List Inlet → List Item → Option (List Item)
  | [], w3 =>
    some w3
  | z3 :: ls3, w3 =>
    gd (((w3.length + z3.Wait.length) * 16 ≤ 70368744177664)) <|
    lP (w3 ++ z3.Wait) fun (l7 : List Item) =>
    S_l7All_l3 g t ls3 l7
def S_l7All_l2 (g : G) (t : TE) : List Chute → List Item → Option (List Item)
  | [], w2 =>
    some w2
  | z2 :: ls2, w2 =>
    gd (((w2.length + z2.Held.length) * 16 ≤ 70368744177664)) <|
    lP (w2 ++ z2.Held) fun (l6 : List Item) =>
    S_l7All_l2 g t ls2 l6
def S_l7All_l1 (g : G) (t : TE) : List Item → List Item → Option (List Item)
  | [], w1 =>
    some w1
  | z1 :: ls1, w1 =>
    br (g.eq z1.Id 0)
    (
     br (g.eq z1.Dest 0)
     (
      S_l7All_l1 g t ls1 w1)
     (
      lP ([z1]) fun (l2 : List Item) =>
      gd (((w1.length + l2.length) * 16 ≤ 70368744177664)) <|
      lP (w1 ++ l2) fun (l3 : List Item) =>
      S_l7All_l1 g t ls1 l3))
    (
     lP ([z1]) fun (l4 : List Item) =>
     gd (((w1.length + l4.length) * 16 ≤ 70368744177664)) <|
     lP (w1 ++ l4) fun (l5 : List Item) =>
     S_l7All_l1 g t ls1 l5)
def S_l7All (g : G) (t : TE) (a0 : Centre) : Option (List Item) :=
  lP ([]) fun (l1 : List Item) =>
  cl (S_l7All_l1 g t a0.Belt l1) fun y1 =>
  cl (S_l7All_l2 g t a0.Chutes y1) fun y2 =>
  cl (S_l7All_l3 g t a0.Inlets y2) fun y3 =>
  some y3
theorem fit87 : codeFit Try.prog Try.f87.ntmps (Try.f87.body.getD .skip) ir87 = true := by kernel_rfl
theorem c_S_l7All {g : G} {t : TE} {a0 : Centre} {r : List Item} (hg : g = G.real) (ht : t = TE.real) (h : S_l7All g t a0 = some r) : Fn Try.prog 87 [.g (Centre.rs t a0)] (.c (.o 2 (t.d_Item r))) := by
  obtain ⟨X, hX⟩ := hide (.c (.o 2 (t.d_Item r)) : X)
  rw [← hX]
  refine fn_of (rvs := rv87) (j := ir87) Try.func87 rfl fit87 (Nat.le_of_ble_eq_true rfl) (by kernel_rfl) prog_mixed ?_
  intro g2 F hg2 hF
  obtain rfl : g2 = g := hg2.unique.trans hg.symm
  clear hg2
  obtain ⟨wrap, lt, le, eq, quo, rem, band, bor, bxor, shl, shr, nat, int, add, sub, mul, cat, seq, slt, sub3, byte, llen, nadd, nsub, dlen, dapp, dset, drep, rd, rda, up, rsub, dsub, all, sle, slen, hasI, putI, hasS, putS, imin, imax, fzc⟩ := g2
  obtain ⟨r_Item, d_Item, r_Chute, d_Chute, r_Inlet, d_Inlet, r_I64, d_I64, r_U8, d_U8, d_InletF⟩ := t
  obtain ⟨a0_Belt, a0_Chutes, a0_Inlets, a0_Plan, a0_Now⟩ := a0
  unfold S_l7All at h
  try dsimp only at h
  cbv
  obtain ⟨l1, hl1, h⟩ := of_lP h
  try dsimp only at h
  refine ANew.mk (d_Item l1) (dlen (d_Item l1)) (by rw [← hl1]; exact lit_Item hg ht []) (by rw [← hl1]; exact litn_Item hg ht []) ?_
  cbv
  obtain ⟨o1, ho1, h⟩ := of_cl h
  try dsimp only at h
  try rw [hg] at ho1
  try rw [ht] at ho1
  refine ABL.mk { p : Nat × Int × List Item // p.1 ≤ a0_Belt.length ∧ p.2.1 = ((p.1 : Nat) : Int) ∧ S_l7All_l1 G.real TE.real (List.drop p.1 a0_Belt) p.2.2 = some o1 } (fun ⟨⟨k1, v1, w1⟩, _⟩ => ({ sl := [(1, .c (.p 0 5 0 0)), (3, .c (.f 1 2 0 (dlen (d_Item w1)))), (4, .c (.r (.v (.int .i64 v1))))], tab := [(0, some (.foc 5 [] [.r (.s 2 (r_Item a0_Belt)), .r (.s 3 (r_Chute a0_Chutes)), .r (.s 2 (r_Inlet a0_Inlets)), .r (.s 1 (r_I64 a0_Plan)), .r (.v (.int .i64 a0_Now))] [])), (1, some (.arr 2 (d_Item w1)))] } : St)) 2 (fun p => a0_Belt.length - p.1.1) ⟨(0, 0, l1), Nat.zero_le _, rfl, ho1⟩ (List Item) (fun y1 => ({ sl := [(1, .c (.p 0 5 0 0)), (3, .c (.f 1 2 0 (dlen (d_Item y1))))], tab := [(0, some (.foc 5 [] [.r (.s 2 (r_Item a0_Belt)), .r (.s 3 (r_Chute a0_Chutes)), .r (.s 2 (r_Inlet a0_Inlets)), .r (.s 1 (r_I64 a0_Plan)), .r (.v (.int .i64 a0_Now))] [])), (1, some (.arr 2 (d_Item y1)))] } : St)) 2 (fun y => o1 = y) ?_ ?_ ?_
  · refine Wk.of [(0, some 0), (1, some 32)] rfl rfl ?_ ?_
    · cbv
      all_goals exact ⟨⟨_, rfl, rfl⟩, ⟨_, rfl, rfl⟩, ⟨_, rfl, rfl⟩, trivial⟩
    · cbv
      all_goals exact ⟨⟨_, rfl, _, rfl, rfl, rfl, rfl, rfl, rfl, trivial⟩, ⟨_, rfl, rfl⟩, trivial⟩
  · rintro ⟨⟨k1, v1, w1⟩, hk1, hi1, h_1⟩ hq1
    have hm1 := (hq1.2.2.1 0 _ _ _ _ 0 _ _ rfl rfl)
    try dsimp only at hk1 hi1 h_1
    clear hq1
    cbv
    by_cases hc1_ : k1 < a0_Belt.length
    · have hb1 : lt v1 (llen (r_Item a0_Belt)) = true := ltL_true_Item hg ht hi1 hc1_
      have hs1 := stepL_Item hg ht hi1 hc1_ hm1
      obtain ⟨z1, hz1⟩ := some_of_lt hc1_
      rw [drop_of_some hz1] at h_1
      rw [S_l7All_l1] at h_1
      obtain ⟨z1_Id, z1_Dest⟩ := z1
      try rw [← hg] at h_1
      try rw [← ht] at h_1
      try dsimp only at h_1
      rw [hb1]
      cbv
      refine AStep.mk (nn_L hi1) ?_
      cbv
      refine AGet.mk _ (r_getL_Item hg ht hi1 hz1) ?_
      cbv
      cases hb2 : (eq z1_Id 0) with
      | true =>
        rw [br_true hb2] at h_1
        cbv
        try (rw [hb2]; cbv)
        try (rw [hb2]; cbv)
        try (rw [hb2]; cbv)
        refine AStep.mk (nn_L hi1) ?_
        cbv
        refine AGet.mk _ (r_getL_Item hg ht hi1 hz1) ?_
        cbv
        try (rw [hb2]; cbv)
        try (rw [hb2]; cbv)
        try (rw [hb2]; cbv)
        try (rw [hb2]; cbv)
        cases hb3 : (eq z1_Dest 0) with
        | true =>
          rw [br_true hb3] at h_1
          cbv
          try rw [hg] at h_1
          try rw [ht] at h_1
          refine ⟨⟨(k1 + 1, (wrap .i64 (add v1 1)), w1), hc1_, hs1, h_1⟩, Wk.of [(0, some 0), (1, some 1)] rfl rfl ?_ ?_, meas_L hc1_⟩
          · cbv
            all_goals exact ⟨⟨_, rfl, rfl⟩, ⟨_, rfl, rfl⟩, ⟨_, rfl, rfl⟩, trivial⟩
          · cbv
            all_goals exact ⟨⟨_, rfl, _, rfl, rfl, rfl, rfl, rfl, rfl, trivial⟩, ⟨_, rfl, rfl⟩, trivial⟩
        | false =>
          rw [br_false hb3] at h_1
          cbv
          refine AStep.mk (nn_L hi1) ?_
          cbv
          refine AGet.mk _ (r_getL_Item hg ht hi1 hz1) ?_
          cbv
          obtain ⟨l2, hl2, h_1⟩ := of_lP h_1
          try dsimp only at h_1
          refine ANew.mk (d_Item l2) (dlen (d_Item l2)) (by rw [← hl2]; exact lit_Item hg ht [(Item.mk z1_Id z1_Dest)]) (by rw [← hl2]; exact litn_Item hg ht [(Item.mk z1_Id z1_Dest)]) ?_
          cbv
          obtain ⟨hc1, h_1⟩ := of_gd h_1
          refine AStep.mk ⟨⟨rfl, (dlen_Item hg ht _)⟩, (app_ok_Item hg ht (dlen_Item hg ht _) rfl hc1)⟩ ?_
          cbv
          obtain ⟨l3, hl3, h_1⟩ := of_lP h_1
          try dsimp only at h_1
          refine ANew.mk (d_Item l3) (dlen (d_Item l3)) (by rw [← hl3]; exact app_Item hg ht (dlen_Item hg ht _) rfl) (by rw [← hl3]; exact appl_Item hg ht (dlen_Item hg ht _) rfl) ?_
          cbv
          try rw [hg] at h_1
          try rw [ht] at h_1
          refine ⟨⟨(k1 + 1, (wrap .i64 (add v1 1)), l3), hc1_, hs1, h_1⟩, Wk.of [(0, some 0), (1, some 450)] rfl rfl ?_ ?_, meas_L hc1_⟩
          · cbv
            all_goals exact ⟨⟨_, rfl, rfl⟩, ⟨_, rfl, rfl⟩, ⟨_, rfl, rfl⟩, trivial⟩
          · cbv
            all_goals exact ⟨⟨_, rfl, _, rfl, rfl, rfl, rfl, rfl, rfl, trivial⟩, ⟨_, rfl, rfl⟩, trivial⟩
      | false =>
        rw [br_false hb2] at h_1
        cbv
        try (rw [hb2]; cbv)
        try (rw [hb2]; cbv)
        try (rw [hb2]; cbv)
        try (rw [hb2]; cbv)
        try (rw [hb2]; cbv)
        try (rw [hb2]; cbv)
        try (rw [hb2]; cbv)
        refine AStep.mk (nn_L hi1) ?_
        cbv
        refine AGet.mk _ (r_getL_Item hg ht hi1 hz1) ?_
        cbv
        obtain ⟨l4, hl4, h_1⟩ := of_lP h_1
        try dsimp only at h_1
        refine ANew.mk (d_Item l4) (dlen (d_Item l4)) (by rw [← hl4]; exact lit_Item hg ht [(Item.mk z1_Id z1_Dest)]) (by rw [← hl4]; exact litn_Item hg ht [(Item.mk z1_Id z1_Dest)]) ?_
        cbv
        obtain ⟨hc2, h_1⟩ := of_gd h_1
        refine AStep.mk ⟨⟨rfl, (dlen_Item hg ht _)⟩, (app_ok_Item hg ht (dlen_Item hg ht _) rfl hc2)⟩ ?_
        cbv
        obtain ⟨l5, hl5, h_1⟩ := of_lP h_1
        try dsimp only at h_1
        refine ANew.mk (d_Item l5) (dlen (d_Item l5)) (by rw [← hl5]; exact app_Item hg ht (dlen_Item hg ht _) rfl) (by rw [← hl5]; exact appl_Item hg ht (dlen_Item hg ht _) rfl) ?_
        cbv
        try rw [hg] at h_1
        try rw [ht] at h_1
        refine ⟨⟨(k1 + 1, (wrap .i64 (add v1 1)), l5), hc1_, hs1, h_1⟩, Wk.of [(0, some 0), (1, some 450)] rfl rfl ?_ ?_, meas_L hc1_⟩
        · cbv
          all_goals exact ⟨⟨_, rfl, rfl⟩, ⟨_, rfl, rfl⟩, ⟨_, rfl, rfl⟩, trivial⟩
        · cbv
          all_goals exact ⟨⟨_, rfl, _, rfl, rfl, rfl, rfl, rfl, rfl, trivial⟩, ⟨_, rfl, rfl⟩, trivial⟩
    · have hb1 : lt v1 (llen (r_Item a0_Belt)) = false := ltL_false_Item hg ht hi1 hc1_
      rw [List.drop_of_length_le (Nat.le_of_not_lt hc1_)] at h_1
      rw [S_l7All_l1] at h_1
      try rw [← hg] at h_1
      try rw [← ht] at h_1
      try dsimp only at h_1
      rw [hb1]
      cbv
      refine ⟨w1, Wk.of [(0, some 0), (1, some 1)] rfl rfl ?_ ?_, (Option.some.inj h_1).symm⟩
      · cbv
        all_goals exact ⟨⟨_, rfl, rfl⟩, ⟨_, rfl, rfl⟩, trivial⟩
      · cbv
        all_goals exact ⟨⟨_, rfl, _, rfl, rfl, rfl, rfl, rfl, rfl, trivial⟩, ⟨_, rfl, rfl⟩, trivial⟩
  · rintro y1 hy1
    replace hy1 := hy1.symm
    subst hy1
    try dsimp only [lr, lrL, lrp, lrpL] at h
    cbv
    obtain ⟨o2, ho2, h⟩ := of_cl h
    try dsimp only at h
    try rw [hg] at ho2
    try rw [ht] at ho2
    refine ABL.mk { p : Nat × Int × List Item // p.1 ≤ a0_Chutes.length ∧ p.2.1 = ((p.1 : Nat) : Int) ∧ S_l7All_l2 G.real TE.real (List.drop p.1 a0_Chutes) p.2.2 = some o2 } (fun ⟨⟨k2, v2, w2⟩, _⟩ => ({ sl := [(1, .c (.p 0 5 0 0)), (3, .c (.f 1 2 0 (dlen (d_Item w2)))), (5, .c (.r (.v (.int .i64 v2))))], tab := [(0, some (.foc 5 [] [.r (.s 2 (r_Item a0_Belt)), .r (.s 3 (r_Chute a0_Chutes)), .r (.s 2 (r_Inlet a0_Inlets)), .r (.s 1 (r_I64 a0_Plan)), .r (.v (.int .i64 a0_Now))] [])), (1, some (.arr 2 (d_Item w2)))] } : St)) 2 (fun p => a0_Chutes.length - p.1.1) ⟨(0, 0, y1), Nat.zero_le _, rfl, ho2⟩ (List Item) (fun y2 => ({ sl := [(1, .c (.p 0 5 0 0)), (3, .c (.f 1 2 0 (dlen (d_Item y2))))], tab := [(0, some (.foc 5 [] [.r (.s 2 (r_Item a0_Belt)), .r (.s 3 (r_Chute a0_Chutes)), .r (.s 2 (r_Inlet a0_Inlets)), .r (.s 1 (r_I64 a0_Plan)), .r (.v (.int .i64 a0_Now))] [])), (1, some (.arr 2 (d_Item y2)))] } : St)) 2 (fun y => o2 = y) ?_ ?_ ?_
    · refine Wk.of [(0, some 0), (1, some 1)] rfl rfl ?_ ?_
      · cbv
        all_goals exact ⟨⟨_, rfl, rfl⟩, ⟨_, rfl, rfl⟩, ⟨_, rfl, rfl⟩, trivial⟩
      · cbv
        all_goals exact ⟨⟨_, rfl, _, rfl, rfl, rfl, rfl, rfl, rfl, trivial⟩, ⟨_, rfl, rfl⟩, trivial⟩
    · rintro ⟨⟨k2, v2, w2⟩, hk2, hi2, h_2⟩ hq2
      have hm2 := (hq2.2.2.1 0 _ _ _ _ 1 _ _ rfl rfl)
      try dsimp only at hk2 hi2 h_2
      clear hq2
      cbv
      by_cases hc2_ : k2 < a0_Chutes.length
      · have hb4 : lt v2 (llen (r_Chute a0_Chutes)) = true := ltL_true_Chute hg ht hi2 hc2_
        have hs2 := stepL_Chute hg ht hi2 hc2_ hm2
        obtain ⟨z2, hz2⟩ := some_of_lt hc2_
        rw [drop_of_some hz2] at h_2
        rw [S_l7All_l2] at h_2
        obtain ⟨z2_Cell, z2_Room, z2_Held⟩ := z2
        try rw [← hg] at h_2
        try rw [← ht] at h_2
        try dsimp only at h_2
        rw [hb4]
        cbv
        refine AStep.mk (nn_L hi2) ?_
        cbv
        refine AGet.mk _ (r_getL_Chute hg ht hi2 hz2) ?_
        cbv
        obtain ⟨hc3, h_2⟩ := of_gd h_2
        refine AStep.mk (app_ok_Item hg ht (dlen_Item hg ht _) (up_Item hg ht _) hc3) ?_
        cbv
        obtain ⟨l6, hl6, h_2⟩ := of_lP h_2
        try dsimp only at h_2
        refine ANew.mk (d_Item l6) (dlen (d_Item l6)) (by rw [← hl6]; exact app_Item hg ht (dlen_Item hg ht _) (up_Item hg ht _)) (by rw [← hl6]; exact appl_Item hg ht (dlen_Item hg ht _) (up_Item hg ht _)) ?_
        cbv
        try rw [hg] at h_2
        try rw [ht] at h_2
        refine ⟨⟨(k2 + 1, (wrap .i64 (add v2 1)), l6), hc2_, hs2, h_2⟩, Wk.of [(0, some 0), (1, some 194)] rfl rfl ?_ ?_, meas_L hc2_⟩
        · cbv
          all_goals exact ⟨⟨_, rfl, rfl⟩, ⟨_, rfl, rfl⟩, ⟨_, rfl, rfl⟩, trivial⟩
        · cbv
          all_goals exact ⟨⟨_, rfl, _, rfl, rfl, rfl, rfl, rfl, rfl, trivial⟩, ⟨_, rfl, rfl⟩, trivial⟩
      · have hb4 : lt v2 (llen (r_Chute a0_Chutes)) = false := ltL_false_Chute hg ht hi2 hc2_
        rw [List.drop_of_length_le (Nat.le_of_not_lt hc2_)] at h_2
        rw [S_l7All_l2] at h_2
        try rw [← hg] at h_2
        try rw [← ht] at h_2
        try dsimp only at h_2
        rw [hb4]
        cbv
        refine ⟨w2, Wk.of [(0, some 0), (1, some 1)] rfl rfl ?_ ?_, (Option.some.inj h_2).symm⟩
        · cbv
          all_goals exact ⟨⟨_, rfl, rfl⟩, ⟨_, rfl, rfl⟩, trivial⟩
        · cbv
          all_goals exact ⟨⟨_, rfl, _, rfl, rfl, rfl, rfl, rfl, rfl, trivial⟩, ⟨_, rfl, rfl⟩, trivial⟩
    · rintro y2 hy2
      replace hy2 := hy2.symm
      subst hy2
      try dsimp only [lr, lrL, lrp, lrpL] at h
      cbv
      obtain ⟨o3, ho3, h⟩ := of_cl h
      try dsimp only at h
      try rw [hg] at ho3
      try rw [ht] at ho3
      refine ABL.mk { p : Nat × Int × List Item // p.1 ≤ a0_Inlets.length ∧ p.2.1 = ((p.1 : Nat) : Int) ∧ S_l7All_l3 G.real TE.real (List.drop p.1 a0_Inlets) p.2.2 = some o3 } (fun ⟨⟨k3, v3, w3⟩, _⟩ => ({ sl := [(1, .c (.p 0 5 0 0)), (3, .c (.f 1 2 0 (dlen (d_Item w3)))), (6, .c (.r (.v (.int .i64 v3))))], tab := [(0, some (.foc 5 [] [.r (.s 2 (r_Item a0_Belt)), .r (.s 3 (r_Chute a0_Chutes)), .r (.s 2 (r_Inlet a0_Inlets)), .r (.s 1 (r_I64 a0_Plan)), .r (.v (.int .i64 a0_Now))] [])), (1, some (.arr 2 (d_Item w3)))] } : St)) 2 (fun p => a0_Inlets.length - p.1.1) ⟨(0, 0, y2), Nat.zero_le _, rfl, ho3⟩ (List Item) (fun y3 => ({ sl := [(3, .c (.f 0 2 0 (dlen (d_Item y3))))], tab := [(0, some (.arr 2 (d_Item y3)))] } : St)) 1 (fun y => o3 = y) ?_ ?_ ?_
      · refine Wk.of [(0, some 0), (1, some 1)] rfl rfl ?_ ?_
        · cbv
          all_goals exact ⟨⟨_, rfl, rfl⟩, ⟨_, rfl, rfl⟩, ⟨_, rfl, rfl⟩, trivial⟩
        · cbv
          all_goals exact ⟨⟨_, rfl, _, rfl, rfl, rfl, rfl, rfl, rfl, trivial⟩, ⟨_, rfl, rfl⟩, trivial⟩
      · rintro ⟨⟨k3, v3, w3⟩, hk3, hi3, h_3⟩ hq3
        have hm3 := (hq3.2.2.1 0 _ _ _ _ 2 _ _ rfl rfl)
        try dsimp only at hk3 hi3 h_3
        clear hq3
        cbv
        by_cases hc3_ : k3 < a0_Inlets.length
        · have hb5 : lt v3 (llen (r_Inlet a0_Inlets)) = true := ltL_true_Inlet hg ht hi3 hc3_
          have hs3 := stepL_Inlet hg ht hi3 hc3_ hm3
          obtain ⟨z3, hz3⟩ := some_of_lt hc3_
          rw [drop_of_some hz3] at h_3
          rw [S_l7All_l3] at h_3
          obtain ⟨z3_Cell, z3_Wait⟩ := z3
          try rw [← hg] at h_3
          try rw [← ht] at h_3
          try dsimp only at h_3
          rw [hb5]
          cbv
          refine AStep.mk (nn_L hi3) ?_
          cbv
          refine AGet.mk _ (r_getL_Inlet hg ht hi3 hz3) ?_
          cbv
          obtain ⟨hc4, h_3⟩ := of_gd h_3
          refine AStep.mk (app_ok_Item hg ht (dlen_Item hg ht _) (up_Item hg ht _) hc4) ?_
          cbv
          obtain ⟨l7, hl7, h_3⟩ := of_lP h_3
          try dsimp only at h_3
          refine ANew.mk (d_Item l7) (dlen (d_Item l7)) (by rw [← hl7]; exact app_Item hg ht (dlen_Item hg ht _) (up_Item hg ht _)) (by rw [← hl7]; exact appl_Item hg ht (dlen_Item hg ht _) (up_Item hg ht _)) ?_
          cbv
          try rw [hg] at h_3
          try rw [ht] at h_3
          refine ⟨⟨(k3 + 1, (wrap .i64 (add v3 1)), l7), hc3_, hs3, h_3⟩, Wk.of [(0, some 0), (1, some 194)] rfl rfl ?_ ?_, meas_L hc3_⟩
          · cbv
            all_goals exact ⟨⟨_, rfl, rfl⟩, ⟨_, rfl, rfl⟩, ⟨_, rfl, rfl⟩, trivial⟩
          · cbv
            all_goals exact ⟨⟨_, rfl, _, rfl, rfl, rfl, rfl, rfl, rfl, trivial⟩, ⟨_, rfl, rfl⟩, trivial⟩
        · have hb5 : lt v3 (llen (r_Inlet a0_Inlets)) = false := ltL_false_Inlet hg ht hi3 hc3_
          rw [List.drop_of_length_le (Nat.le_of_not_lt hc3_)] at h_3
          rw [S_l7All_l3] at h_3
          try rw [← hg] at h_3
          try rw [← ht] at h_3
          try dsimp only at h_3
          rw [hb5]
          cbv
          refine ⟨w3, Wk.of [(0, some 1)] rfl rfl ?_ ?_, (Option.some.inj h_3).symm⟩
          · cbv
            all_goals exact ⟨⟨_, rfl, rfl⟩, trivial⟩
          · cbv
            all_goals exact ⟨⟨_, rfl, rfl⟩, trivial⟩
      · rintro y3 hy3
        replace hy3 := hy3.symm
        subst hy3
        try dsimp only [lr, lrL, lrp, lrpL] at h
        cbv
        obtain rfl := Option.some.inj h
        exact ARet.mk ⟨rfl, (dlen_Item hg ht _)⟩ hX.symm
end Go.Vs
namespace Go.Vs
set_option maxRecDepth 100000
def ir88 : J :=
  .seq (.reg none [⟨(some 2), none, .box (.t 0)⟩,
     ⟨(some 4), none, .mv (.k (V.b false))⟩] [1, 2])
  (.seq (.reg none [⟨(some 5), none, .fa 0 (.t 2)⟩,
     ⟨(some 6), none, .ld false 1 (.t 5)⟩,
     ⟨(some 7), none, .call 85 true [(.t 6), (.k (V.i 1)), (.k (V.i 9999))]⟩,
     ⟨(some 8), none, .mv (.t 7)⟩,
     ⟨(some 9), (some (8, true)), .fa 1 (.t 2)⟩,
     ⟨(some 10), (some (8, true)), .ld false 1 (.t 9)⟩,
     ⟨(some 11), (some (8, true)), .mv (.t 1)⟩,
     ⟨(some 12), (some (8, true)), .len false (.t 11)⟩,
     ⟨(some 13), (some (8, true)), .bin .sub .i (.t 12) (.k (V.i 1))⟩,
     ⟨(some 14), (some (8, true)), .call 85 true [(.t 10), (.k (V.i 0)), (.t 13)]⟩,
     ⟨(some 15), none, .pick (.t 8) (.t 14) (.k (V.b false))⟩,
     ⟨(some 4), none, .mv (.t 15)⟩] [4])
  (.ret))
def rv88 : List RV := [.t 4]
open Go.Proofs Go.IntWalk
set_option linter.unusedVariables false
set_option maxRecDepth 100000
set_option maxHeartbeats 4000000
def S_l7Item (g : G) (t : TE) (a0 : Item) (a1 : List Int) : Bool :=
  lP (S_l1In g t a0.Id 1 9999) fun x1 =>
  br x1
  (
   lP (S_l1In g t a0.Dest 0 (g.wrap .i64 (g.sub (g.llen (t.r_I64 a1)) 1))) fun x2 =>
   x2)
  (
   false)
theorem fit88 : codeFit Try.prog Try.f88.ntmps (Try.f88.body.getD .skip) ir88 = true := by kernel_rfl
theorem c_S_l7Item {g : G} {t : TE} {a0 : Item} {a1 : List Int} {r : Bool} (hg : g = G.real) (ht : t = TE.real) (h : S_l7Item g t a0 a1 = r) : Fn Try.prog 88 [.g (Item.rs t a0), .c (.s 1 (t.r_I64 a1))] (.c (.r (.v (.bool r)))) := by
  obtain ⟨X, hX⟩ := hide (.c (.r (.v (.bool r))) : X)
  rw [← hX]
  refine fn_of (rvs := rv88) (j := ir88) Try.func88 rfl fit88 (Nat.le_of_ble_eq_true rfl) (by kernel_rfl) prog_mixed ?_
  intro g2 F hg2 hF
  obtain rfl : g2 = g := hg2.unique.trans hg.symm
  clear hg2
  obtain ⟨wrap, lt, le, eq, quo, rem, band, bor, bxor, shl, shr, nat, int, add, sub, mul, cat, seq, slt, sub3, byte, llen, nadd, nsub, dlen, dapp, dset, drep, rd, rda, up, rsub, dsub, all, sle, slen, hasI, putI, hasS, putS, imin, imax, fzc⟩ := g2
  obtain ⟨r_Item, d_Item, r_Chute, d_Chute, r_Inlet, d_Inlet, r_I64, d_I64, r_U8, d_U8, d_InletF⟩ := t
  obtain ⟨a0_Id, a0_Dest⟩ := a0
  unfold S_l7Item at h
  try dsimp only at h
  cbv
  obtain ⟨x1, hx1, h⟩ := of_lP h
  try dsimp only at h
  refine ACall.mk _ _ rfl (hF _ _ _ (c_S_l1In hg ht hx1)) (.inl rfl) (Nat.le_of_ble_eq_true rfl) ?_
  cbv
  cases hb1 : x1 with
  | true =>
    rw [br_true hb1] at h
    cbv
    try (rw [hb1]; cbv)
    try (rw [hb1]; cbv)
    try (rw [hb1]; cbv)
    try (rw [hb1]; cbv)
    try (rw [hb1]; cbv)
    obtain ⟨x2, hx2, h⟩ := of_lP h
    try dsimp only at h
    refine ACall.mk _ _ rfl (hF _ _ _ (c_S_l1In hg ht hx2)) (.inl rfl) (Nat.le_of_ble_eq_true rfl) ?_
    cbv
    try (rw [hb1]; cbv)
    subst h
    exact ARet.mk trivial hX.symm
  | false =>
    rw [br_false hb1] at h
    cbv
    try (rw [hb1]; cbv)
    try (rw [hb1]; cbv)
    try (rw [hb1]; cbv)
    try (rw [hb1]; cbv)
    try (rw [hb1]; cbv)
    try (rw [hb1]; cbv)
    subst h
    exact ARet.mk trivial hX.symm
end Go.Vs
namespace Go.Vs
set_option maxRecDepth 100000
def ir31 : J :=
  .seq (.reg none [⟨(some 1), none, .box (.t 0)⟩,
     ⟨(some 2), none, .mv (.k (V.b false))⟩] [1])
  (.seq (.seq (.reg none [⟨(some 6), none, .fa 0 (.t 1)⟩,
      ⟨(some 7), none, .ld false 1 (.t 6)⟩,
      ⟨(some 8), none, .len false (.t 7)⟩,
      ⟨(some 9), none, .call 85 true [(.t 8), (.k (V.i 2)), (.k (V.i 24))]⟩,
      ⟨(some 10), none, .not (.t 9)⟩,
      ⟨(some 11), none, .mv (.t 10)⟩,
      ⟨(some 12), (some (11, false)), .ld true 5 (.t 1)⟩,
      ⟨(some 13), (some (11, false)), .call 86 true [(.t 12)]⟩,
      ⟨(some 14), (some (11, false)), .not (.t 13)⟩,
      ⟨(some 15), none, .pick (.t 11) (.k (V.b true)) (.t 14)⟩,
      ⟨(some 16), none, .mv (.t 15)⟩,
      ⟨(some 17), (some (16, false)), .fa 4 (.t 1)⟩,
      ⟨(some 18), (some (16, false)), .ld false 1 (.t 17)⟩,
      ⟨(some 19), (some (16, false)), .call 85 true [(.t 18), (.k (V.i 0)), (.k (V.i 100000))]⟩,
      ⟨(some 20), (some (16, false)), .not (.t 19)⟩,
      ⟨(some 21), none, .pick (.t 16) (.k (V.b true)) (.t 20)⟩] [1, 21])
   (.cond (.t 21)
    (.seq (.reg none [⟨(some 2), none, .mv (.k (V.b false))⟩] [2])
     (.ret))
    (.skip)))
  (.seq (.reg none [⟨(some 22), none, .ld true 5 (.t 1)⟩,
     ⟨(some 23), none, .call 87 true [(.t 22)]⟩,
     ⟨(some 3), none, .mv (.t 23)⟩] [1, 3])
  (.seq (.seq (.reg none [⟨(some 4), none, .mv (.k (V.i 0))⟩] [1, 3, 4])
   (.bl 0 (.seq (.seq (.reg none [⟨(some 24), none, .mv (.t 4)⟩,
        ⟨(some 25), none, .mv (.t 3)⟩,
        ⟨(some 26), none, .len false (.t 25)⟩,
        ⟨(some 27), none, .bin .lss .i (.t 24) (.t 26)⟩] [1, 3, 4, 27])
     (.cond (.t 27)
      (.skip)
      (.exit 0)))
    (.seq (.block 1 (.seq (.seq (.reg (some [[], [], [0, 1], [0, 1, 2], [], [4], [0, 1, 2, 3, 4, 5], [0, 1, 2, 3, 4, 5, 6]]) [⟨(some 30), none, .mv (.t 3)⟩,
          ⟨(some 31), none, .mv (.t 4)⟩,
          ⟨(some 32), none, .ia 2 (.t 30) (.t 31)⟩,
          ⟨(some 33), none, .ld true 2 (.t 32)⟩,
          ⟨(some 34), none, .fa 3 (.t 1)⟩,
          ⟨(some 35), none, .ld false 1 (.t 34)⟩,
          ⟨(some 36), none, .call 88 true [(.t 33), (.t 35)]⟩,
          ⟨(some 37), none, .not (.t 36)⟩] [1, 3, 4, 37])
       (.cond (.t 37)
        (.seq (.reg none [⟨(some 2), none, .mv (.k (V.b false))⟩] [2])
         (.ret))
        (.skip)))
      (.seq (.reg none [⟨(some 5), none, .mv (.k (V.i 0))⟩] [1, 3, 4, 5])
      (.bl 2 (.seq (.seq (.reg none [⟨(some 38), none, .mv (.t 5)⟩,
           ⟨(some 39), none, .mv (.t 4)⟩,
           ⟨(some 40), none, .bin .lss .i (.t 38) (.t 39)⟩] [1, 3, 4, 5, 40])
        (.cond (.t 40)
         (.skip)
         (.exit 2)))
       (.seq (.block 3 (.seq (.reg (some [[], [], [0, 1], [0, 1, 2], [0, 1, 2, 3], [], [], [5, 6], [5, 6, 7], [5, 6, 7, 8], [0, 1, 2, 3, 4, 5, 6, 7, 8, 9]]) [⟨(some 43), none, .mv (.t 3)⟩,
            ⟨(some 44), none, .mv (.t 5)⟩,
            ⟨(some 45), none, .ia 2 (.t 43) (.t 44)⟩,
            ⟨(some 46), none, .fa 0 (.t 45)⟩,
            ⟨(some 47), none, .ld false 1 (.t 46)⟩,
            ⟨(some 48), none, .mv (.t 3)⟩,
            ⟨(some 49), none, .mv (.t 4)⟩,
            ⟨(some 50), none, .ia 2 (.t 48) (.t 49)⟩,
            ⟨(some 51), none, .fa 0 (.t 50)⟩,
            ⟨(some 52), none, .ld false 1 (.t 51)⟩,
            ⟨(some 53), none, .bin .eql .i (.t 47) (.t 52)⟩] [1, 3, 4, 5, 53])
         (.cond (.t 53)
          (.seq (.reg none [⟨(some 2), none, .mv (.k (V.b false))⟩] [2])
           (.ret))
          (.skip))))
       (.reg none [⟨(some 41), none, .mv (.t 5)⟩,
         ⟨(some 42), none, .bin .add .i (.t 41) (.k (V.i 1))⟩,
         ⟨(some 5), none, .mv (.t 42)⟩] [1, 3, 4, 5])))))))
    (.reg none [⟨(some 28), none, .mv (.t 4)⟩,
      ⟨(some 29), none, .bin .add .i (.t 28) (.k (V.i 1))⟩,
      ⟨(some 4), none, .mv (.t 29)⟩] [1, 3, 4])))))
  (.seq (.reg none [⟨(some 2), none, .mv (.k (V.b true))⟩] [2])
  (.ret)))))
def rv31 : List RV := [.t 2]
open Go.Proofs Go.IntWalk
set_option linter.unusedVariables false
set_option maxRecDepth 100000
set_option maxHeartbeats 4000000
def S_IsCentre_l2 (g : G) (t : TE) (x4 : List Item) (x5 : Item) : Nat → Int → Option (LR Bool Unit)
  | 0, v2 =>
    some (LR.out ())
  | n2 + 1, v2 =>
    gd (((0 : Int) ≤ v2 ∧ v2 < (((g.dlen (t.d_Item x4)) : Nat) : Int))) <|
    gt x4 (g.nat v2) fun x7 =>
    br (g.eq x7.Id x5.Id)
    (
     some (LR.ret false))
    (
     S_IsCentre_l2 g t x4 x5 n2 (g.wrap .i64 (g.add v2 1)))
def S_IsCentre_l1 (g : G) (t : TE) (a0 : Centre) (x4 : List Item) : Nat → Int → Option (LR Bool Unit)
  | 0, v1 =>
    some (LR.out ())
  | n1 + 1, v1 =>
    gt x4 (g.nat v1) fun x5 =>
    lP (S_l7Item g t x5 a0.Plan) fun x6 =>
    br x6
    (
     gd ((v1 ≤ 4611686018427387904)) <|
     cl (S_IsCentre_l2 g t x4 x5 (cntLt 0 v1) 0) fun o2 => lrL o2 fun y1 =>
     S_IsCentre_l1 g t a0 x4 n1 (g.wrap .i64 (g.add v1 1)))
    (
     some (LR.ret false))
def S_IsCentre (g : G) (t : TE) (a0 : Centre) : Option Bool :=
  lP (S_l1In g t (g.llen (t.r_Item a0.Belt)) 2 24) fun x1 =>
  br x1
  (
   cl (S_l7Parts g t a0) fun x2 =>
   br x2
   (
    lP (S_l1In g t a0.Now 0 100000) fun x3 =>
    br x3
    (
     cl (S_l7All g t a0) fun x4 =>
     gd (((g.int (g.dlen (t.d_Item x4))) ≤ 4611686018427387904)) <|
     cl (S_IsCentre_l1 g t a0 x4 (cntLt 0 (g.int (g.dlen (t.d_Item x4)))) 0) fun o1 => lr o1 fun y2 =>
     some true)
    (
     some false))
   (
    some false))
  (
   some false)
theorem fit31 : codeFit Try.prog Try.f31.ntmps (Try.f31.body.getD .skip) ir31 = true := by kernel_rfl
theorem c_S_IsCentre {g : G} {t : TE} {a0 : Centre} {r : Bool} (hg : g = G.real) (ht : t = TE.real) (h : S_IsCentre g t a0 = some r) : Fn Try.prog 31 [.g (Centre.rs t a0)] (.c (.r (.v (.bool r)))) := by
  obtain ⟨X, hX⟩ := hide (.c (.r (.v (.bool r))) : X)
  rw [← hX]
  refine fn_of (rvs := rv31) (j := ir31) Try.func31 rfl fit31 (Nat.le_of_ble_eq_true rfl) (by kernel_rfl) prog_mixed ?_
  intro g2 F hg2 hF
  obtain rfl : g2 = g := hg2.unique.trans hg.symm
  clear hg2
  obtain ⟨wrap, lt, le, eq, quo, rem, band, bor, bxor, shl, shr, nat, int, add, sub, mul, cat, seq, slt, sub3, byte, llen, nadd, nsub, dlen, dapp, dset, drep, rd, rda, up, rsub, dsub, all, sle, slen, hasI, putI, hasS, putS, imin, imax, fzc⟩ := g2
  obtain ⟨r_Item, d_Item, r_Chute, d_Chute, r_Inlet, d_Inlet, r_I64, d_I64, r_U8, d_U8, d_InletF⟩ := t
  obtain ⟨a0_Belt, a0_Chutes, a0_Inlets, a0_Plan, a0_Now⟩ := a0
  unfold S_IsCentre at h
  try dsimp only at h
  cbv
  obtain ⟨x1, hx1, h⟩ := of_lP h
  try dsimp only at h
  refine ACall.mk _ _ rfl (hF _ _ _ (c_S_l1In hg ht hx1)) (.inl rfl) (Nat.le_of_ble_eq_true rfl) ?_
  cbv
  cases hb1 : x1 with
  | true =>
    rw [br_true hb1] at h
    cbv
    try (rw [hb1]; cbv)
    obtain ⟨x2, hx2, h⟩ := of_cl h
    try dsimp only at h
    refine ACall.mk _ _ rfl (hF _ _ _ (c_S_l7Parts hg ht hx2)) (.inl rfl) (Nat.le_of_ble_eq_true rfl) ?_
    cbv
    try (rw [hb1]; cbv)
    try (rw [hb1]; cbv)
    cases hb2 : x2 with
    | true =>
      rw [br_true hb2] at h
      cbv
      try (rw [hb2]; cbv)
      try (rw [hb2]; cbv)
      obtain ⟨x3, hx3, h⟩ := of_lP h
      try dsimp only at h
      refine ACall.mk _ _ rfl (hF _ _ _ (c_S_l1In hg ht hx3)) (.inl rfl) (Nat.le_of_ble_eq_true rfl) ?_
      cbv
      try (rw [hb2]; cbv)
      try (rw [hb2]; cbv)
      cases hb3 : x3 with
      | true =>
        rw [br_true hb3] at h
        cbv
        obtain ⟨x4, hx4, h⟩ := of_cl h
        try dsimp only at h
        refine ACall.mk _ _ rfl (hF _ _ _ (c_S_l7All hg ht hx4)) (.inl rfl) (Nat.le_of_ble_eq_true rfl) ?_
        cbv
        obtain ⟨hB1, h⟩ := of_gd h
        obtain ⟨o1, ho1, h⟩ := of_cl h
        try dsimp only at h
        try rw [hg] at ho1
        try rw [ht] at ho1
        refine ABL.mk { p : Nat × Int // p.1 = cntLt p.2 (int (dlen (d_Item x4))) ∧ 0 ≤ p.2 ∧ S_IsCentre_l1 G.real TE.real (Centre.mk a0_Belt a0_Chutes a0_Inlets a0_Plan a0_Now) x4 p.1 p.2 = some o1 } (fun ⟨⟨n1, v1⟩, _⟩ => ({ sl := [(1, .c (.p 0 5 0 0)), (3, .c (.f 1 2 0 (dlen (d_Item x4)))), (4, .c (.r (.v (.int .i64 v1))))], tab := [(0, some (.foc 5 [] [.r (.s 2 (r_Item a0_Belt)), .r (.s 3 (r_Chute a0_Chutes)), .r (.s 2 (r_Inlet a0_Inlets)), .r (.s 1 (r_I64 a0_Plan)), .r (.v (.int .i64 a0_Now))] [])), (1, some (.arr 2 (d_Item x4)))] } : St)) 2 (fun p => p.1.1) ⟨(cntLt 0 (int (dlen (d_Item x4))), 0), rfl, Int.le_refl _, ho1⟩ (Unit) (fun _ => ({ sl := [], tab := [] } : St)) 0 (fun y => o1 = LR.out y) ?_ ?_ ?_
        · refine Wk.of [(0, some 0), (1, some 304)] rfl rfl ?_ ?_
          · cbv
            all_goals exact ⟨⟨_, rfl, rfl⟩, ⟨_, rfl, rfl⟩, ⟨_, rfl, rfl⟩, trivial⟩
          · cbv
            all_goals exact ⟨⟨_, rfl, _, rfl, rfl, rfl, rfl, rfl, rfl, trivial⟩, ⟨_, rfl, rfl⟩, trivial⟩
        · rintro ⟨⟨n1, v1⟩, hn1, hi1, h_1⟩ hq1
          try dsimp only at hn1 hi1 h_1
          clear hq1
          cbv
          rcases n1 with _ | n1
          · have hb4 : lt v1 (int (dlen (d_Item x4))) = false := ltC_false hg hn1
            rw [S_IsCentre_l1] at h_1
            try rw [← hg] at h_1
            try rw [← ht] at h_1
            try dsimp only at h_1
            rw [hb4]
            cbv
            refine ⟨(), Wk.of [] rfl rfl ?_ ?_, (Option.some.inj h_1).symm⟩
            · cbv
              all_goals exact trivial
            · cbv
              all_goals exact trivial
          · have hb4 : lt v1 (int (dlen (d_Item x4))) = true := ltC_true hg hn1
            have hl1 := ltC_le hn1
            have hs1 := stepltC hg hn1 hi1 hB1 (by decide)
            rw [S_IsCentre_l1] at h_1
            try rw [← hg] at h_1
            try rw [← ht] at h_1
            try dsimp only at h_1
            rw [hb4]
            cbv
            refine AStep.mk (rg_int hg hi1 hl1) ?_
            cbv
            obtain ⟨x5, hx5, h_1⟩ := of_gt h_1
            obtain ⟨x5_Id, x5_Dest⟩ := x5
            try dsimp only at h_1
            refine AGet.mk _ (d_get_Item hg ht hx5) ?_
            cbv
            obtain ⟨x6, hx6, h_1⟩ := of_lP h_1
            try dsimp only at h_1
            refine ACall.mk _ _ rfl (hF _ _ _ (c_S_l7Item hg ht hx6)) (.inl rfl) (Nat.le_of_ble_eq_true rfl) ?_
            cbv
            cases hb5 : x6 with
            | true =>
              rw [br_true hb5] at h_1
              cbv
              obtain ⟨hB2, h_1⟩ := of_gd h_1
              obtain ⟨o2, ho2, h_1⟩ := of_cl h_1
              try dsimp only at h_1
              try rw [hg] at ho2
              try rw [ht] at ho2
              refine ABL.mk { p : Nat × Int // p.1 = cntLt p.2 v1 ∧ 0 ≤ p.2 ∧ S_IsCentre_l2 G.real TE.real x4 (Item.mk x5_Id x5_Dest) p.1 p.2 = some o2 } (fun ⟨⟨n2, v2⟩, _⟩ => ({ sl := [(1, .c (.p 0 5 0 0)), (3, .c (.f 1 2 0 (dlen (d_Item x4)))), (4, .c (.r (.v (.int .i64 v1)))), (5, .c (.r (.v (.int .i64 v2))))], tab := [(0, some (.foc 5 [] [.r (.s 2 (r_Item a0_Belt)), .r (.s 3 (r_Chute a0_Chutes)), .r (.s 2 (r_Inlet a0_Inlets)), .r (.s 1 (r_I64 a0_Plan)), .r (.v (.int .i64 a0_Now))] [])), (1, some (.arr 2 (d_Item x4)))] } : St)) 2 (fun p => p.1.1) ⟨(cntLt 0 v1, 0), rfl, Int.le_refl _, ho2⟩ (Unit) (fun _ => ({ sl := [(1, .c (.p 0 5 0 0)), (3, .c (.f 1 2 0 (dlen (d_Item x4)))), (4, .c (.r (.v (.int .i64 v1))))], tab := [(0, some (.foc 5 [] [.r (.s 2 (r_Item a0_Belt)), .r (.s 3 (r_Chute a0_Chutes)), .r (.s 2 (r_Inlet a0_Inlets)), .r (.s 1 (r_I64 a0_Plan)), .r (.v (.int .i64 a0_Now))] [])), (1, some (.arr 2 (d_Item x4)))] } : St)) 2 (fun y => o2 = LR.out y) ?_ ?_ ?_
              · refine Wk.of [(0, some 0), (1, some 1)] rfl rfl ?_ ?_
                · cbv
                  all_goals exact ⟨⟨_, rfl, rfl⟩, ⟨_, rfl, rfl⟩, ⟨_, rfl, rfl⟩, ⟨_, rfl, rfl⟩, trivial⟩
                · cbv
                  all_goals exact ⟨⟨_, rfl, _, rfl, rfl, rfl, rfl, rfl, rfl, trivial⟩, ⟨_, rfl, rfl⟩, trivial⟩
              · rintro ⟨⟨n2, v2⟩, hn2, hi2, h_2⟩ hq2
                try dsimp only at hn2 hi2 h_2
                clear hq2
                cbv
                rcases n2 with _ | n2
                · have hb6 : lt v2 v1 = false := ltC_false hg hn2
                  rw [S_IsCentre_l2] at h_2
                  try rw [← hg] at h_2
                  try rw [← ht] at h_2
                  try dsimp only at h_2
                  rw [hb6]
                  cbv
                  refine ⟨(), Wk.of [(0, some 0), (1, some 1)] rfl rfl ?_ ?_, (Option.some.inj h_2).symm⟩
                  · cbv
                    all_goals exact ⟨⟨_, rfl, rfl⟩, ⟨_, rfl, rfl⟩, ⟨_, rfl, rfl⟩, trivial⟩
                  · cbv
                    all_goals exact ⟨⟨_, rfl, _, rfl, rfl, rfl, rfl, rfl, rfl, trivial⟩, ⟨_, rfl, rfl⟩, trivial⟩
                · have hb6 : lt v2 v1 = true := ltC_true hg hn2
                  have hl2 := ltC_le hn2
                  have hs2 := stepltC hg hn2 hi2 hB2 (by decide)
                  rw [S_IsCentre_l2] at h_2
                  try rw [← hg] at h_2
                  try rw [← ht] at h_2
                  try dsimp only at h_2
                  rw [hb6]
                  cbv
                  obtain ⟨hc1, h_2⟩ := of_gd h_2
                  refine AStep.mk hc1 ?_
                  cbv
                  obtain ⟨x7, hx7, h_2⟩ := of_gt h_2
                  obtain ⟨x7_Id, x7_Dest⟩ := x7
                  try dsimp only at h_2
                  refine AGet.mk _ (d_get_Item hg ht hx7) ?_
                  cbv
                  refine AStep.mk (rg_int hg hi1 hl1) ?_
                  cbv
                  refine AGet.mk _ (d_get_Item hg ht hx5) ?_
                  cbv
                  cases hb7 : (eq x7_Id x5_Id) with
                  | true =>
                    rw [br_true hb7] at h_2
                    cbv
                    obtain rfl := Option.some.inj h_2
                    try dsimp only [lr, lrL, lrp, lrpL] at h_1
                    obtain rfl := Option.some.inj h_1
                    try dsimp only [lr, lrL, lrp, lrpL] at h
                    obtain rfl := Option.some.inj h
                    exact ARet.mk trivial hX.symm
                  | false =>
                    rw [br_false hb7] at h_2
                    cbv
                    try rw [hg] at h_2
                    try rw [ht] at h_2
                    refine ⟨⟨(n2, (wrap .i64 (add v2 1))), hs2.1, hs2.2, h_2⟩, Wk.of [(0, some 0), (1, some 1)] rfl rfl ?_ ?_, Nat.lt_succ_self _⟩
                    · cbv
                      all_goals exact ⟨⟨_, rfl, rfl⟩, ⟨_, rfl, rfl⟩, ⟨_, rfl, rfl⟩, ⟨_, rfl, rfl⟩, trivial⟩
                    · cbv
                      all_goals exact ⟨⟨_, rfl, _, rfl, rfl, rfl, rfl, rfl, rfl, trivial⟩, ⟨_, rfl, rfl⟩, trivial⟩
              · rintro _ hy2
                replace hy2 := hy2.symm
                subst hy2
                try dsimp only [lr, lrL, lrp, lrpL] at h_1
                cbv
                try rw [hg] at h_1
                try rw [ht] at h_1
                refine ⟨⟨(n1, (wrap .i64 (add v1 1))), hs1.1, hs1.2, h_1⟩, Wk.of [(0, some 0), (1, some 1)] rfl rfl ?_ ?_, Nat.lt_succ_self _⟩
                · cbv
                  all_goals exact ⟨⟨_, rfl, rfl⟩, ⟨_, rfl, rfl⟩, ⟨_, rfl, rfl⟩, trivial⟩
                · cbv
                  all_goals exact ⟨⟨_, rfl, _, rfl, rfl, rfl, rfl, rfl, rfl, trivial⟩, ⟨_, rfl, rfl⟩, trivial⟩
            | false =>
              rw [br_false hb5] at h_1
              cbv
              obtain rfl := Option.some.inj h_1
              try dsimp only [lr, lrL, lrp, lrpL] at h
              obtain rfl := Option.some.inj h
              exact ARet.mk trivial hX.symm
        · rintro _ hy1
          replace hy1 := hy1.symm
          subst hy1
          try dsimp only [lr, lrL, lrp, lrpL] at h
          cbv
          obtain rfl := Option.some.inj h
          exact ARet.mk trivial hX.symm
      | false =>
        rw [br_false hb3] at h
        cbv
        obtain rfl := Option.some.inj h
        exact ARet.mk trivial hX.symm
    | false =>
      rw [br_false hb2] at h
      cbv
      try (rw [hb2]; cbv)
      try (rw [hb2]; cbv)
      try (rw [hb2]; cbv)
      try (rw [hb2]; cbv)
      obtain rfl := Option.some.inj h
      exact ARet.mk trivial hX.symm
  | false =>
    rw [br_false hb1] at h
    cbv
    try (rw [hb1]; cbv)
    try (rw [hb1]; cbv)
    try (rw [hb1]; cbv)
    obtain rfl := Option.some.inj h
    exact ARet.mk trivial hX.symm
end Go.Vs
namespace Go.Vs
set_option maxRecDepth 100000
def ir96 : J :=
  .seq (.reg none [⟨(some 2), none, .mv (.k (.c (.n 1)))⟩] [0])
  (.seq (.reg none [⟨(some 3), none, .bsl 1 []⟩,
     ⟨(some 4), none, .mv (.t 0)⟩,
     ⟨(some 5), none, .app 1 8 false (.t 3) (.t 4)⟩,
     ⟨(some 2), none, .mv (.t 5)⟩] [2])
  (.ret))
def rv96 : List RV := [.t 2]
open Go.Proofs Go.IntWalk
set_option linter.unusedVariables false
set_option maxRecDepth 100000
set_option maxHeartbeats 4000000
def S_l1Ints (g : G) (t : TE) (a0 : List Int) : Option (List Int) :=
  lP ([]) fun (l1 : List Int) =>
  gd (((l1.length + a0.length) * 8 ≤ 70368744177664)) <|
  lP (l1 ++ a0) fun (l2 : List Int) =>
  some l2
theorem fit96 : codeFit Try.prog Try.f96.ntmps (Try.f96.body.getD .skip) ir96 = true := by kernel_rfl
theorem c_S_l1Ints {g : G} {t : TE} {a0 : List Int} {r : List Int} (hg : g = G.real) (ht : t = TE.real) (h : S_l1Ints g t a0 = some r) : Fn Try.prog 96 [.c (.s 1 (t.r_I64 a0))] (.c (.o 1 (t.d_I64 r))) := by
  obtain ⟨X, hX⟩ := hide (.c (.o 1 (t.d_I64 r)) : X)
  rw [← hX]
  refine fn_of (rvs := rv96) (j := ir96) Try.func96 rfl fit96 (Nat.le_of_ble_eq_true rfl) (by kernel_rfl) prog_mixed ?_
  intro g2 F hg2 hF
  obtain rfl : g2 = g := hg2.unique.trans hg.symm
  clear hg2
  obtain ⟨wrap, lt, le, eq, quo, rem, band, bor, bxor, shl, shr, nat, int, add, sub, mul, cat, seq, slt, sub3, byte, llen, nadd, nsub, dlen, dapp, dset, drep, rd, rda, up, rsub, dsub, all, sle, slen, hasI, putI, hasS, putS, imin, imax, fzc⟩ := g2
  obtain ⟨r_Item, d_Item, r_Chute, d_Chute, r_Inlet, d_Inlet, r_I64, d_I64, r_U8, d_U8, d_InletF⟩ := t
  unfold S_l1Ints at h
  try dsimp only at h
  cbv
  obtain ⟨l1, hl1, h⟩ := of_lP h
  try dsimp only at h
  refine ANew.mk (d_I64 l1) (dlen (d_I64 l1)) (by rw [← hl1]; exact lit_I64 hg ht []) (by rw [← hl1]; exact litn_I64 hg ht []) ?_
  cbv
  obtain ⟨hc1, h⟩ := of_gd h
  refine AStep.mk (app_ok_I64 hg ht (dlen_I64 hg ht _) (up_I64 hg ht _) hc1) ?_
  cbv
  obtain ⟨l2, hl2, h⟩ := of_lP h
  try dsimp only at h
  refine ANew.mk (d_I64 l2) (dlen (d_I64 l2)) (by rw [← hl2]; exact app_I64 hg ht (dlen_I64 hg ht _) (up_I64 hg ht _)) (by rw [← hl2]; exact appl_I64 hg ht (dlen_I64 hg ht _) (up_I64 hg ht _)) ?_
  cbv
  obtain rfl := Option.some.inj h
  exact ARet.mk ⟨rfl, (dlen_I64 hg ht _)⟩ hX.symm
end Go.Vs
namespace Go.Vs
set_option maxRecDepth 100000
def ir44 : J :=
  .seq (.reg none [⟨(some 10), none, .alloc [.n 2, .n 3, .n 2, .n 1, .r (.v (.int .i64 0))]⟩,
     ⟨(some 11), none, .mv (.k (V.b false))⟩] [0, 1, 2, 3, 4, 10])
  (.seq (.seq (.reg none [⟨(some 15), none, .mv (.t 0)⟩,
      ⟨(some 16), none, .call 85 true [(.t 15), (.k (V.i 2)), (.k (V.i 24))]⟩,
      ⟨(some 17), none, .not (.t 16)⟩] [0, 1, 2, 3, 4, 10, 17])
   (.cond (.t 17)
    (.seq (.reg none [⟨(some 18), none, .bld [.n 2, .n 3, .n 2, .n 1, .r (.v (.int .i64 0))] []⟩,
        ⟨none, none, .st 5 (.t 10) (.t 18)⟩,
        ⟨(some 11), none, .mv (.k (V.b false))⟩] [10, 11])
     (.ret))
    (.skip)))
  (.seq (.reg (some [[], [0], [], [2], [0, 1, 2, 3], [], [0, 1, 2, 3, 4, 5]]) [⟨(some 19), none, .mv (.t 0)⟩,
     ⟨(some 20), none, .mk 2 16 [.r (.v (.int .i64 0)), .r (.v (.int .i64 0))] (.t 19)⟩,
     ⟨(some 21), none, .mv (.t 4)⟩,
     ⟨(some 22), none, .call 96 true [(.t 21)]⟩,
     ⟨(some 23), none, .bld [.n 2, .n 3, .n 2, .n 1, .r (.v (.int .i64 0))] [(0, 1, (.t 20)), (3, 1, (.t 22))]⟩,
     ⟨(some 12), none, .alloc [.n 2, .n 3, .n 2, .n 1, .r (.v (.int .i64 0))]⟩,
     ⟨none, none, .st 5 (.t 12) (.t 23)⟩] [1, 2, 3, 10, 12])
  (.seq (.seq (.reg none [⟨(some 13), none, .mv (.k (V.i 0))⟩] [1, 2, 3, 10, 12, 13])
   (.bl 0 (.seq (.seq (.reg none [⟨(some 24), none, .mv (.t 13)⟩,
        ⟨(some 25), none, .mv (.t 1)⟩,
        ⟨(some 26), none, .len false (.t 25)⟩,
        ⟨(some 27), none, .bin .lss .i (.t 24) (.t 26)⟩] [1, 2, 3, 10, 12, 13, 27])
     (.cond (.t 27)
      (.skip)
      (.exit 0)))
    (.seq (.block 1 (.reg (some [[], [0], [], [], [2, 3], [2, 3, 4], [], [2, 3, 4, 5, 6], [2, 3, 4, 5, 6, 7], [0, 1, 2, 3, 4, 5, 6, 7, 8], [0, 1, 2, 3, 4, 5, 6, 7, 8, 9], [0, 1, 2, 3, 4, 5, 6, 7, 8, 9, 10]]) [⟨(some 30), none, .fa 1 (.t 12)⟩,
        ⟨(some 31), none, .ld false 1 (.t 30)⟩,
        ⟨(some 32), none, .mv (.t 1)⟩,
        ⟨(some 33), none, .mv (.t 13)⟩,
        ⟨(some 34), none, .ia 1 (.t 32) (.t 33)⟩,
        ⟨(some 35), none, .ld false 1 (.t 34)⟩,
        ⟨(some 36), none, .mv (.t 2)⟩,
        ⟨(some 37), none, .bld [.r (.v (.int .i64 0)), .r (.v (.int .i64 0)), .n 2] [(0, 1, (.t 35)), (1, 1, (.t 36))]⟩,
        ⟨(some 38), none, .bsl 3 [(.t 37)]⟩,
        ⟨(some 39), none, .app 3 40 true (.t 31) (.t 38)⟩,
        ⟨(some 40), none, .fa 1 (.t 12)⟩,
        ⟨none, none, .st 1 (.t 40) (.t 39)⟩] [1, 2, 3, 10, 12, 13]))
    (.reg none [⟨(some 28), none, .mv (.t 13)⟩,
      ⟨(some 29), none, .bin .add .i (.t 28) (.k (V.i 1))⟩,
      ⟨(some 13), none, .mv (.t 29)⟩] [1, 2, 3, 10, 12, 13])))))
  (.seq (.seq (.reg none [⟨(some 14), none, .mv (.k (V.i 0))⟩] [3, 10, 12, 14])
   (.bl 2 (.seq (.seq (.reg none [⟨(some 41), none, .mv (.t 14)⟩,
        ⟨(some 42), none, .mv (.t 3)⟩,
        ⟨(some 43), none, .len false (.t 42)⟩,
        ⟨(some 44), none, .bin .lss .i (.t 41) (.t 43)⟩] [3, 10, 12, 14, 44])
     (.cond (.t 44)
      (.skip)
      (.exit 2)))
    (.seq (.block 3 (.reg (some [[], [0], [], [], [2, 3], [2, 3, 4], [2, 3, 4, 5], [2, 3, 4, 5, 6], [0, 1, 2, 3, 4, 5, 6, 7], [0, 1, 2, 3, 4, 5, 6, 7, 8], [0, 1, 2, 3, 4, 5, 6, 7, 8, 9]]) [⟨(some 47), none, .fa 2 (.t 12)⟩,
        ⟨(some 48), none, .ld false 1 (.t 47)⟩,
        ⟨(some 49), none, .mv (.t 3)⟩,
        ⟨(some 50), none, .mv (.t 14)⟩,
        ⟨(some 51), none, .ia 1 (.t 49) (.t 50)⟩,
        ⟨(some 52), none, .ld false 1 (.t 51)⟩,
        ⟨(some 53), none, .bld [.r (.v (.int .i64 0)), .n 2] [(0, 1, (.t 52))]⟩,
        ⟨(some 54), none, .bsl 2 [(.t 53)]⟩,
        ⟨(some 55), none, .app 2 32 true (.t 48) (.t 54)⟩,
        ⟨(some 56), none, .fa 2 (.t 12)⟩,
        ⟨none, none, .st 1 (.t 56) (.t 55)⟩] [3, 10, 12, 14]))
    (.reg none [⟨(some 45), none, .mv (.t 14)⟩,
      ⟨(some 46), none, .bin .add .i (.t 45) (.k (V.i 1))⟩,
      ⟨(some 14), none, .mv (.t 46)⟩] [3, 10, 12, 14])))))
  (.seq (.seq (.reg none [⟨(some 57), none, .ld true 5 (.t 12)⟩,
      ⟨(some 58), none, .call 31 true [(.t 57)]⟩,
      ⟨(some 59), none, .not (.t 58)⟩] [10, 12, 59])
   (.cond (.t 59)
    (.seq (.reg none [⟨(some 60), none, .bld [.n 2, .n 3, .n 2, .n 1, .r (.v (.int .i64 0))] []⟩,
        ⟨none, none, .st 5 (.t 10) (.t 60)⟩,
        ⟨(some 11), none, .mv (.k (V.b false))⟩] [10, 11])
     (.ret))
    (.skip)))
  (.seq (.reg none [⟨(some 61), none, .ld true 5 (.t 12)⟩,
     ⟨none, none, .st 5 (.t 10) (.t 61)⟩,
     ⟨(some 11), none, .mv (.k (V.b true))⟩] [10, 11])
  (.ret)))))))
def rv44 : List RV := [.c 10 true 5, .t 11]
open Go.Proofs Go.IntWalk
set_option linter.unusedVariables false
set_option maxRecDepth 100000
set_option maxHeartbeats 4000000
def S_NewCentre_l2 (g : G) (t : TE) : List Int → List Inlet → Option (List Inlet)
  | [], w2 =>
    some w2
  | z2 :: ls2, w2 =>
    lP ([(Inlet.mk z2 [])]) fun (l4 : List Inlet) =>
    gd (((w2.length + l4.length) * 32 ≤ 70368744177664)) <|
    lP (w2 ++ l4) fun (l5 : List Inlet) =>
    S_NewCentre_l2 g t ls2 l5
def S_NewCentre_l1 (g : G) (t : TE) (a2 : Int) : List Int → List Chute → Option (List Chute)
  | [], w1 =>
    some w1
  | z1 :: ls1, w1 =>
    lP ([(Chute.mk z1 a2 [])]) fun (l2 : List Chute) =>
    gd (((w1.length + l2.length) * 40 ≤ 70368744177664)) <|
    lP (w1 ++ l2) fun (l3 : List Chute) =>
    S_NewCentre_l1 g t a2 ls1 l3
def S_NewCentre (g : G) (t : TE) (a0 : Int) (a1 : List Int) (a2 : Int) (a3 : List Int) (a4 : List Int) : Option (Centre × Bool) :=
  lP (S_l1In g t a0 2 24) fun x1 =>
  br x1
  (
   gd (((0 : Int) ≤ a0 ∧ 16 * a0 ≤ 70368744177664 ∧ a0 ≤ 4611686018427387904)) <|
   lP (List.replicate (g.nat a0) (Item.mk 0 0)) fun (l1 : List Item) =>
   cl (S_l1Ints g t a4) fun x2 =>
   cl (S_NewCentre_l1 g t a2 a1 []) fun y1 =>
   cl (S_NewCentre_l2 g t a3 []) fun y2 =>
   cl (S_IsCentre g t (Centre.mk l1 y1 y2 x2 0)) fun x3 =>
   br x3
   (
    some (((Centre.mk l1 y1 y2 x2 0), true)))
   (
    some (((Centre.mk [] [] [] [] 0), false))))
  (
   some (((Centre.mk [] [] [] [] 0), false)))
theorem fit44 : codeFit Try.prog Try.f44.ntmps (Try.f44.body.getD .skip) ir44 = true := by kernel_rfl
theorem c_S_NewCentre {g : G} {t : TE} {a0 : Int} {a1 : List Int} {a2 : Int} {a3 : List Int} {a4 : List Int} {r : Centre × Bool} (hg : g = G.real) (ht : t = TE.real) (h : S_NewCentre g t a0 a1 a2 a3 a4 = some r) : Fn Try.prog 44 [.c (.v (.int .i64 a0)), .c (.s 1 (t.r_I64 a1)), .c (.v (.int .i64 a2)), .c (.s 1 (t.r_I64 a3)), .c (.s 1 (t.r_I64 a4))] (.u [.g (Centre.ds t r.1), .c (.r (.v (.bool r.2)))]) := by
  obtain ⟨X, hX⟩ := hide (.u [.g (Centre.ds t r.1), .c (.r (.v (.bool r.2)))] : X)
  rw [← hX]
  refine fn_of (rvs := rv44) (j := ir44) Try.func44 rfl fit44 (Nat.le_of_ble_eq_true rfl) (by kernel_rfl) prog_mixed ?_
  intro g2 F hg2 hF
  obtain rfl : g2 = g := hg2.unique.trans hg.symm
  clear hg2
  obtain ⟨wrap, lt, le, eq, quo, rem, band, bor, bxor, shl, shr, nat, int, add, sub, mul, cat, seq, slt, sub3, byte, llen, nadd, nsub, dlen, dapp, dset, drep, rd, rda, up, rsub, dsub, all, sle, slen, hasI, putI, hasS, putS, imin, imax, fzc⟩ := g2
  obtain ⟨r_Item, d_Item, r_Chute, d_Chute, r_Inlet, d_Inlet, r_I64, d_I64, r_U8, d_U8, d_InletF⟩ := t
  have hnil_Item : d_Item [] = [] := d_nil_Item ht
  have hnil_Chute : d_Chute [] = [] := d_nil_Chute ht
  have hnil_Inlet : d_Inlet [] = [] := d_nil_Inlet ht
  have hnil_I64 : d_I64 [] = [] := d_nil_I64 ht
  have hnil_U8 : d_U8 [] = [] := d_nil_U8 ht
  unfold S_NewCentre at h
  try dsimp only at h
  cbv
  obtain ⟨x1, hx1, h⟩ := of_lP h
  try dsimp only at h
  refine ACall.mk _ _ rfl (hF _ _ _ (c_S_l1In hg ht hx1)) (.inl rfl) (Nat.le_of_ble_eq_true rfl) ?_
  cbv
  cases hb1 : x1 with
  | true =>
    rw [br_true hb1] at h
    cbv
    obtain ⟨hc3, h⟩ := of_gd h
    refine AStep.mk (mk_ok hc3) ?_
    cbv
    obtain ⟨l1, hl1, h⟩ := of_lP h
    try dsimp only at h
    refine ANew.mk (d_Item l1) (dlen (d_Item l1)) (by rw [← hl1]; exact drep_Item hg ht _ (Item.mk 0 0)) (by rw [← hl1]; exact drepn_Item hg ht _ (Item.mk 0 0)) ?_
    cbv
    obtain ⟨x2, hx2, h⟩ := of_cl h
    try dsimp only at h
    refine ACall.mk _ _ rfl (hF _ _ _ (c_S_l1Ints hg ht hx2)) (.inl rfl) (Nat.le_of_ble_eq_true rfl) ?_
    cbv
    obtain ⟨o1, ho1, h⟩ := of_cl h
    try dsimp only at h
    try rw [hg] at ho1
    try rw [ht] at ho1
    refine ABL.mk { p : Nat × Int × List Chute // p.1 ≤ a1.length ∧ p.2.1 = ((p.1 : Nat) : Int) ∧ S_NewCentre_l1 G.real TE.real a2 (List.drop p.1 a1) p.2.2 = some o1 } (fun ⟨⟨k1, v1, w1⟩, _⟩ => ({ sl := [(1, .c (.r (.s 1 (r_I64 a1)))), (2, .c (.r (.v (.int .i64 a2)))), (3, .c (.r (.s 1 (r_I64 a3)))), (10, .c (.p 0 5 0 0)), (12, .c (.p 1 5 0 0)), (13, .c (.r (.v (.int .i64 v1))))], tab := [(0, some (.foc 5 [] [.n 2, .n 3, .n 2, .n 1, .r (.v (.int .i64 0))] [])), (1, some (.foc 5 [] [.f 2 2 0 (dlen (d_Item l1)), .f 3 3 0 (dlen (d_Chute w1)), .n 2, .f 4 1 0 (dlen (d_I64 x2)), .r (.v (.int .i64 0))] [])), (2, some (.arr 2 (d_Item l1))), (3, some (.arr 3 (d_Chute w1))), (4, some (.arr 1 (d_I64 x2)))] } : St)) 5 (fun p => a1.length - p.1.1) ⟨(0, 0, []), Nat.zero_le _, rfl, ho1⟩ (List Chute) (fun y1 => ({ sl := [(3, .c (.r (.s 1 (r_I64 a3)))), (10, .c (.p 0 5 0 0)), (12, .c (.p 1 5 0 0))], tab := [(0, some (.foc 5 [] [.n 2, .n 3, .n 2, .n 1, .r (.v (.int .i64 0))] [])), (1, some (.foc 5 [] [.f 2 2 0 (dlen (d_Item l1)), .f 3 3 0 (dlen (d_Chute y1)), .n 2, .f 4 1 0 (dlen (d_I64 x2)), .r (.v (.int .i64 0))] [])), (2, some (.arr 2 (d_Item l1))), (3, some (.arr 3 (d_Chute y1))), (4, some (.arr 1 (d_I64 x2)))] } : St)) 5 (fun y => o1 = y) ?_ ?_ ?_
    · refine Wk.of [(0, some 0), (1, some 160), (2, some 96), (3, none), (4, some 128)] rfl rfl ?_ ?_
      · cbv
        all_goals try rw [show dlen (d_Chute []) = 0 from dlen_nil_Chute hg ht]
        all_goals try rw [hnil_Chute]
        all_goals exact ⟨⟨_, rfl, rfl⟩, ⟨_, rfl, rfl⟩, ⟨_, rfl, rfl⟩, ⟨_, rfl, rfl⟩, ⟨_, rfl, rfl⟩, ⟨_, rfl, rfl⟩, trivial⟩
      · cbv
        all_goals try rw [show dlen (d_Chute []) = 0 from dlen_nil_Chute hg ht]
        all_goals try rw [hnil_Chute]
        all_goals exact ⟨⟨_, rfl, _, rfl, rfl, rfl, rfl, rfl, rfl, trivial⟩, ⟨_, rfl, _, rfl, rfl, ⟨⟨_, rfl⟩, rfl, rfl⟩, rfl, rfl, rfl, trivial⟩, ⟨_, rfl, rfl⟩, ⟨_, rfl⟩, ⟨_, rfl, rfl⟩, trivial⟩
    · rintro ⟨⟨k1, v1, w1⟩, hk1, hi1, h_1⟩ hq1
      have hm1 := (hq1.1 1 _ _ rfl)
      try dsimp only at hk1 hi1 h_1
      clear hq1
      cbv
      by_cases hc1_ : k1 < a1.length
      · have hb2 : lt v1 (llen (r_I64 a1)) = true := ltL_true_I64 hg ht hi1 hc1_
        have hs1 := stepL_I64 hg ht hi1 hc1_ hm1
        obtain ⟨z1, hz1⟩ := some_of_lt hc1_
        rw [drop_of_some hz1] at h_1
        rw [S_NewCentre_l1] at h_1
        try rw [← hg] at h_1
        try rw [← ht] at h_1
        try dsimp only at h_1
        rw [hb2]
        cbv
        refine AStep.mk (nn_L hi1) ?_
        cbv
        refine AGet.mk _ (r_getL_I64 hg ht hi1 hz1) ?_
        cbv
        obtain ⟨l2, hl2, h_1⟩ := of_lP h_1
        try dsimp only at h_1
        refine ANew.mk (d_Chute l2) (dlen (d_Chute l2)) (by rw [← hl2]; have e := lit_Chute hg ht [(Chute.mk z1 a2 [])]; dsimp only [List.map, Chute.ds] at e; (try simp only [hnil_Item, hnil_Chute, hnil_Inlet, hnil_I64, hnil_U8] at e); exact e) (by rw [← hl2]; exact litn_Chute hg ht [(Chute.mk z1 a2 [])]) ?_
        cbv
        obtain ⟨hc1, h_1⟩ := of_gd h_1
        refine AStep.mk ⟨⟨rfl, (dlen_Chute hg ht _)⟩, (app_ok_Chute hg ht (dlen_Chute hg ht _) rfl hc1)⟩ ?_
        cbv
        obtain ⟨l3, hl3, h_1⟩ := of_lP h_1
        try dsimp only at h_1
        refine ANew.mk (d_Chute l3) (dlen (d_Chute l3)) (by rw [← hl3]; exact app_Chute hg ht (dlen_Chute hg ht _) rfl) (by rw [← hl3]; exact appl_Chute hg ht (dlen_Chute hg ht _) rfl) ?_
        cbv
        try rw [hg] at h_1
        try rw [ht] at h_1
        refine ⟨⟨(k1 + 1, (wrap .i64 (add v1 1)), l3), hc1_, hs1, h_1⟩, Wk.of [(0, some 0), (1, some 1), (2, some 2), (3, some 213), (4, some 4)] rfl rfl ?_ ?_, meas_L hc1_⟩
        · cbv
          all_goals exact ⟨⟨_, rfl, rfl⟩, ⟨_, rfl, rfl⟩, ⟨_, rfl, rfl⟩, ⟨_, rfl, rfl⟩, ⟨_, rfl, rfl⟩, ⟨_, rfl, rfl⟩, trivial⟩
        · cbv
          all_goals exact ⟨⟨_, rfl, _, rfl, rfl, rfl, rfl, rfl, rfl, trivial⟩, ⟨_, rfl, _, rfl, rfl, rfl, rfl, rfl, rfl, trivial⟩, ⟨_, rfl, rfl⟩, ⟨_, rfl, rfl⟩, ⟨_, rfl, rfl⟩, trivial⟩
      · have hb2 : lt v1 (llen (r_I64 a1)) = false := ltL_false_I64 hg ht hi1 hc1_
        rw [List.drop_of_length_le (Nat.le_of_not_lt hc1_)] at h_1
        rw [S_NewCentre_l1] at h_1
        try rw [← hg] at h_1
        try rw [← ht] at h_1
        try dsimp only at h_1
        rw [hb2]
        cbv
        refine ⟨w1, Wk.of [(0, some 0), (1, some 1), (2, some 2), (3, some 3), (4, some 4)] rfl rfl ?_ ?_, (Option.some.inj h_1).symm⟩
        · cbv
          all_goals exact ⟨⟨_, rfl, rfl⟩, ⟨_, rfl, rfl⟩, ⟨_, rfl, rfl⟩, trivial⟩
        · cbv
          all_goals exact ⟨⟨_, rfl, _, rfl, rfl, rfl, rfl, rfl, rfl, trivial⟩, ⟨_, rfl, _, rfl, rfl, rfl, rfl, rfl, rfl, trivial⟩, ⟨_, rfl, rfl⟩, ⟨_, rfl, rfl⟩, ⟨_, rfl, rfl⟩, trivial⟩
    · rintro y1 hy1
      replace hy1 := hy1.symm
      subst hy1
      try dsimp only [lr, lrL, lrp, lrpL] at h
      cbv
      obtain ⟨o2, ho2, h⟩ := of_cl h
      try dsimp only at h
      try rw [hg] at ho2
      try rw [ht] at ho2
      refine ABL.mk { p : Nat × Int × List Inlet // p.1 ≤ a3.length ∧ p.2.1 = ((p.1 : Nat) : Int) ∧ S_NewCentre_l2 G.real TE.real (List.drop p.1 a3) p.2.2 = some o2 } (fun ⟨⟨k2, v2, w2⟩, _⟩ => ({ sl := [(3, .c (.r (.s 1 (r_I64 a3)))), (10, .c (.p 0 5 0 0)), (12, .c (.p 1 5 0 0)), (14, .c (.r (.v (.int .i64 v2))))], tab := [(0, some (.foc 5 [] [.n 2, .n 3, .n 2, .n 1, .r (.v (.int .i64 0))] [])), (1, some (.foc 5 [] [.f 2 2 0 (dlen (d_Item l1)), .f 3 3 0 (dlen (d_Chute y1)), .f 4 2 0 (dlen (d_Inlet w2)), .f 5 1 0 (dlen (d_I64 x2)), .r (.v (.int .i64 0))] [])), (2, some (.arr 2 (d_Item l1))), (3, some (.arr 3 (d_Chute y1))), (4, some (.arr 2 (d_Inlet w2))), (5, some (.arr 1 (d_I64 x2)))] } : St)) 6 (fun p => a3.length - p.1.1) ⟨(0, 0, []), Nat.zero_le _, rfl, ho2⟩ (List Inlet) (fun y2 => ({ sl := [(10, .c (.p 0 5 0 0)), (12, .c (.p 1 5 0 0))], tab := [(0, some (.foc 5 [] [.n 2, .n 3, .n 2, .n 1, .r (.v (.int .i64 0))] [])), (1, some (.foc 5 [] [.f 2 2 0 (dlen (d_Item l1)), .f 3 3 0 (dlen (d_Chute y1)), .f 4 2 0 (dlen (d_Inlet y2)), .f 5 1 0 (dlen (d_I64 x2)), .r (.v (.int .i64 0))] [])), (2, some (.arr 2 (d_Item l1))), (3, some (.arr 3 (d_Chute y1))), (4, some (.arr 2 (d_Inlet y2))), (5, some (.arr 1 (d_I64 x2)))] } : St)) 6 (fun y => o2 = y) ?_ ?_ ?_
      · refine Wk.of [(0, some 0), (1, some 1), (2, some 2), (3, some 3), (4, none), (5, some 4)] rfl rfl ?_ ?_
        · cbv
          all_goals try rw [show dlen (d_Inlet []) = 0 from dlen_nil_Inlet hg ht]
          all_goals try rw [hnil_Inlet]
          all_goals exact ⟨⟨_, rfl, rfl⟩, ⟨_, rfl, rfl⟩, ⟨_, rfl, rfl⟩, ⟨_, rfl, rfl⟩, trivial⟩
        · cbv
          all_goals try rw [show dlen (d_Inlet []) = 0 from dlen_nil_Inlet hg ht]
          all_goals try rw [hnil_Inlet]
          all_goals exact ⟨⟨_, rfl, _, rfl, rfl, rfl, rfl, rfl, rfl, trivial⟩, ⟨_, rfl, _, rfl, rfl, rfl, ⟨⟨_, rfl⟩, rfl, rfl⟩, rfl, rfl, trivial⟩, ⟨_, rfl, rfl⟩, ⟨_, rfl, rfl⟩, ⟨_, rfl⟩, ⟨_, rfl, rfl⟩, trivial⟩
      · rintro ⟨⟨k2, v2, w2⟩, hk2, hi2, h_2⟩ hq2
        have hm2 := (hq2.1 3 _ _ rfl)
        try dsimp only at hk2 hi2 h_2
        clear hq2
        cbv
        by_cases hc2_ : k2 < a3.length
        · have hb3 : lt v2 (llen (r_I64 a3)) = true := ltL_true_I64 hg ht hi2 hc2_
          have hs2 := stepL_I64 hg ht hi2 hc2_ hm2
          obtain ⟨z2, hz2⟩ := some_of_lt hc2_
          rw [drop_of_some hz2] at h_2
          rw [S_NewCentre_l2] at h_2
          try rw [← hg] at h_2
          try rw [← ht] at h_2
          try dsimp only at h_2
          rw [hb3]
          cbv
          refine AStep.mk (nn_L hi2) ?_
          cbv
          refine AGet.mk _ (r_getL_I64 hg ht hi2 hz2) ?_
          cbv
          obtain ⟨l4, hl4, h_2⟩ := of_lP h_2
          try dsimp only at h_2
          refine ANew.mk (d_Inlet l4) (dlen (d_Inlet l4)) (by rw [← hl4]; have e := lit_Inlet hg ht [(Inlet.mk z2 [])]; dsimp only [List.map, Inlet.ds] at e; (try simp only [hnil_Item, hnil_Chute, hnil_Inlet, hnil_I64, hnil_U8] at e); exact e) (by rw [← hl4]; exact litn_Inlet hg ht [(Inlet.mk z2 [])]) ?_
          cbv
          obtain ⟨hc2, h_2⟩ := of_gd h_2
          refine AStep.mk ⟨⟨rfl, (dlen_Inlet hg ht _)⟩, (app_ok_Inlet hg ht (dlen_Inlet hg ht _) rfl hc2)⟩ ?_
          cbv
          obtain ⟨l5, hl5, h_2⟩ := of_lP h_2
          try dsimp only at h_2
          refine ANew.mk (d_Inlet l5) (dlen (d_Inlet l5)) (by rw [← hl5]; exact app_Inlet hg ht (dlen_Inlet hg ht _) rfl) (by rw [← hl5]; exact appl_Inlet hg ht (dlen_Inlet hg ht _) rfl) ?_
          cbv
          try rw [hg] at h_2
          try rw [ht] at h_2
          refine ⟨⟨(k2 + 1, (wrap .i64 (add v2 1)), l5), hc2_, hs2, h_2⟩, Wk.of [(0, some 0), (1, some 1), (2, some 2), (3, some 3), (4, some 198), (5, some 5)] rfl rfl ?_ ?_, meas_L hc2_⟩
          · cbv
            all_goals exact ⟨⟨_, rfl, rfl⟩, ⟨_, rfl, rfl⟩, ⟨_, rfl, rfl⟩, ⟨_, rfl, rfl⟩, trivial⟩
          · cbv
            all_goals exact ⟨⟨_, rfl, _, rfl, rfl, rfl, rfl, rfl, rfl, trivial⟩, ⟨_, rfl, _, rfl, rfl, rfl, rfl, rfl, rfl, trivial⟩, ⟨_, rfl, rfl⟩, ⟨_, rfl, rfl⟩, ⟨_, rfl, rfl⟩, ⟨_, rfl, rfl⟩, trivial⟩
        · have hb3 : lt v2 (llen (r_I64 a3)) = false := ltL_false_I64 hg ht hi2 hc2_
          rw [List.drop_of_length_le (Nat.le_of_not_lt hc2_)] at h_2
          rw [S_NewCentre_l2] at h_2
          try rw [← hg] at h_2
          try rw [← ht] at h_2
          try dsimp only at h_2
          rw [hb3]
          cbv
          refine ⟨w2, Wk.of [(0, some 0), (1, some 1), (2, some 2), (3, some 3), (4, some 4), (5, some 5)] rfl rfl ?_ ?_, (Option.some.inj h_2).symm⟩
          · cbv
            all_goals exact ⟨⟨_, rfl, rfl⟩, ⟨_, rfl, rfl⟩, trivial⟩
          · cbv
            all_goals exact ⟨⟨_, rfl, _, rfl, rfl, rfl, rfl, rfl, rfl, trivial⟩, ⟨_, rfl, _, rfl, rfl, rfl, rfl, rfl, rfl, trivial⟩, ⟨_, rfl, rfl⟩, ⟨_, rfl, rfl⟩, ⟨_, rfl, rfl⟩, ⟨_, rfl, rfl⟩, trivial⟩
      · rintro y2 hy2
        replace hy2 := hy2.symm
        subst hy2
        try dsimp only [lr, lrL, lrp, lrpL] at h
        cbv
        refine AStep.mk ⟨(lend_Item ht (dlen_Item hg ht _)), ⟨(lend_Chute ht (dlen_Chute hg ht _)), ⟨(lend_Inlet ht (dlen_Inlet hg ht _)), (lend_I64 ht (dlen_I64 hg ht _))⟩⟩⟩ ?_
        cbv
        obtain ⟨x3, hx3, h⟩ := of_cl h
        try dsimp only at h
        refine ACall.mk _ _ (by rw [show rd (d_Item l1) 0 (dlen (d_Item l1)) = r_Item l1 from rdw_Item hg ht (dlen_Item hg ht _), show rd (d_Chute y1) 0 (dlen (d_Chute y1)) = r_Chute y1 from rdw_Chute hg ht (dlen_Chute hg ht _), show rd (d_Inlet y2) 0 (dlen (d_Inlet y2)) = r_Inlet y2 from rdw_Inlet hg ht (dlen_Inlet hg ht _), show rd (d_I64 x2) 0 (dlen (d_I64 x2)) = r_I64 x2 from rdw_I64 hg ht (dlen_I64 hg ht _)]; try rfl) (hF _ _ _ (c_S_IsCentre hg ht hx3)) (.inr rfl) (Nat.le_of_ble_eq_true rfl) ?_
        cbv
        cases hb4 : x3 with
        | true =>
          rw [br_true hb4] at h
          cbv
          obtain rfl := Option.some.inj h
          exact ARet.mk ⟨⟨rfl, (dlen_Item hg ht _)⟩, ⟨⟨rfl, (dlen_Chute hg ht _)⟩, ⟨⟨rfl, (dlen_Inlet hg ht _)⟩, ⟨rfl, (dlen_I64 hg ht _)⟩⟩⟩⟩ hX.symm
        | false =>
          rw [br_false hb4] at h
          cbv
          obtain rfl := Option.some.inj h
          exact ARet.mk trivial (by rw [hX]; first | rfl | (simp only [Item.ds, Inlet.ds, Chute.ds, Centre.ds, Cur.ds, CentreF.ds, InletF.ds, hnil_Chute, hnil_I64, hnil_Inlet, hnil_Item]; try rfl))
  | false =>
    rw [br_false hb1] at h
    cbv
    obtain rfl := Option.some.inj h
    exact ARet.mk trivial (by rw [hX]; first | rfl | (simp only [Item.ds, Inlet.ds, Chute.ds, Centre.ds, Cur.ds, CentreF.ds, InletF.ds, hnil_Chute, hnil_I64, hnil_Inlet, hnil_Item]; try rfl))
end Go.Vs
namespace Go.Vs
set_option maxRecDepth 100000
def ir108 : J :=
  .seq (.reg none [⟨(some 2), none, .mv (.k (.c (.n 2)))⟩] [0])
  (.seq (.reg none [⟨(some 3), none, .bsl 2 []⟩,
     ⟨(some 4), none, .mv (.t 0)⟩,
     ⟨(some 5), none, .app 2 16 false (.t 3) (.t 4)⟩,
     ⟨(some 2), none, .mv (.t 5)⟩] [2])
  (.ret))
def rv108 : List RV := [.t 2]
open Go.Proofs Go.IntWalk
set_option linter.unusedVariables false
set_option maxRecDepth 100000
set_option maxHeartbeats 4000000
def S_l7Items (g : G) (t : TE) (a0 : List Item) : Option (List Item) :=
  lP ([]) fun (l1 : List Item) =>
  gd (((l1.length + a0.length) * 16 ≤ 70368744177664)) <|
  lP (l1 ++ a0) fun (l2 : List Item) =>
  some l2
theorem fit108 : codeFit Try.prog Try.f108.ntmps (Try.f108.body.getD .skip) ir108 = true := by kernel_rfl
theorem c_S_l7Items {g : G} {t : TE} {a0 : List Item} {r : List Item} (hg : g = G.real) (ht : t = TE.real) (h : S_l7Items g t a0 = some r) : Fn Try.prog 108 [.c (.s 2 (t.r_Item a0))] (.c (.o 2 (t.d_Item r))) := by
  obtain ⟨X, hX⟩ := hide (.c (.o 2 (t.d_Item r)) : X)
  rw [← hX]
  refine fn_of (rvs := rv108) (j := ir108) Try.func108 rfl fit108 (Nat.le_of_ble_eq_true rfl) (by kernel_rfl) prog_mixed ?_
  intro g2 F hg2 hF
  obtain rfl : g2 = g := hg2.unique.trans hg.symm
  clear hg2
  obtain ⟨wrap, lt, le, eq, quo, rem, band, bor, bxor, shl, shr, nat, int, add, sub, mul, cat, seq, slt, sub3, byte, llen, nadd, nsub, dlen, dapp, dset, drep, rd, rda, up, rsub, dsub, all, sle, slen, hasI, putI, hasS, putS, imin, imax, fzc⟩ := g2
  obtain ⟨r_Item, d_Item, r_Chute, d_Chute, r_Inlet, d_Inlet, r_I64, d_I64, r_U8, d_U8, d_InletF⟩ := t
  unfold S_l7Items at h
  try dsimp only at h
  cbv
  obtain ⟨l1, hl1, h⟩ := of_lP h
  try dsimp only at h
  refine ANew.mk (d_Item l1) (dlen (d_Item l1)) (by rw [← hl1]; exact lit_Item hg ht []) (by rw [← hl1]; exact litn_Item hg ht []) ?_
  cbv
  obtain ⟨hc1, h⟩ := of_gd h
  refine AStep.mk (app_ok_Item hg ht (dlen_Item hg ht _) (up_Item hg ht _) hc1) ?_
  cbv
  obtain ⟨l2, hl2, h⟩ := of_lP h
  try dsimp only at h
  refine ANew.mk (d_Item l2) (dlen (d_Item l2)) (by rw [← hl2]; exact app_Item hg ht (dlen_Item hg ht _) (up_Item hg ht _)) (by rw [← hl2]; exact appl_Item hg ht (dlen_Item hg ht _) (up_Item hg ht _)) ?_
  cbv
  obtain rfl := Option.some.inj h
  exact ARet.mk ⟨rfl, (dlen_Item hg ht _)⟩ hX.symm
end Go.Vs
namespace Go.Vs
set_option maxRecDepth 100000
def ir106 : J :=
  .seq (.reg none [⟨(some 1), none, .box (.t 0)⟩,
     ⟨(some 2), none, .alloc [.n 2, .n 3, .n 2, .n 1, .r (.v (.int .i64 0))]⟩] [1, 2])
  (.seq (.reg (some [[], [0], [0, 1], [], [3], [0, 1, 2, 3, 4], [], [6], [0, 1, 2, 3, 4, 5, 6, 7], [], [0, 1, 2, 3, 4, 5, 6, 7, 8, 9]]) [⟨(some 6), none, .fa 0 (.t 1)⟩,
     ⟨(some 7), none, .ld false 1 (.t 6)⟩,
     ⟨(some 8), none, .call 108 true [(.t 7)]⟩,
     ⟨(some 9), none, .fa 3 (.t 1)⟩,
     ⟨(some 10), none, .ld false 1 (.t 9)⟩,
     ⟨(some 11), none, .call 96 true [(.t 10)]⟩,
     ⟨(some 12), none, .fa 4 (.t 1)⟩,
     ⟨(some 13), none, .ld false 1 (.t 12)⟩,
     ⟨(some 14), none, .bld [.n 2, .n 3, .n 2, .n 1, .r (.v (.int .i64 0))] [(0, 1, (.t 8)), (3, 1, (.t 11)), (4, 1, (.t 13))]⟩,
     ⟨(some 3), none, .alloc [.n 2, .n 3, .n 2, .n 1, .r (.v (.int .i64 0))]⟩,
     ⟨none, none, .st 5 (.t 3) (.t 14)⟩] [1, 2, 3])
  (.seq (.seq (.reg none [⟨(some 4), none, .mv (.k (V.i 0))⟩] [1, 2, 3, 4])
   (.bl 0 (.seq (.seq (.reg none [⟨(some 15), none, .mv (.t 4)⟩,
        ⟨(some 16), none, .fa 1 (.t 1)⟩,
        ⟨(some 17), none, .ld false 1 (.t 16)⟩,
        ⟨(some 18), none, .len false (.t 17)⟩,
        ⟨(some 19), none, .bin .lss .i (.t 15) (.t 18)⟩] [1, 2, 3, 4, 19])
     (.cond (.t 19)
      (.skip)
      (.exit 0)))
    (.seq (.block 1 (.reg (some [[], [0], [], [2], [], [2, 3, 4], [2, 3, 4, 5], [2, 3, 4, 5, 6], [], [8], [], [8, 9, 10], [8, 9, 10, 11], [8, 9, 10, 11, 12], [], [14], [], [14, 15, 16], [14, 15, 16, 17], [14, 15, 16, 17, 18], [14, 15, 16, 17, 18, 19], [2, 3, 4, 5, 6, 7, 8, 9, 10, 11, 12, 13, 14, 15, 16, 17, 18, 19, 20], [2, 3, 4, 5, 6, 7, 8, 9, 10, 11, 12, 13, 14, 15, 16, 17, 18, 19, 20, 21], [0, 1, 2, 3, 4, 5, 6, 7, 8, 9, 10, 11, 12, 13, 14, 15, 16, 17, 18, 19, 20, 21, 22], [0, 1, 2, 3, 4, 5, 6, 7, 8, 9, 10, 11, 12, 13, 14, 15, 16, 17, 18, 19, 20, 21, 22, 23], [0, 1, 2, 3, 4, 5, 6, 7, 8, 9, 10, 11, 12, 13, 14, 15, 16, 17, 18, 19, 20, 21, 22, 23, 24]]) [⟨(some 22), none, .fa 1 (.t 3)⟩,
        ⟨(some 23), none, .ld false 1 (.t 22)⟩,
        ⟨(some 24), none, .fa 1 (.t 1)⟩,
        ⟨(some 25), none, .ld false 1 (.t 24)⟩,
        ⟨(some 26), none, .mv (.t 4)⟩,
        ⟨(some 27), none, .ia 3 (.t 25) (.t 26)⟩,
        ⟨(some 28), none, .fa 0 (.t 27)⟩,
        ⟨(some 29), none, .ld false 1 (.t 28)⟩,
        ⟨(some 30), none, .fa 1 (.t 1)⟩,
        ⟨(some 31), none, .ld false 1 (.t 30)⟩,
        ⟨(some 32), none, .mv (.t 4)⟩,
        ⟨(some 33), none, .ia 3 (.t 31) (.t 32)⟩,
        ⟨(some 34), none, .fa 1 (.t 33)⟩,
        ⟨(some 35), none, .ld false 1 (.t 34)⟩,
        ⟨(some 36), none, .fa 1 (.t 1)⟩,
        ⟨(some 37), none, .ld false 1 (.t 36)⟩,
        ⟨(some 38), none, .mv (.t 4)⟩,
        ⟨(some 39), none, .ia 3 (.t 37) (.t 38)⟩,
        ⟨(some 40), none, .fa 2 (.t 39)⟩,
        ⟨(some 41), none, .ld false 1 (.t 40)⟩,
        ⟨(some 42), none, .call 108 true [(.t 41)]⟩,
        ⟨(some 43), none, .bld [.r (.v (.int .i64 0)), .r (.v (.int .i64 0)), .n 2] [(0, 1, (.t 29)), (1, 1, (.t 35)), (2, 1, (.t 42))]⟩,
        ⟨(some 44), none, .bsl 3 [(.t 43)]⟩,
        ⟨(some 45), none, .app 3 40 true (.t 23) (.t 44)⟩,
        ⟨(some 46), none, .fa 1 (.t 3)⟩,
        ⟨none, none, .st 1 (.t 46) (.t 45)⟩] [1, 2, 3, 4]))
    (.reg none [⟨(some 20), none, .mv (.t 4)⟩,
      ⟨(some 21), none, .bin .add .i (.t 20) (.k (V.i 1))⟩,
      ⟨(some 4), none, .mv (.t 21)⟩] [1, 2, 3, 4])))))
  (.seq (.seq (.reg none [⟨(some 5), none, .mv (.k (V.i 0))⟩] [1, 2, 3, 5])
   (.bl 2 (.seq (.seq (.reg none [⟨(some 47), none, .mv (.t 5)⟩,
        ⟨(some 48), none, .fa 2 (.t 1)⟩,
        ⟨(some 49), none, .ld false 1 (.t 48)⟩,
        ⟨(some 50), none, .len false (.t 49)⟩,
        ⟨(some 51), none, .bin .lss .i (.t 47) (.t 50)⟩] [1, 2, 3, 5, 51])
     (.cond (.t 51)
      (.skip)
      (.exit 2)))
    (.seq (.block 3 (.reg (some [[], [0], [], [2], [], [2, 3, 4], [2, 3, 4, 5], [2, 3, 4, 5, 6], [], [8], [], [8, 9, 10], [8, 9, 10, 11], [8, 9, 10, 11, 12], [8, 9, 10, 11, 12, 13], [2, 3, 4, 5, 6, 7, 8, 9, 10, 11, 12, 13, 14], [2, 3, 4, 5, 6, 7, 8, 9, 10, 11, 12, 13, 14, 15], [0, 1, 2, 3, 4, 5, 6, 7, 8, 9, 10, 11, 12, 13, 14, 15, 16], [0, 1, 2, 3, 4, 5, 6, 7, 8, 9, 10, 11, 12, 13, 14, 15, 16, 17], [0, 1, 2, 3, 4, 5, 6, 7, 8, 9, 10, 11, 12, 13, 14, 15, 16, 17, 18]]) [⟨(some 54), none, .fa 2 (.t 3)⟩,
        ⟨(some 55), none, .ld false 1 (.t 54)⟩,
        ⟨(some 56), none, .fa 2 (.t 1)⟩,
        ⟨(some 57), none, .ld false 1 (.t 56)⟩,
        ⟨(some 58), none, .mv (.t 5)⟩,
        ⟨(some 59), none, .ia 2 (.t 57) (.t 58)⟩,
        ⟨(some 60), none, .fa 0 (.t 59)⟩,
        ⟨(some 61), none, .ld false 1 (.t 60)⟩,
        ⟨(some 62), none, .fa 2 (.t 1)⟩,
        ⟨(some 63), none, .ld false 1 (.t 62)⟩,
        ⟨(some 64), none, .mv (.t 5)⟩,
        ⟨(some 65), none, .ia 2 (.t 63) (.t 64)⟩,
        ⟨(some 66), none, .fa 1 (.t 65)⟩,
        ⟨(some 67), none, .ld false 1 (.t 66)⟩,
        ⟨(some 68), none, .call 108 true [(.t 67)]⟩,
        ⟨(some 69), none, .bld [.r (.v (.int .i64 0)), .n 2] [(0, 1, (.t 61)), (1, 1, (.t 68))]⟩,
        ⟨(some 70), none, .bsl 2 [(.t 69)]⟩,
        ⟨(some 71), none, .app 2 32 true (.t 55) (.t 70)⟩,
        ⟨(some 72), none, .fa 2 (.t 3)⟩,
        ⟨none, none, .st 1 (.t 72) (.t 71)⟩] [1, 2, 3, 5]))
    (.reg none [⟨(some 52), none, .mv (.t 5)⟩,
      ⟨(some 53), none, .bin .add .i (.t 52) (.k (V.i 1))⟩,
      ⟨(some 5), none, .mv (.t 53)⟩] [1, 2, 3, 5])))))
  (.seq (.reg none [⟨(some 73), none, .ld true 5 (.t 3)⟩,
     ⟨none, none, .st 5 (.t 2) (.t 73)⟩] [2])
  (.ret)))))
def rv106 : List RV := [.c 2 true 5]
open Go.Proofs Go.IntWalk
set_option linter.unusedVariables false
set_option maxRecDepth 100000
set_option maxHeartbeats 4000000
def S_l7Copy_l2 (g : G) (t : TE) : List Inlet → List Inlet → Option (List Inlet)
  | [], w2 =>
    some w2
  | z2 :: ls2, w2 =>
    cl (S_l7Items g t z2.Wait) fun x4 =>
    lP ([(Inlet.mk z2.Cell x4)]) fun (l3 : List Inlet) =>
    gd (((w2.length + l3.length) * 32 ≤ 70368744177664)) <|
    lP (w2 ++ l3) fun (l4 : List Inlet) =>
    S_l7Copy_l2 g t ls2 l4
def S_l7Copy_l1 (g : G) (t : TE) : List Chute → List Chute → Option (List Chute)
  | [], w1 =>
    some w1
  | z1 :: ls1, w1 =>
    cl (S_l7Items g t z1.Held) fun x3 =>
    lP ([(Chute.mk z1.Cell z1.Room x3)]) fun (l1 : List Chute) =>
    gd (((w1.length + l1.length) * 40 ≤ 70368744177664)) <|
    lP (w1 ++ l1) fun (l2 : List Chute) =>
    S_l7Copy_l1 g t ls1 l2
def S_l7Copy (g : G) (t : TE) (a0 : Centre) : Option Centre :=
  cl (S_l7Items g t a0.Belt) fun x1 =>
  cl (S_l1Ints g t a0.Plan) fun x2 =>
  cl (S_l7Copy_l1 g t a0.Chutes []) fun y1 =>
  cl (S_l7Copy_l2 g t a0.Inlets []) fun y2 =>
  some (Centre.mk x1 y1 y2 x2 a0.Now)
theorem fit106 : codeFit Try.prog Try.f106.ntmps (Try.f106.body.getD .skip) ir106 = true := by kernel_rfl
theorem c_S_l7Copy {g : G} {t : TE} {a0 : Centre} {r : Centre} (hg : g = G.real) (ht : t = TE.real) (h : S_l7Copy g t a0 = some r) : Fn Try.prog 106 [.g (Centre.rs t a0)] (.g (Centre.ds t r)) := by
  obtain ⟨X, hX⟩ := hide (.g (Centre.ds t r) : X)
  rw [← hX]
  refine fn_of (rvs := rv106) (j := ir106) Try.func106 rfl fit106 (Nat.le_of_ble_eq_true rfl) (by kernel_rfl) prog_mixed ?_
  intro g2 F hg2 hF
  obtain rfl : g2 = g := hg2.unique.trans hg.symm
  clear hg2
  obtain ⟨wrap, lt, le, eq, quo, rem, band, bor, bxor, shl, shr, nat, int, add, sub, mul, cat, seq, slt, sub3, byte, llen, nadd, nsub, dlen, dapp, dset, drep, rd, rda, up, rsub, dsub, all, sle, slen, hasI, putI, hasS, putS, imin, imax, fzc⟩ := g2
  obtain ⟨r_Item, d_Item, r_Chute, d_Chute, r_Inlet, d_Inlet, r_I64, d_I64, r_U8, d_U8, d_InletF⟩ := t
  obtain ⟨a0_Belt, a0_Chutes, a0_Inlets, a0_Plan, a0_Now⟩ := a0
  have hnil_Item : d_Item [] = [] := d_nil_Item ht
  have hnil_Chute : d_Chute [] = [] := d_nil_Chute ht
  have hnil_Inlet : d_Inlet [] = [] := d_nil_Inlet ht
  have hnil_I64 : d_I64 [] = [] := d_nil_I64 ht
  have hnil_U8 : d_U8 [] = [] := d_nil_U8 ht
  unfold S_l7Copy at h
  try dsimp only at h
  cbv
  obtain ⟨x1, hx1, h⟩ := of_cl h
  try dsimp only at h
  refine ACall.mk _ _ rfl (hF _ _ _ (c_S_l7Items hg ht hx1)) (.inl rfl) (Nat.le_of_ble_eq_true rfl) ?_
  cbv
  obtain ⟨x2, hx2, h⟩ := of_cl h
  try dsimp only at h
  refine ACall.mk _ _ rfl (hF _ _ _ (c_S_l1Ints hg ht hx2)) (.inl rfl) (Nat.le_of_ble_eq_true rfl) ?_
  cbv
  obtain ⟨o1, ho1, h⟩ := of_cl h
  try dsimp only at h
  try rw [hg] at ho1
  try rw [ht] at ho1
  refine ABL.mk { p : Nat × Int × List Chute // p.1 ≤ a0_Chutes.length ∧ p.2.1 = ((p.1 : Nat) : Int) ∧ S_l7Copy_l1 G.real TE.real (List.drop p.1 a0_Chutes) p.2.2 = some o1 } (fun ⟨⟨k1, v1, w1⟩, _⟩ => ({ sl := [(1, .c (.p 0 5 0 0)), (2, .c (.p 1 5 0 0)), (3, .c (.p 2 5 0 0)), (4, .c (.r (.v (.int .i64 v1))))], tab := [(0, some (.foc 5 [] [.r (.s 2 (r_Item a0_Belt)), .r (.s 3 (r_Chute a0_Chutes)), .r (.s 2 (r_Inlet a0_Inlets)), .r (.s 1 (r_I64 a0_Plan)), .r (.v (.int .i64 a0_Now))] [])), (1, some (.foc 5 [] [.n 2, .n 3, .n 2, .n 1, .r (.v (.int .i64 0))] [])), (2, some (.foc 5 [] [.f 3 2 0 (dlen (d_Item x1)), .f 4 3 0 (dlen (d_Chute w1)), .n 2, .f 5 1 0 (dlen (d_I64 x2)), .r (.v (.int .i64 a0_Now))] [])), (3, some (.arr 2 (d_Item x1))), (4, some (.arr 3 (d_Chute w1))), (5, some (.arr 1 (d_I64 x2)))] } : St)) 6 (fun p => a0_Chutes.length - p.1.1) ⟨(0, 0, []), Nat.zero_le _, rfl, ho1⟩ (List Chute) (fun y1 => ({ sl := [(1, .c (.p 0 5 0 0)), (2, .c (.p 1 5 0 0)), (3, .c (.p 2 5 0 0))], tab := [(0, some (.foc 5 [] [.r (.s 2 (r_Item a0_Belt)), .r (.s 3 (r_Chute a0_Chutes)), .r (.s 2 (r_Inlet a0_Inlets)), .r (.s 1 (r_I64 a0_Plan)), .r (.v (.int .i64 a0_Now))] [])), (1, some (.foc 5 [] [.n 2, .n 3, .n 2, .n 1, .r (.v (.int .i64 0))] [])), (2, some (.foc 5 [] [.f 3 2 0 (dlen (d_Item x1)), .f 4 3 0 (dlen (d_Chute y1)), .n 2, .f 5 1 0 (dlen (d_I64 x2)), .r (.v (.int .i64 a0_Now))] [])), (3, some (.arr 2 (d_Item x1))), (4, some (.arr 3 (d_Chute y1))), (5, some (.arr 1 (d_I64 x2)))] } : St)) 6 (fun y => o1 = y) ?_ ?_ ?_
  · refine Wk.of [(0, some 0), (1, some 16), (2, some 176), (3, some 64), (4, none), (5, some 112)] rfl rfl ?_ ?_
    · cbv
      all_goals try rw [show dlen (d_Chute []) = 0 from dlen_nil_Chute hg ht]
      all_goals try rw [hnil_Chute]
      all_goals exact ⟨⟨_, rfl, rfl⟩, ⟨_, rfl, rfl⟩, ⟨_, rfl, rfl⟩, ⟨_, rfl, rfl⟩, trivial⟩
    · cbv
      all_goals try rw [show dlen (d_Chute []) = 0 from dlen_nil_Chute hg ht]
      all_goals try rw [hnil_Chute]
      all_goals exact ⟨⟨_, rfl, _, rfl, rfl, rfl, rfl, rfl, rfl, trivial⟩, ⟨_, rfl, _, rfl, rfl, rfl, rfl, rfl, rfl, trivial⟩, ⟨_, rfl, _, rfl, rfl, ⟨⟨_, rfl⟩, rfl, rfl⟩, rfl, rfl, rfl, trivial⟩, ⟨_, rfl, rfl⟩, ⟨_, rfl⟩, ⟨_, rfl, rfl⟩, trivial⟩
  · rintro ⟨⟨k1, v1, w1⟩, hk1, hi1, h_1⟩ hq1
    have hm1 := (hq1.2.2.1 0 _ _ _ _ 1 _ _ rfl rfl)
    try dsimp only at hk1 hi1 h_1
    clear hq1
    cbv
    by_cases hc1_ : k1 < a0_Chutes.length
    · have hb1 : lt v1 (llen (r_Chute a0_Chutes)) = true := ltL_true_Chute hg ht hi1 hc1_
      have hs1 := stepL_Chute hg ht hi1 hc1_ hm1
      obtain ⟨z1, hz1⟩ := some_of_lt hc1_
      rw [drop_of_some hz1] at h_1
      rw [S_l7Copy_l1] at h_1
      obtain ⟨z1_Cell, z1_Room, z1_Held⟩ := z1
      try rw [← hg] at h_1
      try rw [← ht] at h_1
      try dsimp only at h_1
      rw [hb1]
      cbv
      refine AStep.mk (nn_L hi1) ?_
      cbv
      refine AGet.mk _ (r_getL_Chute hg ht hi1 hz1) ?_
      cbv
      refine AStep.mk (nn_L hi1) ?_
      cbv
      refine AGet.mk _ (r_getL_Chute hg ht hi1 hz1) ?_
      cbv
      refine AStep.mk (nn_L hi1) ?_
      cbv
      refine AGet.mk _ (r_getL_Chute hg ht hi1 hz1) ?_
      cbv
      obtain ⟨x3, hx3, h_1⟩ := of_cl h_1
      try dsimp only at h_1
      refine ACall.mk _ _ rfl (hF _ _ _ (c_S_l7Items hg ht hx3)) (.inl rfl) (Nat.le_of_ble_eq_true rfl) ?_
      cbv
      refine AStep.mk ⟨rfl, (dlen_Item hg ht _)⟩ ?_
      cbv
      obtain ⟨l1, hl1, h_1⟩ := of_lP h_1
      try dsimp only at h_1
      refine ANew.mk (d_Chute l1) (dlen (d_Chute l1)) (by rw [← hl1]; have e := lit_Chute hg ht [(Chute.mk z1_Cell z1_Room x3)]; dsimp only [List.map, Chute.ds] at e; (try simp only [hnil_Item, hnil_Chute, hnil_Inlet, hnil_I64, hnil_U8] at e); exact e) (by rw [← hl1]; exact litn_Chute hg ht [(Chute.mk z1_Cell z1_Room x3)]) ?_
      cbv
      obtain ⟨hc1, h_1⟩ := of_gd h_1
      refine AStep.mk ⟨⟨rfl, (dlen_Chute hg ht _)⟩, (app_ok_Chute hg ht (dlen_Chute hg ht _) rfl hc1)⟩ ?_
      cbv
      obtain ⟨l2, hl2, h_1⟩ := of_lP h_1
      try dsimp only at h_1
      refine ANew.mk (d_Chute l2) (dlen (d_Chute l2)) (by rw [← hl2]; exact app_Chute hg ht (dlen_Chute hg ht _) rfl) (by rw [← hl2]; exact appl_Chute hg ht (dlen_Chute hg ht _) rfl) ?_
      cbv
      try rw [hg] at h_1
      try rw [ht] at h_1
      refine ⟨⟨(k1 + 1, (wrap .i64 (add v1 1)), l2), hc1_, hs1, h_1⟩, Wk.of [(0, some 0), (1, some 1), (2, some 2), (3, some 3), (4, some 454), (5, some 5)] rfl rfl ?_ ?_, meas_L hc1_⟩
      · cbv
        all_goals exact ⟨⟨_, rfl, rfl⟩, ⟨_, rfl, rfl⟩, ⟨_, rfl, rfl⟩, ⟨_, rfl, rfl⟩, trivial⟩
      · cbv
        all_goals exact ⟨⟨_, rfl, _, rfl, rfl, rfl, rfl, rfl, rfl, trivial⟩, ⟨_, rfl, _, rfl, rfl, rfl, rfl, rfl, rfl, trivial⟩, ⟨_, rfl, _, rfl, rfl, rfl, rfl, rfl, rfl, trivial⟩, ⟨_, rfl, rfl⟩, ⟨_, rfl, rfl⟩, ⟨_, rfl, rfl⟩, trivial⟩
    · have hb1 : lt v1 (llen (r_Chute a0_Chutes)) = false := ltL_false_Chute hg ht hi1 hc1_
      rw [List.drop_of_length_le (Nat.le_of_not_lt hc1_)] at h_1
      rw [S_l7Copy_l1] at h_1
      try rw [← hg] at h_1
      try rw [← ht] at h_1
      try dsimp only at h_1
      rw [hb1]
      cbv
      refine ⟨w1, Wk.of [(0, some 0), (1, some 1), (2, some 2), (3, some 3), (4, some 4), (5, some 5)] rfl rfl ?_ ?_, (Option.some.inj h_1).symm⟩
      · cbv
        all_goals exact ⟨⟨_, rfl, rfl⟩, ⟨_, rfl, rfl⟩, ⟨_, rfl, rfl⟩, trivial⟩
      · cbv
        all_goals exact ⟨⟨_, rfl, _, rfl, rfl, rfl, rfl, rfl, rfl, trivial⟩, ⟨_, rfl, _, rfl, rfl, rfl, rfl, rfl, rfl, trivial⟩, ⟨_, rfl, _, rfl, rfl, rfl, rfl, rfl, rfl, trivial⟩, ⟨_, rfl, rfl⟩, ⟨_, rfl, rfl⟩, ⟨_, rfl, rfl⟩, trivial⟩
  · rintro y1 hy1
    replace hy1 := hy1.symm
    subst hy1
    try dsimp only [lr, lrL, lrp, lrpL] at h
    cbv
    obtain ⟨o2, ho2, h⟩ := of_cl h
    try dsimp only at h
    try rw [hg] at ho2
    try rw [ht] at ho2
    refine ABL.mk { p : Nat × Int × List Inlet // p.1 ≤ a0_Inlets.length ∧ p.2.1 = ((p.1 : Nat) : Int) ∧ S_l7Copy_l2 G.real TE.real (List.drop p.1 a0_Inlets) p.2.2 = some o2 } (fun ⟨⟨k2, v2, w2⟩, _⟩ => ({ sl := [(1, .c (.p 0 5 0 0)), (2, .c (.p 1 5 0 0)), (3, .c (.p 2 5 0 0)), (5, .c (.r (.v (.int .i64 v2))))], tab := [(0, some (.foc 5 [] [.r (.s 2 (r_Item a0_Belt)), .r (.s 3 (r_Chute a0_Chutes)), .r (.s 2 (r_Inlet a0_Inlets)), .r (.s 1 (r_I64 a0_Plan)), .r (.v (.int .i64 a0_Now))] [])), (1, some (.foc 5 [] [.n 2, .n 3, .n 2, .n 1, .r (.v (.int .i64 0))] [])), (2, some (.foc 5 [] [.f 3 2 0 (dlen (d_Item x1)), .f 4 3 0 (dlen (d_Chute y1)), .f 5 2 0 (dlen (d_Inlet w2)), .f 6 1 0 (dlen (d_I64 x2)), .r (.v (.int .i64 a0_Now))] [])), (3, some (.arr 2 (d_Item x1))), (4, some (.arr 3 (d_Chute y1))), (5, some (.arr 2 (d_Inlet w2))), (6, some (.arr 1 (d_I64 x2)))] } : St)) 7 (fun p => a0_Inlets.length - p.1.1) ⟨(0, 0, []), Nat.zero_le _, rfl, ho2⟩ (List Inlet) (fun y2 => ({ sl := [(2, .c (.p 0 5 0 0)), (3, .c (.p 1 5 0 0))], tab := [(0, some (.foc 5 [] [.n 2, .n 3, .n 2, .n 1, .r (.v (.int .i64 0))] [])), (1, some (.foc 5 [] [.f 2 2 0 (dlen (d_Item x1)), .f 3 3 0 (dlen (d_Chute y1)), .f 4 2 0 (dlen (d_Inlet y2)), .f 5 1 0 (dlen (d_I64 x2)), .r (.v (.int .i64 a0_Now))] [])), (2, some (.arr 2 (d_Item x1))), (3, some (.arr 3 (d_Chute y1))), (4, some (.arr 2 (d_Inlet y2))), (5, some (.arr 1 (d_I64 x2)))] } : St)) 6 (fun y => o2 = y) ?_ ?_ ?_
    · refine Wk.of [(0, some 0), (1, some 1), (2, some 2), (3, some 3), (4, some 4), (5, none), (6, some 5)] rfl rfl ?_ ?_
      · cbv
        all_goals try rw [show dlen (d_Inlet []) = 0 from dlen_nil_Inlet hg ht]
        all_goals try rw [hnil_Inlet]
        all_goals exact ⟨⟨_, rfl, rfl⟩, ⟨_, rfl, rfl⟩, ⟨_, rfl, rfl⟩, ⟨_, rfl, rfl⟩, trivial⟩
      · cbv
        all_goals try rw [show dlen (d_Inlet []) = 0 from dlen_nil_Inlet hg ht]
        all_goals try rw [hnil_Inlet]
        all_goals exact ⟨⟨_, rfl, _, rfl, rfl, rfl, rfl, rfl, rfl, trivial⟩, ⟨_, rfl, _, rfl, rfl, rfl, rfl, rfl, rfl, trivial⟩, ⟨_, rfl, _, rfl, rfl, rfl, ⟨⟨_, rfl⟩, rfl, rfl⟩, rfl, rfl, trivial⟩, ⟨_, rfl, rfl⟩, ⟨_, rfl, rfl⟩, ⟨_, rfl⟩, ⟨_, rfl, rfl⟩, trivial⟩
    · rintro ⟨⟨k2, v2, w2⟩, hk2, hi2, h_2⟩ hq2
      have hm2 := (hq2.2.2.1 0 _ _ _ _ 2 _ _ rfl rfl)
      try dsimp only at hk2 hi2 h_2
      clear hq2
      cbv
      by_cases hc2_ : k2 < a0_Inlets.length
      · have hb2 : lt v2 (llen (r_Inlet a0_Inlets)) = true := ltL_true_Inlet hg ht hi2 hc2_
        have hs2 := stepL_Inlet hg ht hi2 hc2_ hm2
        obtain ⟨z2, hz2⟩ := some_of_lt hc2_
        rw [drop_of_some hz2] at h_2
        rw [S_l7Copy_l2] at h_2
        obtain ⟨z2_Cell, z2_Wait⟩ := z2
        try rw [← hg] at h_2
        try rw [← ht] at h_2
        try dsimp only at h_2
        rw [hb2]
        cbv
        refine AStep.mk (nn_L hi2) ?_
        cbv
        refine AGet.mk _ (r_getL_Inlet hg ht hi2 hz2) ?_
        cbv
        refine AStep.mk (nn_L hi2) ?_
        cbv
        refine AGet.mk _ (r_getL_Inlet hg ht hi2 hz2) ?_
        cbv
        obtain ⟨x4, hx4, h_2⟩ := of_cl h_2
        try dsimp only at h_2
        refine ACall.mk _ _ rfl (hF _ _ _ (c_S_l7Items hg ht hx4)) (.inl rfl) (Nat.le_of_ble_eq_true rfl) ?_
        cbv
        refine AStep.mk ⟨rfl, (dlen_Item hg ht _)⟩ ?_
        cbv
        obtain ⟨l3, hl3, h_2⟩ := of_lP h_2
        try dsimp only at h_2
        refine ANew.mk (d_Inlet l3) (dlen (d_Inlet l3)) (by rw [← hl3]; have e := lit_Inlet hg ht [(Inlet.mk z2_Cell x4)]; dsimp only [List.map, Inlet.ds] at e; (try simp only [hnil_Item, hnil_Chute, hnil_Inlet, hnil_I64, hnil_U8] at e); exact e) (by rw [← hl3]; exact litn_Inlet hg ht [(Inlet.mk z2_Cell x4)]) ?_
        cbv
        obtain ⟨hc2, h_2⟩ := of_gd h_2
        refine AStep.mk ⟨⟨rfl, (dlen_Inlet hg ht _)⟩, (app_ok_Inlet hg ht (dlen_Inlet hg ht _) rfl hc2)⟩ ?_
        cbv
        obtain ⟨l4, hl4, h_2⟩ := of_lP h_2
        try dsimp only at h_2
        refine ANew.mk (d_Inlet l4) (dlen (d_Inlet l4)) (by rw [← hl4]; exact app_Inlet hg ht (dlen_Inlet hg ht _) rfl) (by rw [← hl4]; exact appl_Inlet hg ht (dlen_Inlet hg ht _) rfl) ?_
        cbv
        try rw [hg] at h_2
        try rw [ht] at h_2
        refine ⟨⟨(k2 + 1, (wrap .i64 (add v2 1)), l4), hc2_, hs2, h_2⟩, Wk.of [(0, some 0), (1, some 1), (2, some 2), (3, some 3), (4, some 4), (5, some 359), (6, some 6)] rfl rfl ?_ ?_, meas_L hc2_⟩
        · cbv
          all_goals exact ⟨⟨_, rfl, rfl⟩, ⟨_, rfl, rfl⟩, ⟨_, rfl, rfl⟩, ⟨_, rfl, rfl⟩, trivial⟩
        · cbv
          all_goals exact ⟨⟨_, rfl, _, rfl, rfl, rfl, rfl, rfl, rfl, trivial⟩, ⟨_, rfl, _, rfl, rfl, rfl, rfl, rfl, rfl, trivial⟩, ⟨_, rfl, _, rfl, rfl, rfl, rfl, rfl, rfl, trivial⟩, ⟨_, rfl, rfl⟩, ⟨_, rfl, rfl⟩, ⟨_, rfl, rfl⟩, ⟨_, rfl, rfl⟩, trivial⟩
      · have hb2 : lt v2 (llen (r_Inlet a0_Inlets)) = false := ltL_false_Inlet hg ht hi2 hc2_
        rw [List.drop_of_length_le (Nat.le_of_not_lt hc2_)] at h_2
        rw [S_l7Copy_l2] at h_2
        try rw [← hg] at h_2
        try rw [← ht] at h_2
        try dsimp only at h_2
        rw [hb2]
        cbv
        refine ⟨w2, Wk.of [(0, some 1), (1, some 2), (2, some 3), (3, some 4), (4, some 5), (5, some 6)] rfl rfl ?_ ?_, (Option.some.inj h_2).symm⟩
        · cbv
          all_goals exact ⟨⟨_, rfl, rfl⟩, ⟨_, rfl, rfl⟩, trivial⟩
        · cbv
          all_goals exact ⟨⟨_, rfl, _, rfl, rfl, rfl, rfl, rfl, rfl, trivial⟩, ⟨_, rfl, _, rfl, rfl, rfl, rfl, rfl, rfl, trivial⟩, ⟨_, rfl, rfl⟩, ⟨_, rfl, rfl⟩, ⟨_, rfl, rfl⟩, ⟨_, rfl, rfl⟩, trivial⟩
    · rintro y2 hy2
      replace hy2 := hy2.symm
      subst hy2
      try dsimp only [lr, lrL, lrp, lrpL] at h
      cbv
      obtain rfl := Option.some.inj h
      exact ARet.mk ⟨⟨rfl, (dlen_Item hg ht _)⟩, ⟨⟨rfl, (dlen_Chute hg ht _)⟩, ⟨⟨rfl, (dlen_Inlet hg ht _)⟩, ⟨rfl, (dlen_I64 hg ht _)⟩⟩⟩⟩ hX.symm
end Go.Vs
namespace Go.Vs
set_option maxRecDepth 100000
def ir69 : J :=
  .seq (.reg none [⟨(some 3), none, .box (.t 0)⟩,
     ⟨(some 5), none, .box (.t 2)⟩,
     ⟨(some 6), none, .alloc [.n 2, .n 3, .n 2, .n 1, .r (.v (.int .i64 0))]⟩,
     ⟨(some 7), none, .mv (.k (V.b false))⟩] [1, 3, 5, 6])
  (.seq (.reg none [⟨(some 9), none, .ld true 5 (.t 3)⟩,
     ⟨(some 10), none, .call 106 true [(.t 9)]⟩,
     ⟨(some 8), none, .alloc [.n 2, .n 3, .n 2, .n 1, .r (.v (.int .i64 0))]⟩,
     ⟨none, none, .st 5 (.t 8) (.t 10)⟩] [1, 3, 5, 6, 8])
  (.seq (.seq (.reg none [⟨(some 11), none, .ld true 5 (.t 3)⟩,
      ⟨(some 12), none, .call 31 true [(.t 11)]⟩,
      ⟨(some 13), none, .not (.t 12)⟩,
      ⟨(some 14), none, .mv (.t 13)⟩,
      ⟨(some 15), (some (14, false)), .mv (.t 1)⟩,
      ⟨(some 16), (some (14, false)), .fa 2 (.t 3)⟩,
      ⟨(some 17), (some (14, false)), .ld false 1 (.t 16)⟩,
      ⟨(some 18), (some (14, false)), .len false (.t 17)⟩,
      ⟨(some 19), (some (14, false)), .bin .sub .i (.t 18) (.k (V.i 1))⟩,
      ⟨(some 20), (some (14, false)), .call 85 true [(.t 15), (.k (V.i 0)), (.t 19)]⟩,
      ⟨(some 21), (some (14, false)), .not (.t 20)⟩,
      ⟨(some 22), none, .pick (.t 14) (.k (V.b true)) (.t 21)⟩] [1, 3, 5, 6, 8, 22])
   (.cond (.t 22)
    (.seq (.reg none [⟨(some 23), none, .ld true 5 (.t 8)⟩,
        ⟨none, none, .st 5 (.t 6) (.t 23)⟩,
        ⟨(some 7), none, .mv (.k (V.b false))⟩] [6, 7])
     (.ret))
    (.skip)))
  (.seq (.gh (.ga (.reg (some [[], [0], [], [], [3], [], [3, 4, 5], [3, 4, 5, 6], [3, 4, 5, 6, 7], [], [9], [3, 4, 5, 6, 7, 8, 9, 10], [0, 1, 2, 3, 4, 5, 6, 7, 8, 9, 10, 11], [0, 1, 2, 3, 4, 5, 6, 7, 8, 9, 10, 11, 12], [0, 1, 2, 3, 4, 5, 6, 7, 8, 9, 10, 11, 12, 13]]) [⟨(some 24), none, .fa 2 (.t 8)⟩,
      ⟨(some 25), none, .ld false 1 (.t 24)⟩,
      ⟨(some 26), none, .mv (.t 1)⟩,
      ⟨(some 27), none, .fa 2 (.t 8)⟩,
      ⟨(some 28), none, .ld false 1 (.t 27)⟩,
      ⟨(some 29), none, .mv (.t 1)⟩,
      ⟨(some 30), none, .ia 2 (.t 28) (.t 29)⟩,
      ⟨(some 31), none, .fa 1 (.t 30)⟩,
      ⟨(some 32), none, .ld false 1 (.t 31)⟩,
      ⟨(some 33), none, .ld true 2 (.t 5)⟩,
      ⟨(some 34), none, .bsl 2 [(.t 33)]⟩,
      ⟨(some 35), none, .app 2 16 true (.t 32) (.t 34)⟩,
      ⟨(some 36), none, .ia 2 (.t 25) (.t 26)⟩,
      ⟨(some 37), none, .fa 1 (.t 36)⟩,
      ⟨none, none, .st 1 (.t 37) (.t 35)⟩] [3, 6, 8])))
  (.seq (.seq (.reg none [⟨(some 38), none, .ld true 5 (.t 8)⟩,
      ⟨(some 39), none, .call 31 true [(.t 38)]⟩,
      ⟨(some 40), none, .not (.t 39)⟩] [3, 6, 8, 40])
   (.cond (.t 40)
    (.seq (.reg none [⟨(some 41), none, .ld true 5 (.t 3)⟩,
        ⟨(some 42), none, .call 106 true [(.t 41)]⟩,
        ⟨none, none, .st 5 (.t 6) (.t 42)⟩,
        ⟨(some 7), none, .mv (.k (V.b false))⟩] [6, 7])
     (.ret))
    (.skip)))
  (.seq (.reg none [⟨(some 43), none, .ld true 5 (.t 8)⟩,
     ⟨none, none, .st 5 (.t 6) (.t 43)⟩,
     ⟨(some 7), none, .mv (.k (V.b true))⟩] [6, 7])
  (.ret))))))
def rv69 : List RV := [.c 6 true 5, .t 7]
open Go.Proofs Go.IntWalk
set_option linter.unusedVariables false
set_option maxRecDepth 100000
set_option maxHeartbeats 4000000
def S_FeedCentre (g : G) (t : TE) (a0 : Centre) (a1 : Int) (a2 : Item) : Option (Centre × Bool) :=
  cl (S_l7Copy g t a0) fun x1 =>
  cl (S_IsCentre g t a0) fun x2 =>
  br x2
  (
   lP (S_l1In g t a1 0 (g.wrap .i64 (g.sub (g.llen (t.r_Inlet a0.Inlets)) 1))) fun x3 =>
   br x3
   (
    gt x1.Inlets (g.nat a1) fun x4 =>
    gd (((0 : Int) ≤ a1 ∧ a1 < (((g.dlen (t.d_Inlet x1.Inlets)) : Nat) : Int))) <|
    lP ([a2]) fun (l1 : List Item) =>
    gd (((x4.Wait.length + l1.length) * 16 ≤ 70368744177664)) <|
    lP (x4.Wait ++ l1) fun (l2 : List Item) =>
    gd (((0 : Int) ≤ a1 ∧ a1 < (((g.dlen (t.d_Inlet x1.Inlets)) : Nat) : Int))) <|
    lP (List.set x1.Inlets (g.nat a1) (Inlet.mk x4.Cell l2)) fun (l3 : List Inlet) =>
    cl (S_IsCentre g t (Centre.mk x1.Belt x1.Chutes l3 x1.Plan x1.Now)) fun x5 =>
    br x5
    (
     some (((Centre.mk x1.Belt x1.Chutes l3 x1.Plan x1.Now), true)))
    (
     cl (S_l7Copy g t a0) fun x6 =>
     some ((x6, false))))
   (
    some ((x1, false))))
  (
   some ((x1, false)))
theorem fit69 : codeFit Try.prog Try.f69.ntmps (Try.f69.body.getD .skip) ir69 = true := by kernel_rfl
theorem c_S_FeedCentre {g : G} {t : TE} {a0 : Centre} {a1 : Int} {a2 : Item} {r : Centre × Bool} (hg : g = G.real) (ht : t = TE.real) (h : S_FeedCentre g t a0 a1 a2 = some r) : Fn Try.prog 69 [.g (Centre.rs t a0), .c (.v (.int .i64 a1)), .g (Item.rs t a2)] (.u [.g (Centre.ds t r.1), .c (.r (.v (.bool r.2)))]) := by
  obtain ⟨X, hX⟩ := hide (.u [.g (Centre.ds t r.1), .c (.r (.v (.bool r.2)))] : X)
  rw [← hX]
  refine fn_of (rvs := rv69) (j := ir69) Try.func69 rfl fit69 (Nat.le_of_ble_eq_true rfl) (by kernel_rfl) prog_mixed ?_
  intro g2 F hg2 hF
  obtain rfl : g2 = g := hg2.unique.trans hg.symm
  clear hg2
  obtain ⟨wrap, lt, le, eq, quo, rem, band, bor, bxor, shl, shr, nat, int, add, sub, mul, cat, seq, slt, sub3, byte, llen, nadd, nsub, dlen, dapp, dset, drep, rd, rda, up, rsub, dsub, all, sle, slen, hasI, putI, hasS, putS, imin, imax, fzc⟩ := g2
  obtain ⟨r_Item, d_Item, r_Chute, d_Chute, r_Inlet, d_Inlet, r_I64, d_I64, r_U8, d_U8, d_InletF⟩ := t
  obtain ⟨a0_Belt, a0_Chutes, a0_Inlets, a0_Plan, a0_Now⟩ := a0
  obtain ⟨a2_Id, a2_Dest⟩ := a2
  unfold S_FeedCentre at h
  try dsimp only at h
  cbv
  obtain ⟨x1, hx1, h⟩ := of_cl h
  obtain ⟨x1_Belt, x1_Chutes, x1_Inlets, x1_Plan, x1_Now⟩ := x1
  try dsimp only at h
  refine ACall.mk _ _ rfl (hF _ _ _ (c_S_l7Copy hg ht hx1)) (.inl rfl) (Nat.le_of_ble_eq_true rfl) ?_
  cbv
  obtain ⟨x2, hx2, h⟩ := of_cl h
  try dsimp only at h
  refine ACall.mk _ _ rfl (hF _ _ _ (c_S_IsCentre hg ht hx2)) (.inl rfl) (Nat.le_of_ble_eq_true rfl) ?_
  cbv
  cases hb1 : x2 with
  | true =>
    rw [br_true hb1] at h
    cbv
    try (rw [hb1]; cbv)
    try (rw [hb1]; cbv)
    try (rw [hb1]; cbv)
    try (rw [hb1]; cbv)
    try (rw [hb1]; cbv)
    obtain ⟨x3, hx3, h⟩ := of_lP h
    try dsimp only at h
    refine ACall.mk _ _ rfl (hF _ _ _ (c_S_l1In hg ht hx3)) (.inl rfl) (Nat.le_of_ble_eq_true rfl) ?_
    cbv
    try (rw [hb1]; cbv)
    try (rw [hb1]; cbv)
    cases hb2 : x3 with
    | true =>
      rw [br_true hb2] at h
      cbv
      obtain ⟨x4, hx4, h⟩ := of_gt h
      obtain ⟨x4_Cell, x4_Wait⟩ := x4
      try dsimp only at h
      refine AGh.opn 82 2 (nat a1) (d_Inlet x1_Inlets) _ rfl (d_get_Inlet hg ht hx4) rfl ?_
      cbv
      refine AGh.nil ?_
      cbv
      obtain ⟨hc1, h⟩ := of_gd h
      refine AStep.mk hc1 ?_
      cbv
      refine AStep.mk rfl ?_
      cbv
      obtain ⟨l1, hl1, h⟩ := of_lP h
      try dsimp only at h
      refine ANew.mk (d_Item l1) (dlen (d_Item l1)) (by rw [← hl1]; exact lit_Item hg ht [(Item.mk a2_Id a2_Dest)]) (by rw [← hl1]; exact litn_Item hg ht [(Item.mk a2_Id a2_Dest)]) ?_
      cbv
      obtain ⟨hc3, h⟩ := of_gd h
      refine AStep.mk ⟨⟨rfl, (dlen_Item hg ht _)⟩, (app_ok_Item hg ht (dlen_Item hg ht _) rfl hc3)⟩ ?_
      cbv
      obtain ⟨l2, hl2, h⟩ := of_lP h
      try dsimp only at h
      refine ANew.mk (d_Item l2) (dlen (d_Item l2)) (by rw [← hl2]; exact app_Item hg ht (dlen_Item hg ht _) rfl) (by rw [← hl2]; exact appl_Item hg ht (dlen_Item hg ht _) rfl) ?_
      cbv
      obtain ⟨hc2, h⟩ := of_gd h
      refine AStep.mk hc2 ?_
      cbv
      refine AStep.mk rfl ?_
      cbv
      obtain ⟨l3, hl3, h⟩ := of_lP h
      try dsimp only at h
      refine AGh.cls 82 2 (nat a1) (d_Inlet x1_Inlets) _ _ _ _ (d_Inlet l3) rfl rfl ⟨rfl, (dlen_Item hg ht _)⟩ (by rw [← hl3]; exact dset_Inlet hg ht _ _ (Inlet.mk x4_Cell l2)) ?_
      have hnl3 : (dlen (d_Inlet x1_Inlets)) = (d_Inlet l3).length := (by rw [← hl3, dsetl_Inlet ht]; exact (dlen_Inlet hg ht _))
      cbv
      refine AGh.nil ?_
      cbv
      refine AStep.mk ⟨(lend_Item ht (dlen_Item hg ht _)), ⟨(lend_Chute ht (dlen_Chute hg ht _)), ⟨(lend_Inlet ht hnl3), (lend_I64 ht (dlen_I64 hg ht _))⟩⟩⟩ ?_
      cbv
      obtain ⟨x5, hx5, h⟩ := of_cl h
      try dsimp only at h
      refine ACall.mk _ _ (by rw [show rd (d_Item x1_Belt) 0 (dlen (d_Item x1_Belt)) = r_Item x1_Belt from rdw_Item hg ht (dlen_Item hg ht _), show rd (d_Chute x1_Chutes) 0 (dlen (d_Chute x1_Chutes)) = r_Chute x1_Chutes from rdw_Chute hg ht (dlen_Chute hg ht _), show rd (d_Inlet l3) 0 (dlen (d_Inlet x1_Inlets)) = r_Inlet l3 from rdw_Inlet hg ht hnl3, show rd (d_I64 x1_Plan) 0 (dlen (d_I64 x1_Plan)) = r_I64 x1_Plan from rdw_I64 hg ht (dlen_I64 hg ht _)]; try rfl) (hF _ _ _ (c_S_IsCentre hg ht hx5)) (.inr rfl) (Nat.le_of_ble_eq_true rfl) ?_
      cbv
      cases hb3 : x5 with
      | true =>
        rw [br_true hb3] at h
        cbv
        obtain rfl := Option.some.inj h
        exact ARet.mk ⟨⟨rfl, (dlen_Item hg ht _)⟩, ⟨⟨rfl, (dlen_Chute hg ht _)⟩, ⟨⟨rfl, hnl3⟩, ⟨rfl, (dlen_I64 hg ht _)⟩⟩⟩⟩ hX.symm
      | false =>
        rw [br_false hb3] at h
        cbv
        obtain ⟨x6, hx6, h⟩ := of_cl h
        obtain ⟨x6_Belt, x6_Chutes, x6_Inlets, x6_Plan, x6_Now⟩ := x6
        try dsimp only at h
        refine ACall.mk _ _ rfl (hF _ _ _ (c_S_l7Copy hg ht hx6)) (.inl rfl) (Nat.le_of_ble_eq_true rfl) ?_
        cbv
        obtain rfl := Option.some.inj h
        exact ARet.mk ⟨⟨rfl, (dlen_Item hg ht _)⟩, ⟨⟨rfl, (dlen_Chute hg ht _)⟩, ⟨⟨rfl, (dlen_Inlet hg ht _)⟩, ⟨rfl, (dlen_I64 hg ht _)⟩⟩⟩⟩ hX.symm
    | false =>
      rw [br_false hb2] at h
      cbv
      obtain rfl := Option.some.inj h
      exact ARet.mk ⟨⟨rfl, (dlen_Item hg ht _)⟩, ⟨⟨rfl, (dlen_Chute hg ht _)⟩, ⟨⟨rfl, (dlen_Inlet hg ht _)⟩, ⟨rfl, (dlen_I64 hg ht _)⟩⟩⟩⟩ hX.symm
  | false =>
    rw [br_false hb1] at h
    cbv
    try (rw [hb1]; cbv)
    try (rw [hb1]; cbv)
    try (rw [hb1]; cbv)
    try (rw [hb1]; cbv)
    try (rw [hb1]; cbv)
    try (rw [hb1]; cbv)
    try (rw [hb1]; cbv)
    obtain rfl := Option.some.inj h
    exact ARet.mk ⟨⟨rfl, (dlen_Item hg ht _)⟩, ⟨⟨rfl, (dlen_Chute hg ht _)⟩, ⟨⟨rfl, (dlen_Inlet hg ht _)⟩, ⟨rfl, (dlen_I64 hg ht _)⟩⟩⟩⟩ hX.symm
end Go.Vs
