/- Part of the proofs of this seat's laws: Lac. No condition. -/
import Derived.Test.YtieeagobedjogaaTy
import Derived.Test.YtieeagobedjogaaTIRall
set_option linter.unusedVariables false
set_option linter.unusedSimpArgs false
set_option linter.unusedSectionVars false
namespace Go.Vs
set_option maxRecDepth 100000
def ir27 : J :=
  .seq (.reg none [⟨(some 1), none, .box (.t 0)⟩,
     ⟨(some 2), none, .mv (.k (V.i 0))⟩] [1])
  (.seq (.reg none [⟨(some 3), none, .mv (.k (V.i 0))⟩] [1, 3])
  (.seq (.seq (.reg none [⟨(some 6), none, .fa 2 (.t 1)⟩,
      ⟨(some 7), none, .ld false 1 (.t 6)⟩,
      ⟨(some 8), none, .len false (.t 7)⟩,
      ⟨(some 9), none, .mv (.k (V.i 0))⟩] [3, 7, 8, 9])
   (.bl 0 (.seq (.reg none [⟨(some 10), none, .bin .lss .i (.t 9) (.t 8)⟩] [3, 7, 8, 9, 10])
    (.seq (.cond (.t 10)
      (.skip)
      (.exit 0))
    (.seq (.block 1 (.seq (.reg none [⟨(some 11), none, .ia 2 (.t 7) (.t 9)⟩,
         ⟨(some 12), none, .ld true 2 (.t 11)⟩,
         ⟨(some 5), none, .alloc [.r (.v (.int .i64 0)), .n 2]⟩,
         ⟨none, none, .st 2 (.t 5) (.t 12)⟩] [3, 5, 7, 8, 9])
      (.reg none [⟨(some 13), none, .mv (.t 3)⟩,
        ⟨(some 14), none, .fa 1 (.t 5)⟩,
        ⟨(some 15), none, .ld false 1 (.t 14)⟩,
        ⟨(some 16), none, .len false (.t 15)⟩,
        ⟨(some 17), none, .bin .add .i (.t 13) (.t 16)⟩,
        ⟨(some 3), none, .mv (.t 17)⟩] [3, 7, 8, 9])))
    (.reg none [⟨(some 18), none, .bin .add .i (.t 9) (.k (V.i 1))⟩,
      ⟨(some 9), none, .mv (.t 18)⟩] [3, 7, 8, 9]))))))
  (.seq (.reg none [⟨(some 19), none, .mv (.t 3)⟩,
     ⟨(some 2), none, .mv (.t 19)⟩] [2])
  (.ret))))
def rv27 : List RV := [.t 2]
open Go.Proofs Go.IntWalk
set_option linter.unusedVariables false
set_option maxRecDepth 100000
set_option maxHeartbeats 4000000
def I_CountWait_l1 (g : G) (t : TE) : List Inlet → Int → Int
  | [], v1 =>
    v1
  | z1 :: ls1, v1 =>
    I_CountWait_l1 g t ls1 (g.wrap .i64 (g.add v1 (g.llen (t.r_Item z1.Wait))))
def I_CountWait (g : G) (t : TE) (a0 : Centre) : Int :=
  lP (I_CountWait_l1 g t a0.Inlets 0) fun y1 =>
  y1
theorem fit27 : codeFit Try.prog Try.f27.ntmps (Try.f27.body.getD .skip) ir27 = true := by kernel_rfl
theorem c_I_CountWait {g : G} {t : TE} {a0 : Centre} {r : Int} (hg : g = G.real) (ht : t = TE.real) (h : I_CountWait g t a0 = r) : Fn Try.prog 27 [.g (Centre.rs t a0)] (.c (.r (.v (.int .i64 r)))) := by
  obtain ⟨X, hX⟩ := hide (.c (.r (.v (.int .i64 r))) : X)
  rw [← hX]
  refine fn_of (rvs := rv27) (j := ir27) Try.func27 rfl fit27 (Nat.le_of_ble_eq_true rfl) (by kernel_rfl) prog_mixed ?_
  intro g2 F hg2 hF
  obtain rfl : g2 = g := hg2.unique.trans hg.symm
  clear hg2
  obtain ⟨wrap, lt, le, eq, quo, rem, band, bor, bxor, shl, shr, nat, int, add, sub, mul, cat, seq, slt, sub3, byte, llen, nadd, nsub, dlen, dapp, dset, drep, rd, rda, up, rsub, dsub, all, sle, slen, hasI, putI, hasS, putS, imin, imax, fzc⟩ := g2
  obtain ⟨r_Item, d_Item, r_Chute, d_Chute, r_Inlet, d_Inlet, r_I64, d_I64, r_U8, d_U8⟩ := t
  obtain ⟨a0_Belt, a0_Chutes, a0_Inlets, a0_Plan, a0_Now⟩ := a0
  unfold I_CountWait at h
  try dsimp only at h
  cbv
  obtain ⟨o1, ho1, h⟩ := of_lP h
  try dsimp only at h
  try rw [hg] at ho1
  try rw [ht] at ho1
  refine ABL.mk { p : Nat × Int × Int // p.1 ≤ a0_Inlets.length ∧ p.2.1 = ((p.1 : Nat) : Int) ∧ I_CountWait_l1 G.real TE.real (List.drop p.1 a0_Inlets) p.2.2 = o1 } (fun ⟨⟨k1, v2, v1⟩, _⟩ => ({ sl := [(3, .c (.r (.v (.int .i64 v1)))), (7, .c (.r (.s 2 (r_Inlet a0_Inlets)))), (8, .c (.r (.v (.int .i64 (llen (r_Inlet a0_Inlets)))))), (9, .c (.r (.v (.int .i64 v2))))], tab := [] } : St)) 0 (fun p => a0_Inlets.length - p.1.1) ⟨(0, 0, 0), Nat.zero_le _, rfl, ho1⟩ (Int) (fun y1 => ({ sl := [(3, .c (.r (.v (.int .i64 y1))))], tab := [] } : St)) 0 (fun y => o1 = y) ?_ ?_ ?_
  · refine Wk.of [] rfl rfl ?_ ?_
    · cbv
      all_goals exact ⟨⟨_, rfl, rfl⟩, ⟨_, rfl, rfl⟩, ⟨_, rfl, rfl⟩, ⟨_, rfl, rfl⟩, trivial⟩
    · cbv
      all_goals exact trivial
  · rintro ⟨⟨k1, v2, v1⟩, hk1, hi1, h_1⟩ hq1
    have hm1 := (hq1.1 7 _ _ rfl)
    try dsimp only at hk1 hi1 h_1
    clear hq1
    cbv
    by_cases hc1_ : k1 < a0_Inlets.length
    · have hb1 : lt v2 (llen (r_Inlet a0_Inlets)) = true := ltL_true_Inlet hg ht hi1 hc1_
      have hs1 := stepL_Inlet hg ht hi1 hc1_ hm1
      obtain ⟨z1, hz1⟩ := some_of_lt hc1_
      rw [drop_of_some hz1] at h_1
      rw [I_CountWait_l1] at h_1
      obtain ⟨z1_Cell, z1_Wait⟩ := z1
      try rw [← hg] at h_1
      try rw [← ht] at h_1
      try dsimp only at h_1
      rw [hb1]
      cbv
      refine AStep.mk (nn_L hi1) ?_
      cbv
      refine AGet.mk _ (r_getL_Inlet hg ht hi1 hz1) ?_
      cbv
      try rw [hg] at h_1
      try rw [ht] at h_1
      refine ⟨⟨(k1 + 1, (wrap .i64 (add v2 1)), (wrap .i64 (add v1 (llen (r_Item z1_Wait))))), hc1_, hs1, h_1⟩, Wk.of [] rfl rfl ?_ ?_, meas_L hc1_⟩
      · cbv
        all_goals exact ⟨⟨_, rfl, rfl⟩, ⟨_, rfl, rfl⟩, ⟨_, rfl, rfl⟩, ⟨_, rfl, rfl⟩, trivial⟩
      · cbv
        all_goals exact trivial
    · have hb1 : lt v2 (llen (r_Inlet a0_Inlets)) = false := ltL_false_Inlet hg ht hi1 hc1_
      rw [List.drop_of_length_le (Nat.le_of_not_lt hc1_)] at h_1
      rw [I_CountWait_l1] at h_1
      try rw [← hg] at h_1
      try rw [← ht] at h_1
      try dsimp only at h_1
      rw [hb1]
      cbv
      refine ⟨v1, Wk.of [] rfl rfl ?_ ?_, h_1.symm⟩
      · cbv
        all_goals exact ⟨⟨_, rfl, rfl⟩, trivial⟩
      · cbv
        all_goals exact trivial
  · rintro y1 hy1
    replace hy1 := hy1.symm
    subst hy1
    try dsimp only [lr, lrL, lrp, lrpL] at h
    cbv
    subst h
    exact ARet.mk trivial hX.symm
end Go.Vs
namespace Go.Vs
set_option maxRecDepth 100000
def ir30 : J :=
  .seq (.reg none [⟨(some 1), none, .box (.t 0)⟩,
     ⟨(some 2), none, .mv (.k (V.i 0))⟩] [1])
  (.seq (.reg none [⟨(some 3), none, .mv (.k (V.i 0))⟩] [1, 3])
  (.seq (.seq (.reg none [⟨(some 6), none, .fa 0 (.t 1)⟩,
      ⟨(some 7), none, .ld false 1 (.t 6)⟩,
      ⟨(some 8), none, .len false (.t 7)⟩,
      ⟨(some 9), none, .mv (.k (V.i 0))⟩] [3, 7, 8, 9])
   (.bl 0 (.seq (.reg none [⟨(some 10), none, .bin .lss .i (.t 9) (.t 8)⟩] [3, 7, 8, 9, 10])
    (.seq (.cond (.t 10)
      (.skip)
      (.exit 0))
    (.seq (.block 1 (.seq (.reg none [⟨(some 11), none, .ia 2 (.t 7) (.t 9)⟩,
         ⟨(some 12), none, .ld true 2 (.t 11)⟩,
         ⟨(some 5), none, .alloc [.r (.v (.int .i64 0)), .r (.v (.int .i64 0))]⟩,
         ⟨none, none, .st 2 (.t 5) (.t 12)⟩] [3, 5, 7, 8, 9])
      (.seq (.reg none [⟨(some 13), none, .fa 0 (.t 5)⟩,
         ⟨(some 14), none, .ld false 1 (.t 13)⟩,
         ⟨(some 15), none, .bin .neq .i (.t 14) (.k (V.i 0))⟩] [3, 7, 8, 9, 15])
      (.cond (.t 15)
       (.reg none [⟨(some 16), none, .mv (.t 3)⟩,
          ⟨(some 17), none, .bin .add .i (.t 16) (.k (V.i 1))⟩,
          ⟨(some 3), none, .mv (.t 17)⟩] [3, 7, 8, 9])
       (.skip)))))
    (.reg none [⟨(some 18), none, .bin .add .i (.t 9) (.k (V.i 1))⟩,
      ⟨(some 9), none, .mv (.t 18)⟩] [3, 7, 8, 9]))))))
  (.seq (.reg none [⟨(some 19), none, .mv (.t 3)⟩,
     ⟨(some 2), none, .mv (.t 19)⟩] [2])
  (.ret))))
def rv30 : List RV := [.t 2]
open Go.Proofs Go.IntWalk
set_option linter.unusedVariables false
set_option maxRecDepth 100000
set_option maxHeartbeats 4000000
def I_CountBelt_l1 (g : G) (t : TE) : List Item → Int → Int
  | [], v1 =>
    v1
  | z1 :: ls1, v1 =>
    br (g.eq z1.Id 0)
    (
     I_CountBelt_l1 g t ls1 v1)
    (
     I_CountBelt_l1 g t ls1 (g.wrap .i64 (g.add v1 1)))
def I_CountBelt (g : G) (t : TE) (a0 : Centre) : Int :=
  lP (I_CountBelt_l1 g t a0.Belt 0) fun y1 =>
  y1
theorem fit30 : codeFit Try.prog Try.f30.ntmps (Try.f30.body.getD .skip) ir30 = true := by kernel_rfl
theorem c_I_CountBelt {g : G} {t : TE} {a0 : Centre} {r : Int} (hg : g = G.real) (ht : t = TE.real) (h : I_CountBelt g t a0 = r) : Fn Try.prog 30 [.g (Centre.rs t a0)] (.c (.r (.v (.int .i64 r)))) := by
  obtain ⟨X, hX⟩ := hide (.c (.r (.v (.int .i64 r))) : X)
  rw [← hX]
  refine fn_of (rvs := rv30) (j := ir30) Try.func30 rfl fit30 (Nat.le_of_ble_eq_true rfl) (by kernel_rfl) prog_mixed ?_
  intro g2 F hg2 hF
  obtain rfl : g2 = g := hg2.unique.trans hg.symm
  clear hg2
  obtain ⟨wrap, lt, le, eq, quo, rem, band, bor, bxor, shl, shr, nat, int, add, sub, mul, cat, seq, slt, sub3, byte, llen, nadd, nsub, dlen, dapp, dset, drep, rd, rda, up, rsub, dsub, all, sle, slen, hasI, putI, hasS, putS, imin, imax, fzc⟩ := g2
  obtain ⟨r_Item, d_Item, r_Chute, d_Chute, r_Inlet, d_Inlet, r_I64, d_I64, r_U8, d_U8⟩ := t
  obtain ⟨a0_Belt, a0_Chutes, a0_Inlets, a0_Plan, a0_Now⟩ := a0
  unfold I_CountBelt at h
  try dsimp only at h
  cbv
  obtain ⟨o1, ho1, h⟩ := of_lP h
  try dsimp only at h
  try rw [hg] at ho1
  try rw [ht] at ho1
  refine ABL.mk { p : Nat × Int × Int // p.1 ≤ a0_Belt.length ∧ p.2.1 = ((p.1 : Nat) : Int) ∧ I_CountBelt_l1 G.real TE.real (List.drop p.1 a0_Belt) p.2.2 = o1 } (fun ⟨⟨k1, v2, v1⟩, _⟩ => ({ sl := [(3, .c (.r (.v (.int .i64 v1)))), (7, .c (.r (.s 2 (r_Item a0_Belt)))), (8, .c (.r (.v (.int .i64 (llen (r_Item a0_Belt)))))), (9, .c (.r (.v (.int .i64 v2))))], tab := [] } : St)) 0 (fun p => a0_Belt.length - p.1.1) ⟨(0, 0, 0), Nat.zero_le _, rfl, ho1⟩ (Int) (fun y1 => ({ sl := [(3, .c (.r (.v (.int .i64 y1))))], tab := [] } : St)) 0 (fun y => o1 = y) ?_ ?_ ?_
  · refine Wk.of [] rfl rfl ?_ ?_
    · cbv
      all_goals exact ⟨⟨_, rfl, rfl⟩, ⟨_, rfl, rfl⟩, ⟨_, rfl, rfl⟩, ⟨_, rfl, rfl⟩, trivial⟩
    · cbv
      all_goals exact trivial
  · rintro ⟨⟨k1, v2, v1⟩, hk1, hi1, h_1⟩ hq1
    have hm1 := (hq1.1 7 _ _ rfl)
    try dsimp only at hk1 hi1 h_1
    clear hq1
    cbv
    by_cases hc1_ : k1 < a0_Belt.length
    · have hb1 : lt v2 (llen (r_Item a0_Belt)) = true := ltL_true_Item hg ht hi1 hc1_
      have hs1 := stepL_Item hg ht hi1 hc1_ hm1
      obtain ⟨z1, hz1⟩ := some_of_lt hc1_
      rw [drop_of_some hz1] at h_1
      rw [I_CountBelt_l1] at h_1
      obtain ⟨z1_Id, z1_Dest⟩ := z1
      try rw [← hg] at h_1
      try rw [← ht] at h_1
      try dsimp only at h_1
      rw [hb1]
      cbv
      refine AStep.mk (nn_L hi1) ?_
      cbv
      refine AGet.mk _ (r_getL_Item hg ht hi1 hz1) ?_
      cbv
      cases hb2 : (eq z1_Id 0) with
      | true =>
        rw [br_true hb2] at h_1
        cbv
        try rw [hg] at h_1
        try rw [ht] at h_1
        refine ⟨⟨(k1 + 1, (wrap .i64 (add v2 1)), v1), hc1_, hs1, h_1⟩, Wk.of [] rfl rfl ?_ ?_, meas_L hc1_⟩
        · cbv
          all_goals exact ⟨⟨_, rfl, rfl⟩, ⟨_, rfl, rfl⟩, ⟨_, rfl, rfl⟩, ⟨_, rfl, rfl⟩, trivial⟩
        · cbv
          all_goals exact trivial
      | false =>
        rw [br_false hb2] at h_1
        cbv
        try rw [hg] at h_1
        try rw [ht] at h_1
        refine ⟨⟨(k1 + 1, (wrap .i64 (add v2 1)), (wrap .i64 (add v1 1))), hc1_, hs1, h_1⟩, Wk.of [] rfl rfl ?_ ?_, meas_L hc1_⟩
        · cbv
          all_goals exact ⟨⟨_, rfl, rfl⟩, ⟨_, rfl, rfl⟩, ⟨_, rfl, rfl⟩, ⟨_, rfl, rfl⟩, trivial⟩
        · cbv
          all_goals exact trivial
    · have hb1 : lt v2 (llen (r_Item a0_Belt)) = false := ltL_false_Item hg ht hi1 hc1_
      rw [List.drop_of_length_le (Nat.le_of_not_lt hc1_)] at h_1
      rw [I_CountBelt_l1] at h_1
      try rw [← hg] at h_1
      try rw [← ht] at h_1
      try dsimp only at h_1
      rw [hb1]
      cbv
      refine ⟨v1, Wk.of [] rfl rfl ?_ ?_, h_1.symm⟩
      · cbv
        all_goals exact ⟨⟨_, rfl, rfl⟩, trivial⟩
      · cbv
        all_goals exact trivial
  · rintro y1 hy1
    replace hy1 := hy1.symm
    subst hy1
    try dsimp only [lr, lrL, lrp, lrpL] at h
    cbv
    subst h
    exact ARet.mk trivial hX.symm
end Go.Vs
namespace Go.Vs
set_option maxRecDepth 100000
def ir25 : J :=
  .seq (.reg none [⟨(some 1), none, .box (.t 0)⟩,
     ⟨(some 2), none, .mv (.k (V.i 0))⟩] [1])
  (.seq (.reg none [⟨(some 3), none, .mv (.k (V.i 0))⟩] [1, 3])
  (.seq (.seq (.reg none [⟨(some 4), none, .mv (.k (V.i 0))⟩] [1, 3, 4])
   (.bl 0 (.seq (.seq (.reg none [⟨(some 5), none, .mv (.t 4)⟩,
        ⟨(some 6), none, .fa 2 (.t 1)⟩,
        ⟨(some 7), none, .ld false 1 (.t 6)⟩,
        ⟨(some 8), none, .len false (.t 7)⟩,
        ⟨(some 9), none, .bin .lss .i (.t 5) (.t 8)⟩] [1, 3, 4, 9])
     (.cond (.t 9)
      (.skip)
      (.exit 0)))
    (.seq (.block 1 (.reg none [⟨(some 12), none, .mv (.t 3)⟩,
        ⟨(some 13), none, .fa 2 (.t 1)⟩,
        ⟨(some 14), none, .ld false 1 (.t 13)⟩,
        ⟨(some 15), none, .mv (.t 4)⟩,
        ⟨(some 16), none, .ia 2 (.t 14) (.t 15)⟩,
        ⟨(some 17), none, .fa 1 (.t 16)⟩,
        ⟨(some 18), none, .ld false 1 (.t 17)⟩,
        ⟨(some 19), none, .len false (.t 18)⟩,
        ⟨(some 20), none, .bin .add .i (.t 12) (.t 19)⟩,
        ⟨(some 3), none, .mv (.t 20)⟩] [1, 3, 4]))
    (.reg none [⟨(some 10), none, .mv (.t 4)⟩,
      ⟨(some 11), none, .bin .add .i (.t 10) (.k (V.i 1))⟩,
      ⟨(some 4), none, .mv (.t 11)⟩] [1, 3, 4])))))
  (.seq (.reg none [⟨(some 21), none, .mv (.t 3)⟩,
     ⟨(some 2), none, .mv (.t 21)⟩] [2])
  (.ret))))
def rv25 : List RV := [.t 2]
open Go.Proofs Go.IntWalk
set_option linter.unusedVariables false
set_option maxRecDepth 100000
set_option maxHeartbeats 4000000
def S_CountWait_l1 (g : G) (t : TE) : List Inlet → Int → Int
  | [], v1 =>
    v1
  | z1 :: ls1, v1 =>
    S_CountWait_l1 g t ls1 (g.wrap .i64 (g.add v1 (g.llen (t.r_Item z1.Wait))))
def S_CountWait (g : G) (t : TE) (a0 : Centre) : Int :=
  lP (S_CountWait_l1 g t a0.Inlets 0) fun y1 =>
  y1
theorem fit25 : codeFit Try.prog Try.f25.ntmps (Try.f25.body.getD .skip) ir25 = true := by kernel_rfl
theorem c_S_CountWait {g : G} {t : TE} {a0 : Centre} {r : Int} (hg : g = G.real) (ht : t = TE.real) (h : S_CountWait g t a0 = r) : Fn Try.prog 25 [.g (Centre.rs t a0)] (.c (.r (.v (.int .i64 r)))) := by
  obtain ⟨X, hX⟩ := hide (.c (.r (.v (.int .i64 r))) : X)
  rw [← hX]
  refine fn_of (rvs := rv25) (j := ir25) Try.func25 rfl fit25 (Nat.le_of_ble_eq_true rfl) (by kernel_rfl) prog_mixed ?_
  intro g2 F hg2 hF
  obtain rfl : g2 = g := hg2.unique.trans hg.symm
  clear hg2
  obtain ⟨wrap, lt, le, eq, quo, rem, band, bor, bxor, shl, shr, nat, int, add, sub, mul, cat, seq, slt, sub3, byte, llen, nadd, nsub, dlen, dapp, dset, drep, rd, rda, up, rsub, dsub, all, sle, slen, hasI, putI, hasS, putS, imin, imax, fzc⟩ := g2
  obtain ⟨r_Item, d_Item, r_Chute, d_Chute, r_Inlet, d_Inlet, r_I64, d_I64, r_U8, d_U8⟩ := t
  obtain ⟨a0_Belt, a0_Chutes, a0_Inlets, a0_Plan, a0_Now⟩ := a0
  unfold S_CountWait at h
  try dsimp only at h
  cbv
  obtain ⟨o1, ho1, h⟩ := of_lP h
  try dsimp only at h
  try rw [hg] at ho1
  try rw [ht] at ho1
  refine ABL.mk { p : Nat × Int × Int // p.1 ≤ a0_Inlets.length ∧ p.2.1 = ((p.1 : Nat) : Int) ∧ S_CountWait_l1 G.real TE.real (List.drop p.1 a0_Inlets) p.2.2 = o1 } (fun ⟨⟨k1, v2, v1⟩, _⟩ => ({ sl := [(1, .c (.p 0 5 0 0)), (3, .c (.r (.v (.int .i64 v1)))), (4, .c (.r (.v (.int .i64 v2))))], tab := [(0, some (.foc 5 [] [.r (.s 2 (r_Item a0_Belt)), .r (.s 3 (r_Chute a0_Chutes)), .r (.s 2 (r_Inlet a0_Inlets)), .r (.s 1 (r_I64 a0_Plan)), .r (.v (.int .i64 a0_Now))] []))] } : St)) 1 (fun p => a0_Inlets.length - p.1.1) ⟨(0, 0, 0), Nat.zero_le _, rfl, ho1⟩ (Int) (fun y1 => ({ sl := [(3, .c (.r (.v (.int .i64 y1))))], tab := [] } : St)) 0 (fun y => o1 = y) ?_ ?_ ?_
  · refine Wk.of [(0, some 0)] rfl rfl ?_ ?_
    · cbv
      all_goals exact ⟨⟨_, rfl, rfl⟩, ⟨_, rfl, rfl⟩, ⟨_, rfl, rfl⟩, trivial⟩
    · cbv
      all_goals exact ⟨⟨_, rfl, _, rfl, rfl, rfl, rfl, rfl, rfl, trivial⟩, trivial⟩
  · rintro ⟨⟨k1, v2, v1⟩, hk1, hi1, h_1⟩ hq1
    have hm1 := (hq1.2.2.1 0 _ _ _ _ 2 _ _ rfl rfl)
    try dsimp only at hk1 hi1 h_1
    clear hq1
    cbv
    by_cases hc1_ : k1 < a0_Inlets.length
    · have hb1 : lt v2 (llen (r_Inlet a0_Inlets)) = true := ltL_true_Inlet hg ht hi1 hc1_
      have hs1 := stepL_Inlet hg ht hi1 hc1_ hm1
      obtain ⟨z1, hz1⟩ := some_of_lt hc1_
      rw [drop_of_some hz1] at h_1
      rw [S_CountWait_l1] at h_1
      obtain ⟨z1_Cell, z1_Wait⟩ := z1
      try rw [← hg] at h_1
      try rw [← ht] at h_1
      try dsimp only at h_1
      rw [hb1]
      cbv
      refine AStep.mk (nn_L hi1) ?_
      cbv
      refine AGet.mk _ (r_getL_Inlet hg ht hi1 hz1) ?_
      cbv
      try rw [hg] at h_1
      try rw [ht] at h_1
      refine ⟨⟨(k1 + 1, (wrap .i64 (add v2 1)), (wrap .i64 (add v1 (llen (r_Item z1_Wait))))), hc1_, hs1, h_1⟩, Wk.of [(0, some 0)] rfl rfl ?_ ?_, meas_L hc1_⟩
      · cbv
        all_goals exact ⟨⟨_, rfl, rfl⟩, ⟨_, rfl, rfl⟩, ⟨_, rfl, rfl⟩, trivial⟩
      · cbv
        all_goals exact ⟨⟨_, rfl, _, rfl, rfl, rfl, rfl, rfl, rfl, trivial⟩, trivial⟩
    · have hb1 : lt v2 (llen (r_Inlet a0_Inlets)) = false := ltL_false_Inlet hg ht hi1 hc1_
      rw [List.drop_of_length_le (Nat.le_of_not_lt hc1_)] at h_1
      rw [S_CountWait_l1] at h_1
      try rw [← hg] at h_1
      try rw [← ht] at h_1
      try dsimp only at h_1
      rw [hb1]
      cbv
      refine ⟨v1, Wk.of [] rfl rfl ?_ ?_, h_1.symm⟩
      · cbv
        all_goals exact ⟨⟨_, rfl, rfl⟩, trivial⟩
      · cbv
        all_goals exact trivial
  · rintro y1 hy1
    replace hy1 := hy1.symm
    subst hy1
    try dsimp only [lr, lrL, lrp, lrpL] at h
    cbv
    subst h
    exact ARet.mk trivial hX.symm
end Go.Vs
namespace Go.Vs
set_option maxRecDepth 100000
def ir29 : J :=
  .seq (.reg none [⟨(some 1), none, .box (.t 0)⟩,
     ⟨(some 2), none, .mv (.k (V.i 0))⟩] [1])
  (.seq (.reg none [⟨(some 3), none, .mv (.k (V.i 0))⟩] [1, 3])
  (.seq (.seq (.reg none [⟨(some 4), none, .mv (.k (V.i 0))⟩] [1, 3, 4])
   (.bl 0 (.seq (.seq (.reg none [⟨(some 5), none, .mv (.t 4)⟩,
        ⟨(some 6), none, .fa 0 (.t 1)⟩,
        ⟨(some 7), none, .ld false 1 (.t 6)⟩,
        ⟨(some 8), none, .len false (.t 7)⟩,
        ⟨(some 9), none, .bin .lss .i (.t 5) (.t 8)⟩] [1, 3, 4, 9])
     (.cond (.t 9)
      (.skip)
      (.exit 0)))
    (.seq (.block 1 (.seq (.reg none [⟨(some 12), none, .fa 0 (.t 1)⟩,
         ⟨(some 13), none, .ld false 1 (.t 12)⟩,
         ⟨(some 14), none, .mv (.t 4)⟩,
         ⟨(some 15), none, .ia 2 (.t 13) (.t 14)⟩,
         ⟨(some 16), none, .fa 0 (.t 15)⟩,
         ⟨(some 17), none, .ld false 1 (.t 16)⟩,
         ⟨(some 18), none, .bin .neq .i (.t 17) (.k (V.i 0))⟩] [1, 3, 4, 18])
      (.cond (.t 18)
       (.reg none [⟨(some 19), none, .mv (.t 3)⟩,
          ⟨(some 20), none, .bin .add .i (.t 19) (.k (V.i 1))⟩,
          ⟨(some 3), none, .mv (.t 20)⟩] [1, 3, 4])
       (.skip))))
    (.reg none [⟨(some 10), none, .mv (.t 4)⟩,
      ⟨(some 11), none, .bin .add .i (.t 10) (.k (V.i 1))⟩,
      ⟨(some 4), none, .mv (.t 11)⟩] [1, 3, 4])))))
  (.seq (.reg none [⟨(some 21), none, .mv (.t 3)⟩,
     ⟨(some 2), none, .mv (.t 21)⟩] [2])
  (.ret))))
def rv29 : List RV := [.t 2]
open Go.Proofs Go.IntWalk
set_option linter.unusedVariables false
set_option maxRecDepth 100000
set_option maxHeartbeats 4000000
def S_CountBelt_l1 (g : G) (t : TE) : List Item → Int → Int
  | [], v1 =>
    v1
  | z1 :: ls1, v1 =>
    br (g.eq z1.Id 0)
    (
     S_CountBelt_l1 g t ls1 v1)
    (
     S_CountBelt_l1 g t ls1 (g.wrap .i64 (g.add v1 1)))
def S_CountBelt (g : G) (t : TE) (a0 : Centre) : Int :=
  lP (S_CountBelt_l1 g t a0.Belt 0) fun y1 =>
  y1
theorem fit29 : codeFit Try.prog Try.f29.ntmps (Try.f29.body.getD .skip) ir29 = true := by kernel_rfl
theorem c_S_CountBelt {g : G} {t : TE} {a0 : Centre} {r : Int} (hg : g = G.real) (ht : t = TE.real) (h : S_CountBelt g t a0 = r) : Fn Try.prog 29 [.g (Centre.rs t a0)] (.c (.r (.v (.int .i64 r)))) := by
  obtain ⟨X, hX⟩ := hide (.c (.r (.v (.int .i64 r))) : X)
  rw [← hX]
  refine fn_of (rvs := rv29) (j := ir29) Try.func29 rfl fit29 (Nat.le_of_ble_eq_true rfl) (by kernel_rfl) prog_mixed ?_
  intro g2 F hg2 hF
  obtain rfl : g2 = g := hg2.unique.trans hg.symm
  clear hg2
  obtain ⟨wrap, lt, le, eq, quo, rem, band, bor, bxor, shl, shr, nat, int, add, sub, mul, cat, seq, slt, sub3, byte, llen, nadd, nsub, dlen, dapp, dset, drep, rd, rda, up, rsub, dsub, all, sle, slen, hasI, putI, hasS, putS, imin, imax, fzc⟩ := g2
  obtain ⟨r_Item, d_Item, r_Chute, d_Chute, r_Inlet, d_Inlet, r_I64, d_I64, r_U8, d_U8⟩ := t
  obtain ⟨a0_Belt, a0_Chutes, a0_Inlets, a0_Plan, a0_Now⟩ := a0
  unfold S_CountBelt at h
  try dsimp only at h
  cbv
  obtain ⟨o1, ho1, h⟩ := of_lP h
  try dsimp only at h
  try rw [hg] at ho1
  try rw [ht] at ho1
  refine ABL.mk { p : Nat × Int × Int // p.1 ≤ a0_Belt.length ∧ p.2.1 = ((p.1 : Nat) : Int) ∧ S_CountBelt_l1 G.real TE.real (List.drop p.1 a0_Belt) p.2.2 = o1 } (fun ⟨⟨k1, v2, v1⟩, _⟩ => ({ sl := [(1, .c (.p 0 5 0 0)), (3, .c (.r (.v (.int .i64 v1)))), (4, .c (.r (.v (.int .i64 v2))))], tab := [(0, some (.foc 5 [] [.r (.s 2 (r_Item a0_Belt)), .r (.s 3 (r_Chute a0_Chutes)), .r (.s 2 (r_Inlet a0_Inlets)), .r (.s 1 (r_I64 a0_Plan)), .r (.v (.int .i64 a0_Now))] []))] } : St)) 1 (fun p => a0_Belt.length - p.1.1) ⟨(0, 0, 0), Nat.zero_le _, rfl, ho1⟩ (Int) (fun y1 => ({ sl := [(3, .c (.r (.v (.int .i64 y1))))], tab := [] } : St)) 0 (fun y => o1 = y) ?_ ?_ ?_
  · refine Wk.of [(0, some 0)] rfl rfl ?_ ?_
    · cbv
      all_goals exact ⟨⟨_, rfl, rfl⟩, ⟨_, rfl, rfl⟩, ⟨_, rfl, rfl⟩, trivial⟩
    · cbv
      all_goals exact ⟨⟨_, rfl, _, rfl, rfl, rfl, rfl, rfl, rfl, trivial⟩, trivial⟩
  · rintro ⟨⟨k1, v2, v1⟩, hk1, hi1, h_1⟩ hq1
    have hm1 := (hq1.2.2.1 0 _ _ _ _ 0 _ _ rfl rfl)
    try dsimp only at hk1 hi1 h_1
    clear hq1
    cbv
    by_cases hc1_ : k1 < a0_Belt.length
    · have hb1 : lt v2 (llen (r_Item a0_Belt)) = true := ltL_true_Item hg ht hi1 hc1_
      have hs1 := stepL_Item hg ht hi1 hc1_ hm1
      obtain ⟨z1, hz1⟩ := some_of_lt hc1_
      rw [drop_of_some hz1] at h_1
      rw [S_CountBelt_l1] at h_1
      obtain ⟨z1_Id, z1_Dest⟩ := z1
      try rw [← hg] at h_1
      try rw [← ht] at h_1
      try dsimp only at h_1
      rw [hb1]
      cbv
      refine AStep.mk (nn_L hi1) ?_
      cbv
      refine AGet.mk _ (r_getL_Item hg ht hi1 hz1) ?_
      cbv
      cases hb2 : (eq z1_Id 0) with
      | true =>
        rw [br_true hb2] at h_1
        cbv
        try rw [hg] at h_1
        try rw [ht] at h_1
        refine ⟨⟨(k1 + 1, (wrap .i64 (add v2 1)), v1), hc1_, hs1, h_1⟩, Wk.of [(0, some 0)] rfl rfl ?_ ?_, meas_L hc1_⟩
        · cbv
          all_goals exact ⟨⟨_, rfl, rfl⟩, ⟨_, rfl, rfl⟩, ⟨_, rfl, rfl⟩, trivial⟩
        · cbv
          all_goals exact ⟨⟨_, rfl, _, rfl, rfl, rfl, rfl, rfl, rfl, trivial⟩, trivial⟩
      | false =>
        rw [br_false hb2] at h_1
        cbv
        try rw [hg] at h_1
        try rw [ht] at h_1
        refine ⟨⟨(k1 + 1, (wrap .i64 (add v2 1)), (wrap .i64 (add v1 1))), hc1_, hs1, h_1⟩, Wk.of [(0, some 0)] rfl rfl ?_ ?_, meas_L hc1_⟩
        · cbv
          all_goals exact ⟨⟨_, rfl, rfl⟩, ⟨_, rfl, rfl⟩, ⟨_, rfl, rfl⟩, trivial⟩
        · cbv
          all_goals exact ⟨⟨_, rfl, _, rfl, rfl, rfl, rfl, rfl, rfl, trivial⟩, trivial⟩
    · have hb1 : lt v2 (llen (r_Item a0_Belt)) = false := ltL_false_Item hg ht hi1 hc1_
      rw [List.drop_of_length_le (Nat.le_of_not_lt hc1_)] at h_1
      rw [S_CountBelt_l1] at h_1
      try rw [← hg] at h_1
      try rw [← ht] at h_1
      try dsimp only at h_1
      rw [hb1]
      cbv
      refine ⟨v1, Wk.of [] rfl rfl ?_ ?_, h_1.symm⟩
      · cbv
        all_goals exact ⟨⟨_, rfl, rfl⟩, trivial⟩
      · cbv
        all_goals exact trivial
  · rintro y1 hy1
    replace hy1 := hy1.symm
    subst hy1
    try dsimp only [lr, lrL, lrp, lrpL] at h
    cbv
    subst h
    exact ARet.mk trivial hX.symm
end Go.Vs
