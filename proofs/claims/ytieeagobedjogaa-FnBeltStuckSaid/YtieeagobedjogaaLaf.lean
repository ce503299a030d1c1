/- Part of the proofs of this seat's laws: Laf. No condition. -/
import Derived.Test.YtieeagobedjogaaTy
import Derived.Test.YtieeagobedjogaaTIRall
import Derived.Test.YtieeagobedjogaaLaa
import Derived.Test.YtieeagobedjogaaLab
import Derived.Test.YtieeagobedjogaaLac
import Derived.Test.YtieeagobedjogaaLad
set_option linter.unusedVariables false
set_option linter.unusedSimpArgs false
set_option linter.unusedSectionVars false
namespace Go.Vs
set_option maxRecDepth 100000
def ir27 : J :=
  .seq (.reg none [⟨(some 1), none, .box (.t 0)⟩,
     ⟨(some 2), none, .mv (.k (V.i 0))⟩] [1])
  (.seq (.reg none [⟨(some 3), none, .mv (.k (V.i 0))⟩] [1, 3])
  (.seq (.seq (.reg none [⟨(some 6), none, .fa 2 (.t 1)⟩,
      ⟨(some 7), none, .ld false 1 (.t 6)⟩,
      ⟨(some 8), none, .len false (.t 7)⟩,
      ⟨(some 9), none, .mv (.k (V.i 0))⟩] [3, 7, 8, 9])
   (.bl 0 (.seq (.reg none [⟨(some 10), none, .bin .lss .i (.t 9) (.t 8)⟩] [3, 7, 8, 9, 10])
    (.seq (.cond (.t 10)
      (.skip)
      (.exit 0))
    (.seq (.block 1 (.seq (.reg none [⟨(some 11), none, .ia 2 (.t 7) (.t 9)⟩,
         ⟨(some 12), none, .ld true 2 (.t 11)⟩,
         ⟨(some 5), none, .alloc [.r (.v (.int .i64 0)), .n 2]⟩,
         ⟨none, none, .st 2 (.t 5) (.t 12)⟩] [3, 5, 7, 8, 9])
      (.reg none [⟨(some 13), none, .mv (.t 3)⟩,
        ⟨(some 14), none, .fa 1 (.t 5)⟩,
        ⟨(some 15), none, .ld false 1 (.t 14)⟩,
        ⟨(some 16), none, .len false (.t 15)⟩,
        ⟨(some 17), none, .bin .add .i (.t 13) (.t 16)⟩,
        ⟨(some 3), none, .mv (.t 17)⟩] [3, 7, 8, 9])))
    (.reg none [⟨(some 18), none, .bin .add .i (.t 9) (.k (V.i 1))⟩,
      ⟨(some 9), none, .mv (.t 18)⟩] [3, 7, 8, 9]))))))
  (.seq (.reg none [⟨(some 19), none, .mv (.t 3)⟩,
     ⟨(some 2), none, .mv (.t 19)⟩] [2])
  (.ret))))
def rv27 : List RV := [.t 2]
open Go.Proofs Go.IntWalk
set_option linter.unusedVariables false
set_option maxRecDepth 100000
set_option maxHeartbeats 4000000
def I_CountWait_l1 (g : G) (t : TE) : List Inlet → Int → Int
  | [], v1 =>
    v1
  | z1 :: ls1, v1 =>
    I_CountWait_l1 g t ls1 (g.wrap .i64 (g.add v1 (g.llen (t.r_Item z1.Wait))))
def I_CountWait (g : G) (t : TE) (a0 : Centre) : Int :=
  lP (I_CountWait_l1 g t a0.Inlets 0) fun y1 =>
  y1
theorem fit27 : codeFit Try.prog Try.f27.ntmps (Try.f27.body.getD .skip) ir27 = true := by kernel_rfl
theorem c_I_CountWait {g : G} {t : TE} {a0 : Centre} {r : Int} (hg : g = G.real) (ht : t = TE.real) (h : I_CountWait g t a0 = r) : Fn Try.prog 27 [.g (Centre.rs t a0)] (.c (.r (.v (.int .i64 r)))) := by
  obtain ⟨X, hX⟩ := hide (.c (.r (.v (.int .i64 r))) : X)
  rw [← hX]
  refine fn_of (rvs := rv27) (j := ir27) Try.func27 rfl fit27 (Nat.le_of_ble_eq_true rfl) (by kernel_rfl) prog_mixed ?_
  intro g2 F hg2 hF
  obtain rfl : g2 = g := hg2.unique.trans hg.symm
  clear hg2
  obtain ⟨wrap, lt, le, eq, quo, rem, band, bor, bxor, shl, shr, nat, int, add, sub, mul, cat, seq, slt, sub3, byte, llen, nadd, nsub, dlen, dapp, dset, drep, rd, rda, up, rsub, dsub, all, sle, slen, hasI, putI, hasS, putS, imin, imax, fzc⟩ := g2
  obtain ⟨r_Item, d_Item, r_Chute, d_Chute, r_Inlet, d_Inlet, r_I64, d_I64, r_U8, d_U8, d_InletF⟩ := t
  obtain ⟨a0_Belt, a0_Chutes, a0_Inlets, a0_Plan, a0_Now⟩ := a0
  unfold I_CountWait at h
  try dsimp only at h
  cbv
  obtain ⟨o1, ho1, h⟩ := of_lP h
  try dsimp only at h
  try rw [hg] at ho1
  try rw [ht] at ho1
  refine ABL.mk { p : Nat × Int × Int // p.1 ≤ a0_Inlets.length ∧ p.2.1 = ((p.1 : Nat) : Int) ∧ I_CountWait_l1 G.real TE.real (List.drop p.1 a0_Inlets) p.2.2 = o1 } (fun ⟨⟨k1, v2, v1⟩, _⟩ => ({ sl := [(3, .c (.r (.v (.int .i64 v1)))), (7, .c (.r (.s 2 (r_Inlet a0_Inlets)))), (8, .c (.r (.v (.int .i64 (llen (r_Inlet a0_Inlets)))))), (9, .c (.r (.v (.int .i64 v2))))], tab := [] } : St)) 0 (fun p => a0_Inlets.length - p.1.1) ⟨(0, 0, 0), Nat.zero_le _, rfl, ho1⟩ (Int) (fun y1 => ({ sl := [(3, .c (.r (.v (.int .i64 y1))))], tab := [] } : St)) 0 (fun y => o1 = y) ?_ ?_ ?_
  · refine Wk.of [] rfl rfl ?_ ?_
    · cbv
      all_goals exact ⟨⟨_, rfl, rfl⟩, ⟨_, rfl, rfl⟩, ⟨_, rfl, rfl⟩, ⟨_, rfl, rfl⟩, trivial⟩
    · cbv
      all_goals exact trivial
  · rintro ⟨⟨k1, v2, v1⟩, hk1, hi1, h_1⟩ hq1
    have hm1 := (hq1.1 7 _ _ rfl)
    try dsimp only at hk1 hi1 h_1
    clear hq1
    cbv
    by_cases hc1_ : k1 < a0_Inlets.length
    · have hb1 : lt v2 (llen (r_Inlet a0_Inlets)) = true := ltL_true_Inlet hg ht hi1 hc1_
      have hs1 := stepL_Inlet hg ht hi1 hc1_ hm1
      obtain ⟨z1, hz1⟩ := some_of_lt hc1_
      rw [drop_of_some hz1] at h_1
      rw [I_CountWait_l1] at h_1
      obtain ⟨z1_Cell, z1_Wait⟩ := z1
      try rw [← hg] at h_1
      try rw [← ht] at h_1
      try dsimp only at h_1
      rw [hb1]
      cbv
      refine AStep.mk (nn_L hi1) ?_
      cbv
      refine AGet.mk _ (r_getL_Inlet hg ht hi1 hz1) ?_
      cbv
      try rw [hg] at h_1
      try rw [ht] at h_1
      refine ⟨⟨(k1 + 1, (wrap .i64 (add v2 1)), (wrap .i64 (add v1 (llen (r_Item z1_Wait))))), hc1_, hs1, h_1⟩, Wk.of [] rfl rfl ?_ ?_, meas_L hc1_⟩
      · cbv
        all_goals exact ⟨⟨_, rfl, rfl⟩, ⟨_, rfl, rfl⟩, ⟨_, rfl, rfl⟩, ⟨_, rfl, rfl⟩, trivial⟩
      · cbv
        all_goals exact trivial
    · have hb1 : lt v2 (llen (r_Inlet a0_Inlets)) = false := ltL_false_Inlet hg ht hi1 hc1_
      rw [List.drop_of_length_le (Nat.le_of_not_lt hc1_)] at h_1
      rw [I_CountWait_l1] at h_1
      try rw [← hg] at h_1
      try rw [← ht] at h_1
      try dsimp only at h_1
      rw [hb1]
      cbv
      refine ⟨v1, Wk.of [] rfl rfl ?_ ?_, h_1.symm⟩
      · cbv
        all_goals exact ⟨⟨_, rfl, rfl⟩, trivial⟩
      · cbv
        all_goals exact trivial
  · rintro y1 hy1
    replace hy1 := hy1.symm
    subst hy1
    try dsimp only [lr, lrL, lrp, lrpL] at h
    cbv
    subst h
    exact ARet.mk trivial hX.symm
end Go.Vs
namespace Go.Vs
set_option maxRecDepth 100000
def ir30 : J :=
  .seq (.reg none [⟨(some 1), none, .box (.t 0)⟩,
     ⟨(some 2), none, .mv (.k (V.i 0))⟩] [1])
  (.seq (.reg none [⟨(some 3), none, .mv (.k (V.i 0))⟩] [1, 3])
  (.seq (.seq (.reg none [⟨(some 6), none, .fa 0 (.t 1)⟩,
      ⟨(some 7), none, .ld false 1 (.t 6)⟩,
      ⟨(some 8), none, .len false (.t 7)⟩,
      ⟨(some 9), none, .mv (.k (V.i 0))⟩] [3, 7, 8, 9])
   (.bl 0 (.seq (.reg none [⟨(some 10), none, .bin .lss .i (.t 9) (.t 8)⟩] [3, 7, 8, 9, 10])
    (.seq (.cond (.t 10)
      (.skip)
      (.exit 0))
    (.seq (.block 1 (.seq (.reg none [⟨(some 11), none, .ia 2 (.t 7) (.t 9)⟩,
         ⟨(some 12), none, .ld true 2 (.t 11)⟩,
         ⟨(some 5), none, .alloc [.r (.v (.int .i64 0)), .r (.v (.int .i64 0))]⟩,
         ⟨none, none, .st 2 (.t 5) (.t 12)⟩] [3, 5, 7, 8, 9])
      (.seq (.reg none [⟨(some 13), none, .fa 0 (.t 5)⟩,
         ⟨(some 14), none, .ld false 1 (.t 13)⟩,
         ⟨(some 15), none, .bin .neq .i (.t 14) (.k (V.i 0))⟩] [3, 7, 8, 9, 15])
      (.cond (.t 15)
       (.reg none [⟨(some 16), none, .mv (.t 3)⟩,
          ⟨(some 17), none, .bin .add .i (.t 16) (.k (V.i 1))⟩,
          ⟨(some 3), none, .mv (.t 17)⟩] [3, 7, 8, 9])
       (.skip)))))
    (.reg none [⟨(some 18), none, .bin .add .i (.t 9) (.k (V.i 1))⟩,
      ⟨(some 9), none, .mv (.t 18)⟩] [3, 7, 8, 9]))))))
  (.seq (.reg none [⟨(some 19), none, .mv (.t 3)⟩,
     ⟨(some 2), none, .mv (.t 19)⟩] [2])
  (.ret))))
def rv30 : List RV := [.t 2]
open Go.Proofs Go.IntWalk
set_option linter.unusedVariables false
set_option maxRecDepth 100000
set_option maxHeartbeats 4000000
def I_CountBelt_l1 (g : G) (t : TE) : List Item → Int → Int
  | [], v1 =>
    v1
  | z1 :: ls1, v1 =>
    br (g.eq z1.Id 0)
    (
     I_CountBelt_l1 g t ls1 v1)
    (
     I_CountBelt_l1 g t ls1 (g.wrap .i64 (g.add v1 1)))
def I_CountBelt (g : G) (t : TE) (a0 : Centre) : Int :=
  lP (I_CountBelt_l1 g t a0.Belt 0) fun y1 =>
  y1
theorem fit30 : codeFit Try.prog Try.f30.ntmps (Try.f30.body.getD .skip) ir30 = true := by kernel_rfl
theorem c_I_CountBelt {g : G} {t : TE} {a0 : Centre} {r : Int} (hg : g = G.real) (ht : t = TE.real) (h : I_CountBelt g t a0 = r) : Fn Try.prog 30 [.g (Centre.rs t a0)] (.c (.r (.v (.int .i64 r)))) := by
  obtain ⟨X, hX⟩ := hide (.c (.r (.v (.int .i64 r))) : X)
  rw [← hX]
  refine fn_of (rvs := rv30) (j := ir30) Try.func30 rfl fit30 (Nat.le_of_ble_eq_true rfl) (by kernel_rfl) prog_mixed ?_
  intro g2 F hg2 hF
  obtain rfl : g2 = g := hg2.unique.trans hg.symm
  clear hg2
  obtain ⟨wrap, lt, le, eq, quo, rem, band, bor, bxor, shl, shr, nat, int, add, sub, mul, cat, seq, slt, sub3, byte, llen, nadd, nsub, dlen, dapp, dset, drep, rd, rda, up, rsub, dsub, all, sle, slen, hasI, putI, hasS, putS, imin, imax, fzc⟩ := g2
  obtain ⟨r_Item, d_Item, r_Chute, d_Chute, r_Inlet, d_Inlet, r_I64, d_I64, r_U8, d_U8, d_InletF⟩ := t
  obtain ⟨a0_Belt, a0_Chutes, a0_Inlets, a0_Plan, a0_Now⟩ := a0
  unfold I_CountBelt at h
  try dsimp only at h
  cbv
  obtain ⟨o1, ho1, h⟩ := of_lP h
  try dsimp only at h
  try rw [hg] at ho1
  try rw [ht] at ho1
  refine ABL.mk { p : Nat × Int × Int // p.1 ≤ a0_Belt.length ∧ p.2.1 = ((p.1 : Nat) : Int) ∧ I_CountBelt_l1 G.real TE.real (List.drop p.1 a0_Belt) p.2.2 = o1 } (fun ⟨⟨k1, v2, v1⟩, _⟩ => ({ sl := [(3, .c (.r (.v (.int .i64 v1)))), (7, .c (.r (.s 2 (r_Item a0_Belt)))), (8, .c (.r (.v (.int .i64 (llen (r_Item a0_Belt)))))), (9, .c (.r (.v (.int .i64 v2))))], tab := [] } : St)) 0 (fun p => a0_Belt.length - p.1.1) ⟨(0, 0, 0), Nat.zero_le _, rfl, ho1⟩ (Int) (fun y1 => ({ sl := [(3, .c (.r (.v (.int .i64 y1))))], tab := [] } : St)) 0 (fun y => o1 = y) ?_ ?_ ?_
  · refine Wk.of [] rfl rfl ?_ ?_
    · cbv
      all_goals exact ⟨⟨_, rfl, rfl⟩, ⟨_, rfl, rfl⟩, ⟨_, rfl, rfl⟩, ⟨_, rfl, rfl⟩, trivial⟩
    · cbv
      all_goals exact trivial
  · rintro ⟨⟨k1, v2, v1⟩, hk1, hi1, h_1⟩ hq1
    have hm1 := (hq1.1 7 _ _ rfl)
    try dsimp only at hk1 hi1 h_1
    clear hq1
    cbv
    by_cases hc1_ : k1 < a0_Belt.length
    · have hb1 : lt v2 (llen (r_Item a0_Belt)) = true := ltL_true_Item hg ht hi1 hc1_
      have hs1 := stepL_Item hg ht hi1 hc1_ hm1
      obtain ⟨z1, hz1⟩ := some_of_lt hc1_
      rw [drop_of_some hz1] at h_1
      rw [I_CountBelt_l1] at h_1
      obtain ⟨z1_Id, z1_Dest⟩ := z1
      try rw [← hg] at h_1
      try rw [← ht] at h_1
      try dsimp only at h_1
      rw [hb1]
      cbv
      refine AStep.mk (nn_L hi1) ?_
      cbv
      refine AGet.mk _ (r_getL_Item hg ht hi1 hz1) ?_
      cbv
      cases hb2 : (eq z1_Id 0) with
      | true =>
        rw [br_true hb2] at h_1
        cbv
        try rw [hg] at h_1
        try rw [ht] at h_1
        refine ⟨⟨(k1 + 1, (wrap .i64 (add v2 1)), v1), hc1_, hs1, h_1⟩, Wk.of [] rfl rfl ?_ ?_, meas_L hc1_⟩
        · cbv
          all_goals exact ⟨⟨_, rfl, rfl⟩, ⟨_, rfl, rfl⟩, ⟨_, rfl, rfl⟩, ⟨_, rfl, rfl⟩, trivial⟩
        · cbv
          all_goals exact trivial
      | false =>
        rw [br_false hb2] at h_1
        cbv
        try rw [hg] at h_1
        try rw [ht] at h_1
        refine ⟨⟨(k1 + 1, (wrap .i64 (add v2 1)), (wrap .i64 (add v1 1))), hc1_, hs1, h_1⟩, Wk.of [] rfl rfl ?_ ?_, meas_L hc1_⟩
        · cbv
          all_goals exact ⟨⟨_, rfl, rfl⟩, ⟨_, rfl, rfl⟩, ⟨_, rfl, rfl⟩, ⟨_, rfl, rfl⟩, trivial⟩
        · cbv
          all_goals exact trivial
    · have hb1 : lt v2 (llen (r_Item a0_Belt)) = false := ltL_false_Item hg ht hi1 hc1_
      rw [List.drop_of_length_le (Nat.le_of_not_lt hc1_)] at h_1
      rw [I_CountBelt_l1] at h_1
      try rw [← hg] at h_1
      try rw [← ht] at h_1
      try dsimp only at h_1
      rw [hb1]
      cbv
      refine ⟨v1, Wk.of [] rfl rfl ?_ ?_, h_1.symm⟩
      · cbv
        all_goals exact ⟨⟨_, rfl, rfl⟩, trivial⟩
      · cbv
        all_goals exact trivial
  · rintro y1 hy1
    replace hy1 := hy1.symm
    subst hy1
    try dsimp only [lr, lrL, lrp, lrpL] at h
    cbv
    subst h
    exact ARet.mk trivial hX.symm
end Go.Vs
namespace Go.Vs
set_option maxRecDepth 100000
def ir56 : J :=
  .seq (.reg none [⟨(some 1), none, .box (.t 0)⟩,
     ⟨(some 2), none, .mv (.k (V.b false))⟩] [1])
  (.seq (.reg none [⟨(some 3), none, .ld true 5 (.t 1)⟩,
     ⟨(some 4), none, .call 32 true [(.t 3)]⟩,
     ⟨(some 5), none, .mv (.t 4)⟩,
     ⟨(some 6), (some (5, true)), .ld true 5 (.t 1)⟩,
     ⟨(some 7), (some (5, true)), .call 30 true [(.t 6)]⟩,
     ⟨(some 8), (some (5, true)), .bin .eql .i (.t 7) (.k (V.i 0))⟩,
     ⟨(some 9), none, .pick (.t 5) (.t 8) (.k (V.b false))⟩,
     ⟨(some 10), none, .mv (.t 9)⟩,
     ⟨(some 11), (some (10, true)), .ld true 5 (.t 1)⟩,
     ⟨(some 12), (some (10, true)), .call 27 true [(.t 11)]⟩,
     ⟨(some 13), (some (10, true)), .bin .eql .i (.t 12) (.k (V.i 0))⟩,
     ⟨(some 14), none, .pick (.t 10) (.t 13) (.k (V.b false))⟩,
     ⟨(some 2), none, .mv (.t 14)⟩] [2])
  (.ret))
def rv56 : List RV := [.t 2]
open Go.Proofs Go.IntWalk
set_option linter.unusedVariables false
set_option maxRecDepth 100000
set_option maxHeartbeats 4000000
def I_IsDrained (g : G) (t : TE) (a0 : Centre) : Option Bool :=
  cl (I_IsCentre g t a0) fun x1 =>
  br x1
  (
   lP (I_CountBelt g t a0) fun x2 =>
   br (g.eq x2 0)
   (
    lP (I_CountWait g t a0) fun x3 =>
    some (g.eq x3 0))
   (
    some false))
  (
   some false)
theorem fit56 : codeFit Try.prog Try.f56.ntmps (Try.f56.body.getD .skip) ir56 = true := by kernel_rfl
theorem c_I_IsDrained {g : G} {t : TE} {a0 : Centre} {r : Bool} (hg : g = G.real) (ht : t = TE.real) (h : I_IsDrained g t a0 = some r) : Fn Try.prog 56 [.g (Centre.rs t a0)] (.c (.r (.v (.bool r)))) := by
  obtain ⟨X, hX⟩ := hide (.c (.r (.v (.bool r))) : X)
  rw [← hX]
  refine fn_of (rvs := rv56) (j := ir56) Try.func56 rfl fit56 (Nat.le_of_ble_eq_true rfl) (by kernel_rfl) prog_mixed ?_
  intro g2 F hg2 hF
  obtain rfl : g2 = g := hg2.unique.trans hg.symm
  clear hg2
  obtain ⟨wrap, lt, le, eq, quo, rem, band, bor, bxor, shl, shr, nat, int, add, sub, mul, cat, seq, slt, sub3, byte, llen, nadd, nsub, dlen, dapp, dset, drep, rd, rda, up, rsub, dsub, all, sle, slen, hasI, putI, hasS, putS, imin, imax, fzc⟩ := g2
  obtain ⟨r_Item, d_Item, r_Chute, d_Chute, r_Inlet, d_Inlet, r_I64, d_I64, r_U8, d_U8, d_InletF⟩ := t
  obtain ⟨a0_Belt, a0_Chutes, a0_Inlets, a0_Plan, a0_Now⟩ := a0
  unfold I_IsDrained at h
  try dsimp only at h
  cbv
  obtain ⟨x1, hx1, h⟩ := of_cl h
  try dsimp only at h
  refine ACall.mk _ _ rfl (hF _ _ _ (c_I_IsCentre hg ht hx1)) (.inl rfl) (Nat.le_of_ble_eq_true rfl) ?_
  cbv
  cases hb1 : x1 with
  | true =>
    rw [br_true hb1] at h
    cbv
    try (rw [hb1]; cbv)
    obtain ⟨x2, hx2, h⟩ := of_lP h
    try dsimp only at h
    refine ACall.mk _ _ rfl (hF _ _ _ (c_I_CountBelt hg ht hx2)) (.inl rfl) (Nat.le_of_ble_eq_true rfl) ?_
    cbv
    try (rw [hb1]; cbv)
    try (rw [hb1]; cbv)
    cases hb2 : (eq x2 0) with
    | true =>
      rw [br_true hb2] at h
      cbv
      try (rw [hb2]; cbv)
      obtain ⟨x3, hx3, h⟩ := of_lP h
      try dsimp only at h
      refine ACall.mk _ _ rfl (hF _ _ _ (c_I_CountWait hg ht hx3)) (.inl rfl) (Nat.le_of_ble_eq_true rfl) ?_
      cbv
      try (rw [hb2]; cbv)
      try (rw [hb2]; cbv)
      obtain rfl := Option.some.inj h
      exact ARet.mk trivial hX.symm
    | false =>
      rw [br_false hb2] at h
      cbv
      try (rw [hb2]; cbv)
      try (rw [hb2]; cbv)
      try (rw [hb2]; cbv)
      obtain rfl := Option.some.inj h
      exact ARet.mk trivial hX.symm
  | false =>
    rw [br_false hb1] at h
    cbv
    try (rw [hb1]; cbv)
    try (rw [hb1]; cbv)
    try (rw [hb1]; cbv)
    obtain rfl := Option.some.inj h
    exact ARet.mk trivial hX.symm
end Go.Vs
namespace Go.Vs
set_option maxRecDepth 100000
def ir55 : J :=
  .seq (.reg none [⟨(some 1), none, .box (.t 0)⟩,
     ⟨(some 2), none, .mv (.k (V.b false))⟩] [1])
  (.seq (.seq (.reg none [⟨(some 6), none, .ld true 5 (.t 1)⟩,
      ⟨(some 7), none, .call 32 true [(.t 6)]⟩,
      ⟨(some 8), none, .not (.t 7)⟩,
      ⟨(some 9), none, .mv (.t 8)⟩,
      ⟨(some 10), (some (9, false)), .ld true 5 (.t 1)⟩,
      ⟨(some 11), (some (9, false)), .call 56 true [(.t 10)]⟩,
      ⟨(some 12), none, .pick (.t 9) (.k (V.b true)) (.t 11)⟩] [1, 12])
   (.cond (.t 12)
    (.seq (.reg none [⟨(some 2), none, .mv (.k (V.b false))⟩] [2])
     (.ret))
    (.skip)))
  (.seq (.seq (.reg none [⟨(some 13), none, .fa 0 (.t 1)⟩,
      ⟨(some 14), none, .ld false 1 (.t 13)⟩,
      ⟨(some 15), none, .len false (.t 14)⟩,
      ⟨(some 16), none, .mv (.k (V.i 0))⟩] [1, 14, 15, 16])
   (.bl 0 (.seq (.reg none [⟨(some 17), none, .bin .lss .i (.t 16) (.t 15)⟩] [1, 14, 15, 16, 17])
    (.seq (.cond (.t 17)
      (.skip)
      (.exit 0))
    (.seq (.block 1 (.seq (.reg none [⟨(some 18), none, .ia 2 (.t 14) (.t 16)⟩,
         ⟨(some 19), none, .ld true 2 (.t 18)⟩,
         ⟨(some 4), none, .alloc [.r (.v (.int .i64 0)), .r (.v (.int .i64 0))]⟩,
         ⟨none, none, .st 2 (.t 4) (.t 19)⟩] [1, 4, 14, 15, 16])
      (.seq (.reg none [⟨(some 20), none, .ld true 2 (.t 4)⟩,
         ⟨(some 21), none, .bld [.r (.v (.int .i64 0)), .r (.v (.int .i64 0))] []⟩,
         ⟨(some 22), none, .eqs true [.i, .i] (.t 20) (.t 21)⟩] [1, 4, 14, 15, 16, 22])
      (.cond (.t 22)
       (.seq (.reg (some [[], [0], [], [2], [], [4], [2, 3, 4, 5], [2, 3, 4, 5, 6], [0, 1, 2, 3, 4, 5, 6, 7], [0, 1, 2, 3, 4, 5, 6, 7, 8], [], [0, 1, 2, 3, 4, 5, 6, 7, 8, 9, 10]]) [⟨(some 23), none, .fa 1 (.t 1)⟩,
           ⟨(some 24), none, .ld false 1 (.t 23)⟩,
           ⟨(some 25), none, .fa 3 (.t 1)⟩,
           ⟨(some 26), none, .ld false 1 (.t 25)⟩,
           ⟨(some 27), none, .fa 1 (.t 4)⟩,
           ⟨(some 28), none, .ld false 1 (.t 27)⟩,
           ⟨(some 29), none, .ia 1 (.t 26) (.t 28)⟩,
           ⟨(some 30), none, .ld false 1 (.t 29)⟩,
           ⟨(some 31), none, .ia 3 (.t 24) (.t 30)⟩,
           ⟨(some 32), none, .ld true 3 (.t 31)⟩,
           ⟨(some 5), none, .alloc [.r (.v (.int .i64 0)), .r (.v (.int .i64 0)), .n 2]⟩,
           ⟨none, none, .st 3 (.t 5) (.t 32)⟩] [1, 5, 14, 15, 16])
        (.seq (.reg none [⟨(some 33), none, .fa 2 (.t 5)⟩,
           ⟨(some 34), none, .ld false 1 (.t 33)⟩,
           ⟨(some 35), none, .len false (.t 34)⟩,
           ⟨(some 36), none, .fa 1 (.t 5)⟩,
           ⟨(some 37), none, .ld false 1 (.t 36)⟩,
           ⟨(some 38), none, .bin .lss .i (.t 35) (.t 37)⟩] [1, 14, 15, 16, 38])
        (.cond (.t 38)
         (.seq (.reg none [⟨(some 2), none, .mv (.k (V.b false))⟩] [2])
          (.ret))
         (.skip))))
       (.skip)))))
    (.reg none [⟨(some 39), none, .bin .add .i (.t 16) (.k (V.i 1))⟩,
      ⟨(some 16), none, .mv (.t 39)⟩] [1, 14, 15, 16]))))))
  (.seq (.reg (some [[], [0], [0, 1], [0, 1, 2], [0, 1, 2, 3], [0, 1, 2, 3, 4], [0, 1, 2, 3], [0, 1, 2, 3, 6], [0, 1, 2, 3, 6, 7], [0, 1, 2, 3, 4, 5, 6, 7, 8], [0, 1, 2, 3, 4, 5, 6, 7, 8, 9], [0, 1, 2, 3, 4, 5, 6, 7, 8, 9, 10]]) [⟨(some 40), none, .ld true 5 (.t 1)⟩,
     ⟨(some 41), none, .call 27 true [(.t 40)]⟩,
     ⟨(some 42), none, .bin .eql .i (.t 41) (.k (V.i 0))⟩,
     ⟨(some 43), none, .mv (.t 42)⟩,
     ⟨(some 44), (some (43, false)), .ld true 5 (.t 1)⟩,
     ⟨(some 45), (some (43, false)), .call 30 true [(.t 44)]⟩,
     ⟨(some 46), (some (43, false)), .fa 0 (.t 1)⟩,
     ⟨(some 47), (some (43, false)), .ld false 1 (.t 46)⟩,
     ⟨(some 48), (some (43, false)), .len false (.t 47)⟩,
     ⟨(some 49), (some (43, false)), .bin .eql .i (.t 45) (.t 48)⟩,
     ⟨(some 50), none, .pick (.t 43) (.k (V.b true)) (.t 49)⟩,
     ⟨(some 2), none, .mv (.t 50)⟩] [2])
  (.ret))))
def rv55 : List RV := [.t 2]
open Go.Proofs Go.IntWalk
set_option linter.unusedVariables false
set_option maxRecDepth 100000
set_option maxHeartbeats 4000000
def I_IsStuck_l1 (g : G) (t : TE) (a0 : Centre) : List Item → Option (LR Bool Unit)
  | [] =>
    some (LR.out ())
  | z1 :: ls1 =>
    br (g.all [(g.eq z1.Id 0), (g.eq z1.Dest 0)])
    (
     I_IsStuck_l1 g t a0 ls1)
    (
     gd (((0 : Int) ≤ z1.Dest)) <|
     gt a0.Plan (g.nat z1.Dest) fun x3 =>
     gd (((0 : Int) ≤ x3)) <|
     gt a0.Chutes (g.nat x3) fun x4 =>
     br (g.lt (g.llen (t.r_Item x4.Held)) x4.Room)
     (
      some (LR.ret false))
     (
      I_IsStuck_l1 g t a0 ls1))
def I_IsStuck (g : G) (t : TE) (a0 : Centre) : Option Bool :=
  cl (I_IsCentre g t a0) fun x1 =>
  br x1
  (
   cl (I_IsDrained g t a0) fun x2 =>
   br x2
   (
    some false)
   (
    cl (I_IsStuck_l1 g t a0 a0.Belt) fun o1 => lr o1 fun y1 =>
    lP (I_CountWait g t a0) fun x5 =>
    br (g.eq x5 0)
    (
     some true)
    (
     lP (I_CountBelt g t a0) fun x6 =>
     some (g.eq x6 (g.llen (t.r_Item a0.Belt))))))
  (
   some false)
theorem fit55 : codeFit Try.prog Try.f55.ntmps (Try.f55.body.getD .skip) ir55 = true := by kernel_rfl
theorem c_I_IsStuck {g : G} {t : TE} {a0 : Centre} {r : Bool} (hg : g = G.real) (ht : t = TE.real) (h : I_IsStuck g t a0 = some r) : Fn Try.prog 55 [.g (Centre.rs t a0)] (.c (.r (.v (.bool r)))) := by
  obtain ⟨X, hX⟩ := hide (.c (.r (.v (.bool r))) : X)
  rw [← hX]
  refine fn_of (rvs := rv55) (j := ir55) Try.func55 rfl fit55 (Nat.le_of_ble_eq_true rfl) (by kernel_rfl) prog_mixed ?_
  intro g2 F hg2 hF
  obtain rfl : g2 = g := hg2.unique.trans hg.symm
  clear hg2
  obtain ⟨wrap, lt, le, eq, quo, rem, band, bor, bxor, shl, shr, nat, int, add, sub, mul, cat, seq, slt, sub3, byte, llen, nadd, nsub, dlen, dapp, dset, drep, rd, rda, up, rsub, dsub, all, sle, slen, hasI, putI, hasS, putS, imin, imax, fzc⟩ := g2
  obtain ⟨r_Item, d_Item, r_Chute, d_Chute, r_Inlet, d_Inlet, r_I64, d_I64, r_U8, d_U8, d_InletF⟩ := t
  obtain ⟨a0_Belt, a0_Chutes, a0_Inlets, a0_Plan, a0_Now⟩ := a0
  unfold I_IsStuck at h
  try dsimp only at h
  cbv
  obtain ⟨x1, hx1, h⟩ := of_cl h
  try dsimp only at h
  refine ACall.mk _ _ rfl (hF _ _ _ (c_I_IsCentre hg ht hx1)) (.inl rfl) (Nat.le_of_ble_eq_true rfl) ?_
  cbv
  cases hb1 : x1 with
  | true =>
    rw [br_true hb1] at h
    cbv
    try (rw [hb1]; cbv)
    obtain ⟨x2, hx2, h⟩ := of_cl h
    try dsimp only at h
    refine ACall.mk _ _ rfl (hF _ _ _ (c_I_IsDrained hg ht hx2)) (.inl rfl) (Nat.le_of_ble_eq_true rfl) ?_
    cbv
    try (rw [hb1]; cbv)
    cases hb2 : x2 with
    | true =>
      rw [br_true hb2] at h
      cbv
      obtain rfl := Option.some.inj h
      exact ARet.mk trivial hX.symm
    | false =>
      rw [br_false hb2] at h
      cbv
      obtain ⟨o1, ho1, h⟩ := of_cl h
      try dsimp only at h
      try rw [hg] at ho1
      try rw [ht] at ho1
      refine ABL.mk { p : Nat × Int // p.1 ≤ a0_Belt.length ∧ p.2 = ((p.1 : Nat) : Int) ∧ I_IsStuck_l1 G.real TE.real (Centre.mk a0_Belt a0_Chutes a0_Inlets a0_Plan a0_Now) (List.drop p.1 a0_Belt) = some o1 } (fun ⟨⟨k1, v1⟩, _⟩ => ({ sl := [(1, .c (.p 0 5 0 0)), (14, .c (.r (.s 2 (r_Item a0_Belt)))), (15, .c (.r (.v (.int .i64 (llen (r_Item a0_Belt)))))), (16, .c (.r (.v (.int .i64 v1))))], tab := [(0, some (.foc 5 [] [.r (.s 2 (r_Item a0_Belt)), .r (.s 3 (r_Chute a0_Chutes)), .r (.s 2 (r_Inlet a0_Inlets)), .r (.s 1 (r_I64 a0_Plan)), .r (.v (.int .i64 a0_Now))] []))] } : St)) 1 (fun p => a0_Belt.length - p.1.1) ⟨(0, 0), Nat.zero_le _, rfl, ho1⟩ (Unit) (fun _ => ({ sl := [(1, .c (.p 0 5 0 0))], tab := [(0, some (.foc 5 [] [.r (.s 2 (r_Item a0_Belt)), .r (.s 3 (r_Chute a0_Chutes)), .r (.s 2 (r_Inlet a0_Inlets)), .r (.s 1 (r_I64 a0_Plan)), .r (.v (.int .i64 a0_Now))] []))] } : St)) 1 (fun y => o1 = LR.out y) ?_ ?_ ?_
      · refine Wk.of [(0, some 0)] rfl rfl ?_ ?_
        · cbv
          all_goals exact ⟨⟨_, rfl, rfl⟩, ⟨_, rfl, rfl⟩, ⟨_, rfl, rfl⟩, ⟨_, rfl, rfl⟩, trivial⟩
        · cbv
          all_goals exact ⟨⟨_, rfl, _, rfl, rfl, rfl, rfl, rfl, rfl, trivial⟩, trivial⟩
      · rintro ⟨⟨k1, v1⟩, hk1, hi1, h_1⟩ hq1
        have hm1 := (hq1.1 14 _ _ rfl)
        try dsimp only at hk1 hi1 h_1
        clear hq1
        cbv
        by_cases hc1_ : k1 < a0_Belt.length
        · have hb3 : lt v1 (llen (r_Item a0_Belt)) = true := ltL_true_Item hg ht hi1 hc1_
          have hs1 := stepL_Item hg ht hi1 hc1_ hm1
          obtain ⟨z1, hz1⟩ := some_of_lt hc1_
          rw [drop_of_some hz1] at h_1
          rw [I_IsStuck_l1] at h_1
          obtain ⟨z1_Id, z1_Dest⟩ := z1
          try rw [← hg] at h_1
          try rw [← ht] at h_1
          try dsimp only at h_1
          rw [hb3]
          cbv
          refine AStep.mk (nn_L hi1) ?_
          cbv
          refine AGet.mk _ (r_getL_Item hg ht hi1 hz1) ?_
          cbv
          cases hb4 : (all [(eq z1_Id 0), (eq z1_Dest 0)]) with
          | true =>
            rw [br_true hb4] at h_1
            cbv
            try rw [hg] at h_1
            try rw [ht] at h_1
            refine ⟨⟨(k1 + 1, (wrap .i64 (add v1 1))), hc1_, hs1, h_1⟩, Wk.of [(0, some 0)] rfl rfl ?_ ?_, meas_L hc1_⟩
            · cbv
              all_goals exact ⟨⟨_, rfl, rfl⟩, ⟨_, rfl, rfl⟩, ⟨_, rfl, rfl⟩, ⟨_, rfl, rfl⟩, trivial⟩
            · cbv
              all_goals exact ⟨⟨_, rfl, _, rfl, rfl, rfl, rfl, rfl, rfl, trivial⟩, trivial⟩
          | false =>
            rw [br_false hb4] at h_1
            cbv
            obtain ⟨hc1, h_1⟩ := of_gd h_1
            refine AStep.mk hc1 ?_
            cbv
            obtain ⟨x3, hx3, h_1⟩ := of_gt h_1
            try dsimp only at h_1
            refine AGet.mk _ (r_get_I64 hg ht hx3) ?_
            cbv
            obtain ⟨hc2, h_1⟩ := of_gd h_1
            refine AStep.mk hc2 ?_
            cbv
            obtain ⟨x4, hx4, h_1⟩ := of_gt h_1
            obtain ⟨x4_Cell, x4_Room, x4_Held⟩ := x4
            try dsimp only at h_1
            refine AGet.mk _ (r_get_Chute hg ht hx4) ?_
            cbv
            cases hb5 : (lt (llen (r_Item x4_Held)) x4_Room) with
            | true =>
              rw [br_true hb5] at h_1
              cbv
              obtain rfl := Option.some.inj h_1
              try dsimp only [lr, lrL, lrp, lrpL] at h
              obtain rfl := Option.some.inj h
              exact ARet.mk trivial hX.symm
            | false =>
              rw [br_false hb5] at h_1
              cbv
              try rw [hg] at h_1
              try rw [ht] at h_1
              refine ⟨⟨(k1 + 1, (wrap .i64 (add v1 1))), hc1_, hs1, h_1⟩, Wk.of [(0, some 0)] rfl rfl ?_ ?_, meas_L hc1_⟩
              · cbv
                all_goals exact ⟨⟨_, rfl, rfl⟩, ⟨_, rfl, rfl⟩, ⟨_, rfl, rfl⟩, ⟨_, rfl, rfl⟩, trivial⟩
              · cbv
                all_goals exact ⟨⟨_, rfl, _, rfl, rfl, rfl, rfl, rfl, rfl, trivial⟩, trivial⟩
        · have hb3 : lt v1 (llen (r_Item a0_Belt)) = false := ltL_false_Item hg ht hi1 hc1_
          rw [List.drop_of_length_le (Nat.le_of_not_lt hc1_)] at h_1
          rw [I_IsStuck_l1] at h_1
          try rw [← hg] at h_1
          try rw [← ht] at h_1
          try dsimp only at h_1
          rw [hb3]
          cbv
          refine ⟨(), Wk.of [(0, some 0)] rfl rfl ?_ ?_, (Option.some.inj h_1).symm⟩
          · cbv
            all_goals exact ⟨⟨_, rfl, rfl⟩, trivial⟩
          · cbv
            all_goals exact ⟨⟨_, rfl, _, rfl, rfl, rfl, rfl, rfl, rfl, trivial⟩, trivial⟩
      · rintro _ hy1
        replace hy1 := hy1.symm
        subst hy1
        try dsimp only [lr, lrL, lrp, lrpL] at h
        cbv
        obtain ⟨x5, hx5, h⟩ := of_lP h
        try dsimp only at h
        refine ACall.mk _ _ rfl (hF _ _ _ (c_I_CountWait hg ht hx5)) (.inl rfl) (Nat.le_of_ble_eq_true rfl) ?_
        cbv
        cases hb6 : (eq x5 0) with
        | true =>
          rw [br_true hb6] at h
          cbv
          try (rw [hb6]; cbv)
          try (rw [hb6]; cbv)
          try (rw [hb6]; cbv)
          try (rw [hb6]; cbv)
          try (rw [hb6]; cbv)
          try (rw [hb6]; cbv)
          obtain rfl := Option.some.inj h
          exact ARet.mk trivial hX.symm
        | false =>
          rw [br_false hb6] at h
          cbv
          try (rw [hb6]; cbv)
          obtain ⟨x6, hx6, h⟩ := of_lP h
          try dsimp only at h
          refine ACall.mk _ _ rfl (hF _ _ _ (c_I_CountBelt hg ht hx6)) (.inl rfl) (Nat.le_of_ble_eq_true rfl) ?_
          cbv
          try (rw [hb6]; cbv)
          try (rw [hb6]; cbv)
          try (rw [hb6]; cbv)
          try (rw [hb6]; cbv)
          try (rw [hb6]; cbv)
          obtain rfl := Option.some.inj h
          exact ARet.mk trivial hX.symm
  | false =>
    rw [br_false hb1] at h
    cbv
    try (rw [hb1]; cbv)
    try (rw [hb1]; cbv)
    obtain rfl := Option.some.inj h
    exact ARet.mk trivial hX.symm
end Go.Vs
namespace Go.Vs
set_option maxRecDepth 100000
def ir104 : J :=
  .seq (.reg none [⟨(some 2), none, .alloc [.n 2, .n 3, .n 2, .n 1, .r (.v (.int .i64 0))]⟩] [0, 2])
  (.seq (.reg none [⟨(some 8), none, .mv (.t 0)⟩,
     ⟨(some 9), none, .callm 118 (.t 8) []⟩,
     ⟨(some 10), none, .call 72 true [(.t 9), (.k (V.i 40))]⟩,
     ⟨(some 3), none, .alloc [.n 2, .n 3, .n 2, .n 1, .r (.v (.int .i64 0))]⟩,
     ⟨none, none, .st 5 (.t 3) (.t 10)⟩] [0, 2, 3])
  (.seq (.seq (.reg none [⟨(some 4), none, .mv (.k (V.i 0))⟩] [0, 2, 3, 4])
   (.bl 0 (.seq (.seq (.reg none [⟨(some 11), none, .mv (.t 4)⟩,
        ⟨(some 12), none, .fa 1 (.t 3)⟩,
        ⟨(some 13), none, .ld false 1 (.t 12)⟩,
        ⟨(some 14), none, .len false (.t 13)⟩,
        ⟨(some 15), none, .bin .lss .i (.t 11) (.t 14)⟩] [0, 2, 3, 4, 15])
     (.cond (.t 15)
      (.skip)
      (.exit 0)))
    (.seq (.block 1 (.seq (.gh (.ga (.reg none [⟨(some 18), none, .mv (.t 0)⟩,
          ⟨(some 19), none, .callm 103 (.t 18) [(.k (V.i 4))]⟩,
          ⟨(some 20), none, .not (.t 19)⟩,
          ⟨(some 21), none, .mv (.t 20)⟩,
          ⟨(some 22), (some (21, true)), .fa 1 (.t 3)⟩,
          ⟨(some 23), (some (21, true)), .ld false 1 (.t 22)⟩,
          ⟨(some 24), (some (21, true)), .mv (.t 4)⟩,
          ⟨(some 25), (some (21, true)), .ia 3 (.t 23) (.t 24)⟩,
          ⟨(some 26), (some (21, true)), .fa 2 (.t 25)⟩,
          ⟨(some 27), (some (21, true)), .ld false 1 (.t 26)⟩,
          ⟨(some 28), (some (21, true)), .len false (.t 27)⟩,
          ⟨(some 29), (some (21, true)), .bin .gtr .i (.t 28) (.k (V.i 0))⟩,
          ⟨(some 30), none, .pick (.t 21) (.t 29) (.k (V.b false))⟩] [0, 2, 3, 4, 30])))
      (.cond (.t 30)
       (.gh (.ga (.reg (some [[], [0], [], [], [3], [], [3, 4, 5], [3, 4, 5, 6], [3, 4, 5, 6, 7], [3, 4, 5, 6, 7, 8], [0, 1, 2, 3, 4, 5, 6, 7, 8, 9], [0, 1, 2, 3, 4, 5, 6, 7, 8, 9, 10], [0, 1, 2, 3, 4, 5, 6, 7, 8, 9, 10, 11]]) [⟨(some 31), none, .fa 1 (.t 3)⟩,
           ⟨(some 32), none, .ld false 1 (.t 31)⟩,
           ⟨(some 33), none, .mv (.t 4)⟩,
           ⟨(some 34), none, .fa 1 (.t 3)⟩,
           ⟨(some 35), none, .ld false 1 (.t 34)⟩,
           ⟨(some 36), none, .mv (.t 4)⟩,
           ⟨(some 37), none, .ia 3 (.t 35) (.t 36)⟩,
           ⟨(some 38), none, .fa 2 (.t 37)⟩,
           ⟨(some 39), none, .ld false 1 (.t 38)⟩,
           ⟨(some 40), none, .len false (.t 39)⟩,
           ⟨(some 41), none, .ia 3 (.t 32) (.t 33)⟩,
           ⟨(some 42), none, .fa 1 (.t 41)⟩,
           ⟨none, none, .st 1 (.t 42) (.t 40)⟩] [0, 2, 3, 4])))
       (.skip))))
    (.reg none [⟨(some 16), none, .mv (.t 4)⟩,
      ⟨(some 17), none, .bin .add .i (.t 16) (.k (V.i 1))⟩,
      ⟨(some 4), none, .mv (.t 17)⟩] [0, 2, 3, 4])))))
  (.seq (.seq (.reg none [⟨(some 43), none, .mv (.t 0)⟩,
      ⟨(some 44), none, .callm 101 (.t 43) [(.k (V.i 16))]⟩,
      ⟨(some 5), none, .mv (.t 44)⟩] [0, 2, 3, 5])
   (.bl 2 (.seq (.seq (.reg none [⟨(some 45), none, .mv (.t 5)⟩,
        ⟨(some 46), none, .bin .gtr .i (.t 45) (.k (V.i 0))⟩] [0, 2, 3, 5, 46])
     (.cond (.t 46)
      (.skip)
      (.exit 2)))
    (.seq (.block 3 (.seq (.reg (some [[], [], [], [2], [2, 3], [1, 2, 3, 4], [], [6], [], [], [9], [9, 10], [1, 2, 3, 4, 5, 8, 9, 10, 11], [1, 2, 3, 4, 5, 6, 7, 8, 9, 10, 11, 12], [0, 1, 2, 3, 4, 5, 6, 7, 8, 9, 10, 11, 12, 13], [0, 1, 2, 3, 4, 5, 6, 7, 8, 9, 10, 11, 12, 13, 14], [0, 1, 2, 3, 4, 5, 6, 7, 8, 9, 10, 11, 12, 13, 14, 15], [0, 1, 2, 3, 4, 5, 6, 7, 8, 9, 10, 11, 12, 13, 14, 15], [], [0, 1, 2, 3, 4, 5, 6, 7, 8, 9, 10, 11, 12, 13, 14, 15, 16, 18], [0, 1, 2, 3, 4, 5, 6, 7, 8, 9, 10, 11, 12, 13, 14, 15, 16, 17, 18, 19]]) [⟨(some 50), none, .ld true 5 (.t 3)⟩,
         ⟨(some 51), none, .mv (.t 0)⟩,
         ⟨(some 52), none, .fa 2 (.t 3)⟩,
         ⟨(some 53), none, .ld false 1 (.t 52)⟩,
         ⟨(some 54), none, .len false (.t 53)⟩,
         ⟨(some 55), none, .callm 101 (.t 51) [(.t 54)]⟩,
         ⟨(some 56), none, .mv (.t 5)⟩,
         ⟨(some 57), none, .bin .add .i (.k (V.i 100)) (.t 56)⟩,
         ⟨(some 58), none, .mv (.t 0)⟩,
         ⟨(some 59), none, .fa 3 (.t 3)⟩,
         ⟨(some 60), none, .ld false 1 (.t 59)⟩,
         ⟨(some 61), none, .len false (.t 60)⟩,
         ⟨(some 62), none, .callm 101 (.t 58) [(.t 61)]⟩,
         ⟨(some 63), none, .bld [.r (.v (.int .i64 0)), .r (.v (.int .i64 0))] [(0, 1, (.t 57)), (1, 1, (.t 62))]⟩,
         ⟨(some 64), none, .call 69 true [(.t 50), (.t 55), (.t 63)]⟩,
         ⟨(some 49), none, .mv (.t 64)⟩,
         ⟨(some 65), none, .ext 0 (.t 49)⟩,
         ⟨(some 66), none, .ext 1 (.t 49)⟩,
         ⟨(some 6), none, .alloc [.n 2, .n 3, .n 2, .n 1, .r (.v (.int .i64 0))]⟩,
         ⟨none, none, .st 5 (.t 6) (.t 65)⟩,
         ⟨(some 7), none, .mv (.t 66)⟩] [0, 2, 3, 5, 6])
      (.reg none [⟨(some 67), none, .ld true 5 (.t 6)⟩,
        ⟨none, none, .st 5 (.t 3) (.t 67)⟩] [0, 2, 3, 5])))
    (.reg none [⟨(some 47), none, .mv (.t 5)⟩,
      ⟨(some 48), none, .bin .sub .i (.t 47) (.k (V.i 1))⟩,
      ⟨(some 5), none, .mv (.t 48)⟩] [0, 2, 3, 5])))))
  (.seq (.reg (some [[], [], [1], [0, 1, 2], [0, 1, 2, 3]]) [⟨(some 68), none, .ld true 5 (.t 3)⟩,
     ⟨(some 69), none, .mv (.t 0)⟩,
     ⟨(some 70), none, .callm 101 (.t 69) [(.k (V.i 30))]⟩,
     ⟨(some 71), none, .call 72 true [(.t 68), (.t 70)]⟩,
     ⟨none, none, .st 5 (.t 2) (.t 71)⟩] [2])
  (.ret)))))
def rv104 : List RV := [.c 2 true 5]
open Go.Proofs Go.IntWalk
set_option linter.unusedVariables false
set_option maxRecDepth 100000
set_option maxHeartbeats 4000000
def S_l7Full_l2 (g : G) (t : TE) : Nat → List Int → Int → Int → List Item → List Chute → List Inlet → List Int → Int → Int → Option ((List Int) × Int × Int × (List Item) × (List Chute) × (List Inlet) × (List Int) × Int)
  | 0, _, _, _, _, _, _, _, _, _ => none
  | n2 + 1, v5, v6, v7, w2, w3, w4, w5, v8, v9 =>
    br (g.lt 0 v9)
    (
     cl (S_l1Below g t (Cur.mk v5 v6 v7) (g.int (g.dlen (t.d_Inlet w4)))) fun x6 =>
     cl (S_l1Below g t (Cur.mk x6.2.b x6.2.i x6.2.h) (g.int (g.dlen (t.d_I64 w5)))) fun x7 =>
     cl (S_FeedCentre g t (Centre.mk w2 w3 w4 w5 v8) x6.1 (Item.mk (g.wrap .i64 (g.add 100 v9)) x7.1)) fun x8 =>
     S_l7Full_l2 g t n2 x7.2.b x7.2.i x7.2.h x8.1.Belt x8.1.Chutes x8.1.Inlets x8.1.Plan x8.1.Now (g.wrap .i64 (g.sub v9 1)))
    (
     some (v5, v6, v7, w2, w3, w4, w5, v8))
def S_l7Full_l1 (g : G) (t : TE) : Nat → List Int → Int → Int → List Chute → Int → Option ((List Int) × Int × Int × List Chute)
  | 0, _, _, _, _, _ => none
  | n1 + 1, v1, v2, v3, w1, v4 =>
    br (g.lt v4 (g.int (g.dlen (t.d_Chute w1))))
    (
     gt w1 (g.nat v4) fun x3 =>
     cl (S_l1Once g t (Cur.mk v1 v2 v3) 4) fun x4 =>
     br x4.1
     (
      S_l7Full_l1 g t n1 x4.2.b x4.2.i x4.2.h w1 (g.wrap .i64 (g.add v4 1)))
     (
      gd (((0 : Int) ≤ v4 ∧ v4 < (((g.dlen (t.d_Chute w1)) : Nat) : Int))) <|
      br (g.lt 0 (g.int (g.dlen (t.d_Item x3.Held))))
      (
       gd (((0 : Int) ≤ v4 ∧ v4 < (((g.dlen (t.d_Chute w1)) : Nat) : Int))) <|
       gd (((0 : Int) ≤ v4 ∧ v4 < (((g.dlen (t.d_Chute w1)) : Nat) : Int))) <|
       lP (List.set w1 (g.nat v4) (Chute.mk x3.Cell (g.int (g.dlen (t.d_Item x3.Held))) x3.Held)) fun (l1 : List Chute) =>
       S_l7Full_l1 g t n1 x4.2.b x4.2.i x4.2.h l1 (g.wrap .i64 (g.add v4 1)))
      (
       S_l7Full_l1 g t n1 x4.2.b x4.2.i x4.2.h w1 (g.wrap .i64 (g.add v4 1)))))
    (
     some (v1, v2, v3, w1))
def S_l7Full (g : G) (t : TE) (a0 : Cur) : Option (Centre × Cur) :=
  cl (S_l7Draw g t a0) fun x1 =>
  cl (S_RunCentre g t (Centre.mk x1.1.Belt x1.1.Chutes x1.1.Inlets x1.1.Plan x1.1.Now) 40) fun x2 =>
  cl (S_l7Full_l1 g t 1000000000 x1.2.b x1.2.i x1.2.h x2.Chutes 0) fun y1 =>
  cl (S_l1Below g t (Cur.mk y1.1 y1.2.1 y1.2.2.1) 16) fun x5 =>
  cl (S_l7Full_l2 g t 1000000000 x5.2.b x5.2.i x5.2.h x2.Belt y1.2.2.2 x2.Inlets x2.Plan x2.Now x5.1) fun y2 =>
  cl (S_l1Below g t (Cur.mk y2.1 y2.2.1 y2.2.2.1) 30) fun x9 =>
  cl (S_RunCentre g t (Centre.mk y2.2.2.2.1 y2.2.2.2.2.1 y2.2.2.2.2.2.1 y2.2.2.2.2.2.2.1 y2.2.2.2.2.2.2.2) x9.1) fun x10 =>
  some ((x10, (Cur.mk x9.2.b x9.2.i x9.2.h)))
theorem fit104 : codeFit Try.prog Try.f104.ntmps (Try.f104.body.getD .skip) ir104 = true := by kernel_rfl
theorem c_S_l7Full {g : G} {t : TE} {a0 : Cur} {r : Centre × Cur} (hg : g = G.real) (ht : t = TE.real) (h : S_l7Full g t a0 = some r) : FnM Try.prog 104 (.p (Cur.ds t a0)) [] (.g (Centre.ds t r.1)) (.p (Cur.ds t r.2)) := by
  obtain ⟨X, hX⟩ := hide (.g (Centre.ds t r.1) : X)
  obtain ⟨Y, hY⟩ := hide (.p (Cur.ds t r.2) : AM)
  rw [← hX, ← hY]
  refine fnM_of (rvs := rv104) (j := ir104) Try.func104 rfl fit104 (Nat.le_of_ble_eq_true rfl) (by kernel_rfl) prog_mixed ?_
  intro g2 F hg2 hF
  obtain rfl : g2 = g := hg2.unique.trans hg.symm
  clear hg2
  obtain ⟨wrap, lt, le, eq, quo, rem, band, bor, bxor, shl, shr, nat, int, add, sub, mul, cat, seq, slt, sub3, byte, llen, nadd, nsub, dlen, dapp, dset, drep, rd, rda, up, rsub, dsub, all, sle, slen, hasI, putI, hasS, putS, imin, imax, fzc⟩ := g2
  obtain ⟨r_Item, d_Item, r_Chute, d_Chute, r_Inlet, d_Inlet, r_I64, d_I64, r_U8, d_U8, d_InletF⟩ := t
  obtain ⟨a0_b, a0_i, a0_h⟩ := a0
  have hfr_Item : ∀ l, freshDss (d_Item l) = true := fresh_Item ht
  have hfr_Chute : ∀ l, freshDss (d_Chute l) = true := fresh_Chute ht
  have hfr_Inlet : ∀ l, freshDss (d_Inlet l) = true := fresh_Inlet ht
  have hfr_I64 : ∀ l, freshDss (d_I64 l) = true := fresh_I64 ht
  unfold S_l7Full at h
  try dsimp only at h
  cbv
  obtain ⟨x1, hx1, h⟩ := of_cl h
  obtain ⟨⟨x1_1_Belt, x1_1_Chutes, x1_1_Inlets, x1_1_Plan, x1_1_Now⟩, ⟨x1_2_b, x1_2_i, x1_2_h⟩⟩ := x1
  try dsimp only at h
  refine ACallM.mk _ _ _ _ rfl rfl (hF _ _ _ (c_S_l7Draw hg ht hx1)) rfl (Nat.le_of_ble_eq_true rfl) (Nat.le_of_ble_eq_true rfl) ?_
  cbv
  refine AStep.mk ⟨(lend_Item ht (dlen_Item hg ht _)), ⟨(lend_Chute ht (dlen_Chute hg ht _)), ⟨(lend_Inlet ht (dlen_Inlet hg ht _)), (lend_I64 ht (dlen_I64 hg ht _))⟩⟩⟩ ?_
  cbv
  obtain ⟨x2, hx2, h⟩ := of_cl h
  obtain ⟨x2_Belt, x2_Chutes, x2_Inlets, x2_Plan, x2_Now⟩ := x2
  try dsimp only at h
  refine ACall.mk _ _ (by rw [show rd (d_Item x1_1_Belt) 0 (dlen (d_Item x1_1_Belt)) = r_Item x1_1_Belt from rdw_Item hg ht (dlen_Item hg ht _), show rd (d_Chute x1_1_Chutes) 0 (dlen (d_Chute x1_1_Chutes)) = r_Chute x1_1_Chutes from rdw_Chute hg ht (dlen_Chute hg ht _), show rd (d_Inlet x1_1_Inlets) 0 (dlen (d_Inlet x1_1_Inlets)) = r_Inlet x1_1_Inlets from rdw_Inlet hg ht (dlen_Inlet hg ht _), show rd (d_I64 x1_1_Plan) 0 (dlen (d_I64 x1_1_Plan)) = r_I64 x1_1_Plan from rdw_I64 hg ht (dlen_I64 hg ht _)]; try rfl) (hF _ _ _ (c_S_RunCentre hg ht hx2)) (.inr (by simp only [Go.Vs.X.fresh, Go.Vs.X.freshs, freshD, freshDs, Bool.and_self, Centre.ds, hfr_Chute, hfr_I64, hfr_Inlet, hfr_Item])) (Nat.le_of_ble_eq_true rfl) ?_
  cbv
  obtain ⟨o1, ho1, h⟩ := of_cl h
  try dsimp only at h
  try rw [hg] at ho1
  try rw [ht] at ho1
  refine ABL.mk { p : Nat × (List Int) × Int × Int × (List Chute) × Int // S_l7Full_l1 G.real TE.real p.1 p.2.1 p.2.2.1 p.2.2.2.1 p.2.2.2.2.1 p.2.2.2.2.2 = some o1 } (fun ⟨⟨n1, v1, v2, v3, w1, v4⟩, _⟩ => ({ sl := [(0, .c (.p 3 3 0 0)), (2, .c (.p 0 5 0 0)), (3, .c (.p 1 5 0 0)), (4, .c (.r (.v (.int .i64 v4))))], tab := [(0, some (.foc 5 [] [.n 2, .n 3, .n 2, .n 1, .r (.v (.int .i64 0))] [])), (1, some (.foc 5 [] [.f 2 2 0 (dlen (d_Item x2_Belt)), .f 4 3 0 (dlen (d_Chute w1)), .f 5 2 0 (dlen (d_Inlet x2_Inlets)), .f 6 1 0 (dlen (d_I64 x2_Plan)), .r (.v (.int .i64 x2_Now))] [])), (2, some (.arr 2 (d_Item x2_Belt))), (3, some (.foc 3 [] [.r (.s 1 (r_U8 v1)), .r (.v (.int .i64 v2)), .r (.v (.int .i64 v3))] [])), (4, some (.arr 3 (d_Chute w1))), (5, some (.arr 2 (d_Inlet x2_Inlets))), (6, some (.arr 1 (d_I64 x2_Plan)))] } : St)) 7 (fun p => p.1.1) ⟨(1000000000, x1_2_b, x1_2_i, x1_2_h, x2_Chutes, 0), ho1⟩ ((List Int) × Int × Int × List Chute) (fun ⟨y1_1, y1_2_1, y1_2_2_1, y1_2_2_2⟩ => ({ sl := [(0, .c (.p 3 3 0 0)), (2, .c (.p 0 5 0 0)), (3, .c (.p 1 5 0 0))], tab := [(0, some (.foc 5 [] [.n 2, .n 3, .n 2, .n 1, .r (.v (.int .i64 0))] [])), (1, some (.foc 5 [] [.f 2 2 0 (dlen (d_Item x2_Belt)), .f 4 3 0 (dlen (d_Chute y1_2_2_2)), .f 5 2 0 (dlen (d_Inlet x2_Inlets)), .f 6 1 0 (dlen (d_I64 x2_Plan)), .r (.v (.int .i64 x2_Now))] [])), (2, some (.arr 2 (d_Item x2_Belt))), (3, some (.foc 3 [] [.r (.s 1 (r_U8 y1_1)), .r (.v (.int .i64 y1_2_1)), .r (.v (.int .i64 y1_2_2_1))] [])), (4, some (.arr 3 (d_Chute y1_2_2_2))), (5, some (.arr 2 (d_Inlet x2_Inlets))), (6, some (.arr 1 (d_I64 x2_Plan)))] } : St)) 7 (fun y => o1 = y) ?_ ?_ ?_
  · refine Wk.of [(0, some 4), (1, some 68), (2, some 52), (3, some 3), (4, some 53), (5, some 54), (6, some 55)] rfl rfl ?_ ?_
    · cbv
      all_goals exact ⟨⟨_, rfl, rfl⟩, ⟨_, rfl, rfl⟩, ⟨_, rfl, rfl⟩, ⟨_, rfl, rfl⟩, trivial⟩
    · cbv
      all_goals exact ⟨⟨_, rfl, _, rfl, rfl, rfl, rfl, rfl, rfl, trivial⟩, ⟨_, rfl, _, rfl, rfl, rfl, rfl, rfl, rfl, trivial⟩, ⟨_, rfl, rfl⟩, ⟨_, rfl, _, rfl, rfl, rfl, rfl, trivial⟩, ⟨_, rfl, rfl⟩, ⟨_, rfl, rfl⟩, ⟨_, rfl, rfl⟩, trivial⟩
  · rintro ⟨⟨n1, v1, v2, v3, w1, v4⟩, h_1⟩ hq1
    try dsimp only at h_1
    clear hq1
    rcases n1 with _ | n1
    · rw [S_l7Full_l1] at h_1; cases h_1
    · rw [S_l7Full_l1] at h_1
      try rw [← hg] at h_1
      try rw [← ht] at h_1
      try dsimp only at h_1
      cbv
      cases hb1 : (lt v4 (int (dlen (d_Chute w1)))) with
      | true =>
        rw [br_true hb1] at h_1
        cbv
        obtain ⟨x3, hx3, h_1⟩ := of_gt h_1
        obtain ⟨x3_Cell, x3_Room, x3_Held⟩ := x3
        try dsimp only at h_1
        refine AGh.opn 4 3 (nat v4) (d_Chute w1) _ rfl (d_get_Chute hg ht hx3) rfl ?_
        cbv
        refine AGh.nil ?_
        cbv
        obtain ⟨x4, hx4, h_1⟩ := of_cl h_1
        obtain ⟨x4_1, ⟨x4_2_b, x4_2_i, x4_2_h⟩⟩ := x4
        try dsimp only at h_1
        refine ACallM.mk _ _ _ _ rfl rfl (hF _ _ _ (c_S_l1Once hg ht hx4)) rfl (Nat.le_of_ble_eq_true rfl) (Nat.le_of_ble_eq_true rfl) ?_
        cbv
        cases hb2 : x4_1 with
        | true =>
          rw [br_true hb2] at h_1
          cbv
          try (rw [hb2]; cbv)
          try (rw [hb2]; cbv)
          try (rw [hb2]; cbv)
          try (rw [hb2]; cbv)
          try (rw [hb2]; cbv)
          try (rw [hb2]; cbv)
          try (rw [hb2]; cbv)
          try (rw [hb2]; cbv)
          refine AGh.cls 4 3 (nat v4) (d_Chute w1) _ _ _ _ (d_Chute w1) rfl rfl ⟨rfl, (dlen_Item hg ht _)⟩ (dsets_Chute hg ht hx3) ?_
          cbv
          refine AGh.nil ?_
          cbv
          try rw [hg] at h_1
          try rw [ht] at h_1
          refine ⟨⟨(n1, x4_2_b, x4_2_i, x4_2_h, w1, (wrap .i64 (add v4 1))), h_1⟩, Wk.of [(0, some 0), (1, some 1), (2, some 2), (3, some 3), (4, some 4), (5, some 5), (6, some 6)] rfl rfl ?_ ?_, Nat.lt_succ_self _⟩
          · cbv
            all_goals exact ⟨⟨_, rfl, rfl⟩, ⟨_, rfl, rfl⟩, ⟨_, rfl, rfl⟩, ⟨_, rfl, rfl⟩, trivial⟩
          · cbv
            all_goals exact ⟨⟨_, rfl, _, rfl, rfl, rfl, rfl, rfl, rfl, trivial⟩, ⟨_, rfl, _, rfl, rfl, rfl, rfl, rfl, rfl, trivial⟩, ⟨_, rfl, rfl⟩, ⟨_, rfl, _, rfl, rfl, rfl, rfl, trivial⟩, ⟨_, rfl, rfl⟩, ⟨_, rfl, rfl⟩, ⟨_, rfl, rfl⟩, trivial⟩
        | false =>
          rw [br_false hb2] at h_1
          cbv
          try (rw [hb2]; cbv)
          try (rw [hb2]; cbv)
          try (rw [hb2]; cbv)
          obtain ⟨hc1, h_1⟩ := of_gd h_1
          refine AStep.mk hc1 ?_
          cbv
          try (rw [hb2]; cbv)
          try (rw [hb2]; cbv)
          refine AStep.mk rfl ?_
          cbv
          try (rw [hb2]; cbv)
          try (rw [hb2]; cbv)
          try (rw [hb2]; cbv)
          refine AGh.cls 4 3 (nat v4) (d_Chute w1) _ _ _ _ (d_Chute w1) rfl rfl ⟨rfl, (dlen_Item hg ht _)⟩ (dsets_Chute hg ht hx3) ?_
          cbv
          refine AGh.nil ?_
          cbv
          cases hb3 : (lt 0 (int (dlen (d_Item x3_Held)))) with
          | true =>
            rw [br_true hb3] at h_1
            cbv
            refine AGh.opn 4 3 (nat v4) (d_Chute w1) _ rfl (d_get_Chute hg ht hx3) rfl ?_
            cbv
            refine AGh.nil ?_
            cbv
            obtain ⟨hc2, h_1⟩ := of_gd h_1
            refine AStep.mk hc2 ?_
            cbv
            refine AStep.mk rfl ?_
            cbv
            obtain ⟨hc3, h_1⟩ := of_gd h_1
            refine AStep.mk hc3 ?_
            cbv
            refine AStep.mk rfl ?_
            cbv
            obtain ⟨l1, hl1, h_1⟩ := of_lP h_1
            try dsimp only at h_1
            refine AGh.cls 4 3 (nat v4) (d_Chute w1) _ _ _ _ (d_Chute l1) rfl rfl ⟨rfl, (dlen_Item hg ht _)⟩ (by rw [← hl1]; exact dset_Chute hg ht _ _ (Chute.mk x3_Cell (int (dlen (d_Item x3_Held))) x3_Held)) ?_
            have hnl1 : (dlen (d_Chute w1)) = (d_Chute l1).length := (by rw [← hl1, dsetl_Chute ht]; exact (dlen_Chute hg ht _))
            cbv
            refine AGh.nil ?_
            cbv
            try rw [hg] at h_1
            try rw [ht] at h_1
            refine ⟨⟨(n1, x4_2_b, x4_2_i, x4_2_h, l1, (wrap .i64 (add v4 1))), h_1⟩, Wk.of [(0, some 0), (1, some 1), (2, some 2), (3, some 3), (4, some 4), (5, some 5), (6, some 6)] rfl rfl ?_ ?_, Nat.lt_succ_self _⟩
            · cbv
              all_goals try rw [show (dlen (d_Chute w1)) = (dlen (d_Chute l1)) from (hnl1).trans (dlen_Chute hg ht _).symm]
              all_goals exact ⟨⟨_, rfl, rfl⟩, ⟨_, rfl, rfl⟩, ⟨_, rfl, rfl⟩, ⟨_, rfl, rfl⟩, trivial⟩
            · cbv
              all_goals try rw [show (dlen (d_Chute w1)) = (dlen (d_Chute l1)) from (hnl1).trans (dlen_Chute hg ht _).symm]
              all_goals exact ⟨⟨_, rfl, _, rfl, rfl, rfl, rfl, rfl, rfl, trivial⟩, ⟨_, rfl, _, rfl, rfl, rfl, rfl, rfl, rfl, trivial⟩, ⟨_, rfl, rfl⟩, ⟨_, rfl, _, rfl, rfl, rfl, rfl, trivial⟩, ⟨_, rfl, rfl⟩, ⟨_, rfl, rfl⟩, ⟨_, rfl, rfl⟩, trivial⟩
          | false =>
            rw [br_false hb3] at h_1
            cbv
            try rw [hg] at h_1
            try rw [ht] at h_1
            refine ⟨⟨(n1, x4_2_b, x4_2_i, x4_2_h, w1, (wrap .i64 (add v4 1))), h_1⟩, Wk.of [(0, some 0), (1, some 1), (2, some 2), (3, some 3), (4, some 4), (5, some 5), (6, some 6)] rfl rfl ?_ ?_, Nat.lt_succ_self _⟩
            · cbv
              all_goals exact ⟨⟨_, rfl, rfl⟩, ⟨_, rfl, rfl⟩, ⟨_, rfl, rfl⟩, ⟨_, rfl, rfl⟩, trivial⟩
            · cbv
              all_goals exact ⟨⟨_, rfl, _, rfl, rfl, rfl, rfl, rfl, rfl, trivial⟩, ⟨_, rfl, _, rfl, rfl, rfl, rfl, rfl, rfl, trivial⟩, ⟨_, rfl, rfl⟩, ⟨_, rfl, _, rfl, rfl, rfl, rfl, trivial⟩, ⟨_, rfl, rfl⟩, ⟨_, rfl, rfl⟩, ⟨_, rfl, rfl⟩, trivial⟩
      | false =>
        rw [br_false hb1] at h_1
        cbv
        refine ⟨(v1, v2, v3, w1), Wk.of [(0, some 0), (1, some 1), (2, some 2), (3, some 3), (4, some 4), (5, some 5), (6, some 6)] rfl rfl ?_ ?_, (Option.some.inj h_1).symm⟩
        · cbv
          all_goals exact ⟨⟨_, rfl, rfl⟩, ⟨_, rfl, rfl⟩, ⟨_, rfl, rfl⟩, trivial⟩
        · cbv
          all_goals exact ⟨⟨_, rfl, _, rfl, rfl, rfl, rfl, rfl, rfl, trivial⟩, ⟨_, rfl, _, rfl, rfl, rfl, rfl, rfl, rfl, trivial⟩, ⟨_, rfl, rfl⟩, ⟨_, rfl, _, rfl, rfl, rfl, rfl, trivial⟩, ⟨_, rfl, rfl⟩, ⟨_, rfl, rfl⟩, ⟨_, rfl, rfl⟩, trivial⟩
  · rintro ⟨y1_1, y1_2_1, y1_2_2_1, y1_2_2_2⟩ hy1
    replace hy1 := hy1.symm
    subst hy1
    try dsimp only [lr, lrL, lrp, lrpL] at h
    cbv
    obtain ⟨x5, hx5, h⟩ := of_cl h
    obtain ⟨x5_1, ⟨x5_2_b, x5_2_i, x5_2_h⟩⟩ := x5
    try dsimp only at h
    refine ACallM.mk _ _ _ _ rfl rfl (hF _ _ _ (c_S_l1Below hg ht hx5)) rfl (Nat.le_of_ble_eq_true rfl) (Nat.le_of_ble_eq_true rfl) ?_
    cbv
    obtain ⟨o2, ho2, h⟩ := of_cl h
    try dsimp only at h
    try rw [hg] at ho2
    try rw [ht] at ho2
    refine ABL.mk { p : Nat × (List Int) × Int × Int × (List Item) × (List Chute) × (List Inlet) × (List Int) × Int × Int // S_l7Full_l2 G.real TE.real p.1 p.2.1 p.2.2.1 p.2.2.2.1 p.2.2.2.2.1 p.2.2.2.2.2.1 p.2.2.2.2.2.2.1 p.2.2.2.2.2.2.2.1 p.2.2.2.2.2.2.2.2.1 p.2.2.2.2.2.2.2.2.2 = some o2 } (fun ⟨⟨n2, v5, v6, v7, w2, w3, w4, w5, v8, v9⟩, _⟩ => ({ sl := [(0, .c (.p 3 3 0 0)), (2, .c (.p 0 5 0 0)), (3, .c (.p 1 5 0 0)), (5, .c (.r (.v (.int .i64 v9))))], tab := [(0, some (.foc 5 [] [.n 2, .n 3, .n 2, .n 1, .r (.v (.int .i64 0))] [])), (1, some (.foc 5 [] [.f 2 2 0 (dlen (d_Item w2)), .f 4 3 0 (dlen (d_Chute w3)), .f 5 2 0 (dlen (d_Inlet w4)), .f 6 1 0 (dlen (d_I64 w5)), .r (.v (.int .i64 v8))] [])), (2, some (.arr 2 (d_Item w2))), (3, some (.foc 3 [] [.r (.s 1 (r_U8 v5)), .r (.v (.int .i64 v6)), .r (.v (.int .i64 v7))] [])), (4, some (.arr 3 (d_Chute w3))), (5, some (.arr 2 (d_Inlet w4))), (6, some (.arr 1 (d_I64 w5)))] } : St)) 7 (fun p => p.1.1) ⟨(1000000000, x5_2_b, x5_2_i, x5_2_h, x2_Belt, y1_2_2_2, x2_Inlets, x2_Plan, x2_Now, x5_1), ho2⟩ ((List Int) × Int × Int × (List Item) × (List Chute) × (List Inlet) × (List Int) × Int) (fun ⟨y2_1, y2_2_1, y2_2_2_1, y2_2_2_2_1, y2_2_2_2_2_1, y2_2_2_2_2_2_1, y2_2_2_2_2_2_2_1, y2_2_2_2_2_2_2_2⟩ => ({ sl := [(0, .c (.p 3 3 0 0)), (2, .c (.p 0 5 0 0)), (3, .c (.p 1 5 0 0))], tab := [(0, some (.foc 5 [] [.n 2, .n 3, .n 2, .n 1, .r (.v (.int .i64 0))] [])), (1, some (.foc 5 [] [.f 2 2 0 (dlen (d_Item y2_2_2_2_1)), .f 4 3 0 (dlen (d_Chute y2_2_2_2_2_1)), .f 5 2 0 (dlen (d_Inlet y2_2_2_2_2_2_1)), .f 6 1 0 (dlen (d_I64 y2_2_2_2_2_2_2_1)), .r (.v (.int .i64 y2_2_2_2_2_2_2_2))] [])), (2, some (.arr 2 (d_Item y2_2_2_2_1))), (3, some (.foc 3 [] [.r (.s 1 (r_U8 y2_1)), .r (.v (.int .i64 y2_2_1)), .r (.v (.int .i64 y2_2_2_1))] [])), (4, some (.arr 3 (d_Chute y2_2_2_2_2_1))), (5, some (.arr 2 (d_Inlet y2_2_2_2_2_2_1))), (6, some (.arr 1 (d_I64 y2_2_2_2_2_2_2_1)))] } : St)) 7 (fun y => o2 = y) ?_ ?_ ?_
    · refine Wk.of [(0, some 0), (1, some 1), (2, some 2), (3, some 3), (4, some 4), (5, some 5), (6, some 6)] rfl rfl ?_ ?_
      · cbv
        all_goals exact ⟨⟨_, rfl, rfl⟩, ⟨_, rfl, rfl⟩, ⟨_, rfl, rfl⟩, ⟨_, rfl, rfl⟩, trivial⟩
      · cbv
        all_goals exact ⟨⟨_, rfl, _, rfl, rfl, rfl, rfl, rfl, rfl, trivial⟩, ⟨_, rfl, _, rfl, rfl, rfl, rfl, rfl, rfl, trivial⟩, ⟨_, rfl, rfl⟩, ⟨_, rfl, _, rfl, rfl, rfl, rfl, trivial⟩, ⟨_, rfl, rfl⟩, ⟨_, rfl, rfl⟩, ⟨_, rfl, rfl⟩, trivial⟩
    · rintro ⟨⟨n2, v5, v6, v7, w2, w3, w4, w5, v8, v9⟩, h_2⟩ hq2
      try dsimp only at h_2
      clear hq2
      rcases n2 with _ | n2
      · rw [S_l7Full_l2] at h_2; cases h_2
      · rw [S_l7Full_l2] at h_2
        try rw [← hg] at h_2
        try rw [← ht] at h_2
        try dsimp only at h_2
        cbv
        cases hb4 : (lt 0 v9) with
        | true =>
          rw [br_true hb4] at h_2
          cbv
          obtain ⟨x6, hx6, h_2⟩ := of_cl h_2
          obtain ⟨x6_1, ⟨x6_2_b, x6_2_i, x6_2_h⟩⟩ := x6
          try dsimp only at h_2
          refine ACallM.mk _ _ _ _ rfl rfl (hF _ _ _ (c_S_l1Below hg ht hx6)) rfl (Nat.le_of_ble_eq_true rfl) (Nat.le_of_ble_eq_true rfl) ?_
          cbv
          obtain ⟨x7, hx7, h_2⟩ := of_cl h_2
          obtain ⟨x7_1, ⟨x7_2_b, x7_2_i, x7_2_h⟩⟩ := x7
          try dsimp only at h_2
          refine ACallM.mk _ _ _ _ rfl rfl (hF _ _ _ (c_S_l1Below hg ht hx7)) rfl (Nat.le_of_ble_eq_true rfl) (Nat.le_of_ble_eq_true rfl) ?_
          cbv
          refine AStep.mk ⟨(lend_Item ht (dlen_Item hg ht _)), ⟨(lend_Chute ht (dlen_Chute hg ht _)), ⟨(lend_Inlet ht (dlen_Inlet hg ht _)), (lend_I64 ht (dlen_I64 hg ht _))⟩⟩⟩ ?_
          cbv
          obtain ⟨x8, hx8, h_2⟩ := of_cl h_2
          obtain ⟨⟨x8_1_Belt, x8_1_Chutes, x8_1_Inlets, x8_1_Plan, x8_1_Now⟩, x8_2⟩ := x8
          try dsimp only at h_2
          refine ACall.mk _ _ (by rw [show rd (d_Item w2) 0 (dlen (d_Item w2)) = r_Item w2 from rdw_Item hg ht (dlen_Item hg ht _), show rd (d_Chute w3) 0 (dlen (d_Chute w3)) = r_Chute w3 from rdw_Chute hg ht (dlen_Chute hg ht _), show rd (d_Inlet w4) 0 (dlen (d_Inlet w4)) = r_Inlet w4 from rdw_Inlet hg ht (dlen_Inlet hg ht _), show rd (d_I64 w5) 0 (dlen (d_I64 w5)) = r_I64 w5 from rdw_I64 hg ht (dlen_I64 hg ht _)]; try rfl) (hF _ _ _ (c_S_FeedCentre hg ht hx8)) (.inr (by simp only [Go.Vs.X.fresh, Go.Vs.X.freshs, freshD, freshDs, Bool.and_self, Centre.ds, hfr_Chute, hfr_I64, hfr_Inlet, hfr_Item])) (Nat.le_of_ble_eq_true rfl) ?_
          cbv
          try rw [hg] at h_2
          try rw [ht] at h_2
          refine ⟨⟨(n2, x7_2_b, x7_2_i, x7_2_h, x8_1_Belt, x8_1_Chutes, x8_1_Inlets, x8_1_Plan, x8_1_Now, (wrap .i64 (sub v9 1))), h_2⟩, Wk.of [(0, some 0), (1, some 1), (2, some 263), (3, some 3), (4, some 264), (5, some 265), (6, some 266)] rfl rfl ?_ ?_, Nat.lt_succ_self _⟩
          · cbv
            all_goals exact ⟨⟨_, rfl, rfl⟩, ⟨_, rfl, rfl⟩, ⟨_, rfl, rfl⟩, ⟨_, rfl, rfl⟩, trivial⟩
          · cbv
            all_goals exact ⟨⟨_, rfl, _, rfl, rfl, rfl, rfl, rfl, rfl, trivial⟩, ⟨_, rfl, _, rfl, rfl, rfl, rfl, rfl, rfl, trivial⟩, ⟨_, rfl, rfl⟩, ⟨_, rfl, _, rfl, rfl, rfl, rfl, trivial⟩, ⟨_, rfl, rfl⟩, ⟨_, rfl, rfl⟩, ⟨_, rfl, rfl⟩, trivial⟩
        | false =>
          rw [br_false hb4] at h_2
          cbv
          refine ⟨(v5, v6, v7, w2, w3, w4, w5, v8), Wk.of [(0, some 0), (1, some 1), (2, some 2), (3, some 3), (4, some 4), (5, some 5), (6, some 6)] rfl rfl ?_ ?_, (Option.some.inj h_2).symm⟩
          · cbv
            all_goals exact ⟨⟨_, rfl, rfl⟩, ⟨_, rfl, rfl⟩, ⟨_, rfl, rfl⟩, trivial⟩
          · cbv
            all_goals exact ⟨⟨_, rfl, _, rfl, rfl, rfl, rfl, rfl, rfl, trivial⟩, ⟨_, rfl, _, rfl, rfl, rfl, rfl, rfl, rfl, trivial⟩, ⟨_, rfl, rfl⟩, ⟨_, rfl, _, rfl, rfl, rfl, rfl, trivial⟩, ⟨_, rfl, rfl⟩, ⟨_, rfl, rfl⟩, ⟨_, rfl, rfl⟩, trivial⟩
    · rintro ⟨y2_1, y2_2_1, y2_2_2_1, y2_2_2_2_1, y2_2_2_2_2_1, y2_2_2_2_2_2_1, y2_2_2_2_2_2_2_1, y2_2_2_2_2_2_2_2⟩ hy2
      replace hy2 := hy2.symm
      subst hy2
      try dsimp only [lr, lrL, lrp, lrpL] at h
      cbv
      obtain ⟨x9, hx9, h⟩ := of_cl h
      obtain ⟨x9_1, ⟨x9_2_b, x9_2_i, x9_2_h⟩⟩ := x9
      try dsimp only at h
      refine ACallM.mk _ _ _ _ rfl rfl (hF _ _ _ (c_S_l1Below hg ht hx9)) rfl (Nat.le_of_ble_eq_true rfl) (Nat.le_of_ble_eq_true rfl) ?_
      cbv
      refine AStep.mk ⟨(lend_Item ht (dlen_Item hg ht _)), ⟨(lend_Chute ht (dlen_Chute hg ht _)), ⟨(lend_Inlet ht (dlen_Inlet hg ht _)), (lend_I64 ht (dlen_I64 hg ht _))⟩⟩⟩ ?_
      cbv
      obtain ⟨x10, hx10, h⟩ := of_cl h
      obtain ⟨x10_Belt, x10_Chutes, x10_Inlets, x10_Plan, x10_Now⟩ := x10
      try dsimp only at h
      refine ACall.mk _ _ (by rw [show rd (d_Item y2_2_2_2_1) 0 (dlen (d_Item y2_2_2_2_1)) = r_Item y2_2_2_2_1 from rdw_Item hg ht (dlen_Item hg ht _), show rd (d_Chute y2_2_2_2_2_1) 0 (dlen (d_Chute y2_2_2_2_2_1)) = r_Chute y2_2_2_2_2_1 from rdw_Chute hg ht (dlen_Chute hg ht _), show rd (d_Inlet y2_2_2_2_2_2_1) 0 (dlen (d_Inlet y2_2_2_2_2_2_1)) = r_Inlet y2_2_2_2_2_2_1 from rdw_Inlet hg ht (dlen_Inlet hg ht _), show rd (d_I64 y2_2_2_2_2_2_2_1) 0 (dlen (d_I64 y2_2_2_2_2_2_2_1)) = r_I64 y2_2_2_2_2_2_2_1 from rdw_I64 hg ht (dlen_I64 hg ht _)]; try rfl) (hF _ _ _ (c_S_RunCentre hg ht hx10)) (.inr (by simp only [Go.Vs.X.fresh, Go.Vs.X.freshs, freshD, freshDs, Bool.and_self, Centre.ds, hfr_Chute, hfr_I64, hfr_Inlet, hfr_Item])) (Nat.le_of_ble_eq_true rfl) ?_
      cbv
      obtain rfl := Option.some.inj h
      exact ARetM.mk ⟨⟨rfl, (dlen_Item hg ht _)⟩, ⟨⟨rfl, (dlen_Chute hg ht _)⟩, ⟨⟨rfl, (dlen_Inlet hg ht _)⟩, ⟨rfl, (dlen_I64 hg ht _)⟩⟩⟩⟩ hX.symm hY.symm
end Go.Vs
namespace Go.Vs
set_option maxRecDepth 100000
def ir58 : J :=
  .seq (.reg none [⟨(some 2), none, .alloc [.n 2, .n 3, .n 2, .n 1, .r (.v (.int .i64 0))]⟩] [0, 2])
  (.seq (.reg none [⟨(some 4), none, .mv (.t 0)⟩,
     ⟨(some 5), none, .call 91 true [(.t 4)]⟩,
     ⟨(some 3), none, .mv (.t 5)⟩] [2, 3])
  (.seq (.seq (.reg none [⟨(some 6), none, .mv (.t 3)⟩,
      ⟨(some 7), none, .callm 103 (.t 6) [(.k (V.i 3))]⟩] [2, 3, 7])
   (.cond (.t 7)
    (.seq (.reg none [⟨(some 8), none, .mv (.t 3)⟩,
        ⟨(some 9), none, .callm 92 (.t 8) []⟩,
        ⟨none, none, .st 5 (.t 2) (.t 9)⟩] [2])
     (.ret))
    (.skip)))
  (.seq (.reg none [⟨(some 10), none, .mv (.t 3)⟩,
     ⟨(some 11), none, .callm 104 (.t 10) []⟩,
     ⟨none, none, .st 5 (.t 2) (.t 11)⟩] [2])
  (.ret))))
def rv58 : List RV := [.c 2 true 5]
open Go.Proofs Go.IntWalk
set_option linter.unusedVariables false
set_option maxRecDepth 100000
set_option maxHeartbeats 4000000
def S_DrawIsStuck (g : G) (t : TE) (a0 : List Int) : Option Centre :=
  lP (S_l1New g t a0) fun x1 =>
  cl (S_l1Once g t x1 3) fun x2 =>
  br x2.1
  (
   cl (S_l7Any g t (Cur.mk x2.2.b x2.2.i x2.2.h)) fun x3 =>
   some (Centre.mk x3.1.Belt x3.1.Chutes x3.1.Inlets x3.1.Plan x3.1.Now))
  (
   cl (S_l7Full g t (Cur.mk x2.2.b x2.2.i x2.2.h)) fun x4 =>
   some (Centre.mk x4.1.Belt x4.1.Chutes x4.1.Inlets x4.1.Plan x4.1.Now))
theorem fit58 : codeFit Try.prog Try.f58.ntmps (Try.f58.body.getD .skip) ir58 = true := by kernel_rfl
theorem c_S_DrawIsStuck {g : G} {t : TE} {a0 : List Int} {r : Centre} (hg : g = G.real) (ht : t = TE.real) (h : S_DrawIsStuck g t a0 = some r) : Fn Try.prog 58 [.c (.s 1 (t.r_U8 a0))] (.g (Centre.ds t r)) := by
  obtain ⟨X, hX⟩ := hide (.g (Centre.ds t r) : X)
  rw [← hX]
  refine fn_of (rvs := rv58) (j := ir58) Try.func58 rfl fit58 (Nat.le_of_ble_eq_true rfl) (by kernel_rfl) prog_mixed ?_
  intro g2 F hg2 hF
  obtain rfl : g2 = g := hg2.unique.trans hg.symm
  clear hg2
  obtain ⟨wrap, lt, le, eq, quo, rem, band, bor, bxor, shl, shr, nat, int, add, sub, mul, cat, seq, slt, sub3, byte, llen, nadd, nsub, dlen, dapp, dset, drep, rd, rda, up, rsub, dsub, all, sle, slen, hasI, putI, hasS, putS, imin, imax, fzc⟩ := g2
  obtain ⟨r_Item, d_Item, r_Chute, d_Chute, r_Inlet, d_Inlet, r_I64, d_I64, r_U8, d_U8, d_InletF⟩ := t
  unfold S_DrawIsStuck at h
  try dsimp only at h
  cbv
  obtain ⟨x1, hx1, h⟩ := of_lP h
  obtain ⟨x1_b, x1_i, x1_h⟩ := x1
  try dsimp only at h
  refine ACall.mk _ _ rfl (hF _ _ _ (c_S_l1New hg ht hx1)) (.inl rfl) (Nat.le_of_ble_eq_true rfl) ?_
  cbv
  obtain ⟨x2, hx2, h⟩ := of_cl h
  obtain ⟨x2_1, ⟨x2_2_b, x2_2_i, x2_2_h⟩⟩ := x2
  try dsimp only at h
  refine ACallM.mk _ _ _ _ rfl rfl (hF _ _ _ (c_S_l1Once hg ht hx2)) rfl (Nat.le_of_ble_eq_true rfl) (Nat.le_of_ble_eq_true rfl) ?_
  cbv
  cases hb1 : x2_1 with
  | true =>
    rw [br_true hb1] at h
    cbv
    obtain ⟨x3, hx3, h⟩ := of_cl h
    obtain ⟨⟨x3_1_Belt, x3_1_Chutes, x3_1_Inlets, x3_1_Plan, x3_1_Now⟩, ⟨x3_2_b, x3_2_i, x3_2_h⟩⟩ := x3
    try dsimp only at h
    refine ACallM.mk _ _ _ _ rfl rfl (hF _ _ _ (c_S_l7Any hg ht hx3)) rfl (Nat.le_of_ble_eq_true rfl) (Nat.le_of_ble_eq_true rfl) ?_
    cbv
    obtain rfl := Option.some.inj h
    exact ARet.mk ⟨⟨rfl, (dlen_Item hg ht _)⟩, ⟨⟨rfl, (dlen_Chute hg ht _)⟩, ⟨⟨rfl, (dlen_Inlet hg ht _)⟩, ⟨rfl, (dlen_I64 hg ht _)⟩⟩⟩⟩ hX.symm
  | false =>
    rw [br_false hb1] at h
    cbv
    obtain ⟨x4, hx4, h⟩ := of_cl h
    obtain ⟨⟨x4_1_Belt, x4_1_Chutes, x4_1_Inlets, x4_1_Plan, x4_1_Now⟩, ⟨x4_2_b, x4_2_i, x4_2_h⟩⟩ := x4
    try dsimp only at h
    refine ACallM.mk _ _ _ _ rfl rfl (hF _ _ _ (c_S_l7Full hg ht hx4)) rfl (Nat.le_of_ble_eq_true rfl) (Nat.le_of_ble_eq_true rfl) ?_
    cbv
    obtain rfl := Option.some.inj h
    exact ARet.mk ⟨⟨rfl, (dlen_Item hg ht _)⟩, ⟨⟨rfl, (dlen_Chute hg ht _)⟩, ⟨⟨rfl, (dlen_Inlet hg ht _)⟩, ⟨rfl, (dlen_I64 hg ht _)⟩⟩⟩⟩ hX.symm
end Go.Vs
namespace Go.Vs
set_option maxRecDepth 100000
def ir13 : J :=
  .seq (.reg none [⟨(some 2), none, .mv (.k (V.b false))⟩] [0])
  (.seq (.seq (.reg none [⟨(some 8), none, .mv (.t 0)⟩,
      ⟨(some 9), none, .call 33 true [(.t 8)]⟩] [0, 9])
   (.cond (.t 9)
    (.seq (.reg none [⟨(some 2), none, .mv (.k (V.b true))⟩] [2])
     (.ret))
    (.skip)))
  (.seq (.reg none [⟨(some 10), none, .mv (.t 0)⟩,
     ⟨(some 11), none, .call 58 false [(.t 10)]⟩,
     ⟨(some 3), none, .alloc [.n 2, .n 3, .n 2, .n 1, .r (.v (.int .i64 0))]⟩,
     ⟨none, none, .st 5 (.t 3) (.t 11)⟩] [0, 3])
  (.seq (.seq (.reg none [⟨(some 12), none, .ld true 5 (.t 3)⟩,
      ⟨(some 13), none, .call 31 true [(.t 12)]⟩,
      ⟨(some 14), none, .not (.t 13)⟩,
      ⟨(some 15), none, .mv (.t 14)⟩,
      ⟨(some 16), (some (15, false)), .ld true 5 (.t 3)⟩,
      ⟨(some 17), (some (15, false)), .call 56 true [(.t 16)]⟩,
      ⟨(some 18), none, .pick (.t 15) (.k (V.b true)) (.t 17)⟩] [0, 3, 18])
   (.cond (.t 18)
    (.seq (.reg none [⟨(some 19), none, .ld true 5 (.t 3)⟩,
        ⟨(some 20), none, .call 55 true [(.t 19)]⟩,
        ⟨(some 21), none, .not (.t 20)⟩,
        ⟨(some 2), none, .mv (.t 21)⟩] [2])
     (.ret))
    (.skip)))
  (.seq (.seq (.reg none [⟨(some 22), none, .fa 4 (.t 3)⟩,
      ⟨(some 23), none, .ld false 1 (.t 22)⟩,
      ⟨(some 24), none, .bin .gtr .i (.t 23) (.k (V.i 90000))⟩] [0, 3, 24])
   (.cond (.t 24)
    (.seq (.reg none [⟨(some 2), none, .mv (.k (V.b true))⟩] [2])
     (.ret))
    (.skip)))
  (.seq (.reg none [⟨(some 25), none, .ld true 5 (.t 3)⟩,
     ⟨(some 26), none, .fa 0 (.t 3)⟩,
     ⟨(some 27), none, .ld false 1 (.t 26)⟩,
     ⟨(some 28), none, .len false (.t 27)⟩,
     ⟨(some 29), none, .call 36 false [(.t 25), (.t 28)]⟩,
     ⟨(some 4), none, .alloc [.n 2, .n 3, .n 2, .n 1, .r (.v (.int .i64 0))]⟩,
     ⟨none, none, .st 5 (.t 4) (.t 29)⟩] [0, 3, 4])
  (.seq (.reg (some [[], [0], [], [0, 1, 2], [0, 1, 2, 3], [0, 1, 2, 3, 4]]) [⟨(some 30), none, .ld true 5 (.t 4)⟩,
     ⟨(some 31), none, .call 27 true [(.t 30)]⟩,
     ⟨(some 32), none, .ld true 5 (.t 3)⟩,
     ⟨(some 33), none, .call 27 true [(.t 32)]⟩,
     ⟨(some 34), none, .bin .eql .i (.t 31) (.t 33)⟩,
     ⟨(some 5), none, .mv (.t 34)⟩] [0, 3, 4, 5])
  (.seq (.seq (.reg none [⟨(some 6), none, .mv (.k (V.i 0))⟩] [0, 3, 4, 5, 6])
   (.bl 0 (.seq (.seq (.reg none [⟨(some 35), none, .mv (.t 6)⟩,
        ⟨(some 36), none, .fa 1 (.t 3)⟩,
        ⟨(some 37), none, .ld false 1 (.t 36)⟩,
        ⟨(some 38), none, .len false (.t 37)⟩,
        ⟨(some 39), none, .bin .lss .i (.t 35) (.t 38)⟩] [0, 3, 4, 5, 6, 39])
     (.cond (.t 39)
      (.skip)
      (.exit 0)))
    (.seq (.block 1 (.gh (.ga (.reg (some [[], [0], [0, 1], [0, 1, 2], [0, 1], [0, 1, 2, 3, 4], [0, 1, 2, 3, 4, 5], [0, 1, 2, 3, 4, 5, 6], [0, 1, 2, 3, 4, 5, 6, 7], [0, 1], [0, 1, 9], [0, 1], [0, 1, 9, 10, 11], [0, 1, 9, 10, 11, 12], [0, 1, 9, 10, 11, 12, 13], [0, 1, 9, 10, 11, 12, 13, 14], [0, 1, 2, 3, 4, 5, 6, 7, 8, 9, 10, 11, 12, 13, 14, 15], [0, 1, 2, 3, 4, 5, 6, 7, 8, 9, 10, 11, 12, 13, 14, 15, 16], [0, 1, 2, 3, 4, 5, 6, 7, 8, 9, 10, 11, 12, 13, 14, 15, 16, 17]]) [⟨(some 42), none, .mv (.t 5)⟩,
         ⟨(some 43), none, .mv (.t 42)⟩,
         ⟨(some 44), (some (43, true)), .fa 1 (.t 4)⟩,
         ⟨(some 45), (some (43, true)), .ld false 1 (.t 44)⟩,
         ⟨(some 46), (some (43, true)), .mv (.t 6)⟩,
         ⟨(some 47), (some (43, true)), .ia 3 (.t 45) (.t 46)⟩,
         ⟨(some 48), (some (43, true)), .fa 2 (.t 47)⟩,
         ⟨(some 49), (some (43, true)), .ld false 1 (.t 48)⟩,
         ⟨(some 50), (some (43, true)), .len false (.t 49)⟩,
         ⟨(some 51), (some (43, true)), .fa 1 (.t 3)⟩,
         ⟨(some 52), (some (43, true)), .ld false 1 (.t 51)⟩,
         ⟨(some 53), (some (43, true)), .mv (.t 6)⟩,
         ⟨(some 54), (some (43, true)), .ia 3 (.t 52) (.t 53)⟩,
         ⟨(some 55), (some (43, true)), .fa 2 (.t 54)⟩,
         ⟨(some 56), (some (43, true)), .ld false 1 (.t 55)⟩,
         ⟨(some 57), (some (43, true)), .len false (.t 56)⟩,
         ⟨(some 58), (some (43, true)), .bin .eql .i (.t 50) (.t 57)⟩,
         ⟨(some 59), none, .pick (.t 43) (.t 58) (.k (V.b false))⟩,
         ⟨(some 5), none, .mv (.t 59)⟩] [0, 3, 4, 5, 6]))))
    (.reg none [⟨(some 40), none, .mv (.t 6)⟩,
      ⟨(some 41), none, .bin .add .i (.t 40) (.k (V.i 1))⟩,
      ⟨(some 6), none, .mv (.t 41)⟩] [0, 3, 4, 5, 6])))))
  (.seq (.seq (.reg none [⟨(some 60), none, .ld true 5 (.t 3)⟩,
      ⟨(some 61), none, .call 55 true [(.t 60)]⟩] [0, 3, 4, 5, 61])
   (.cond (.t 61)
    (.seq (.reg (some [[], [], [1], [1, 2], [0, 1, 2, 3], [], [0, 1, 2, 3, 4, 5]]) [⟨(some 62), none, .ld true 5 (.t 3)⟩,
        ⟨(some 63), none, .mv (.t 0)⟩,
        ⟨(some 64), none, .call 39 true [(.t 63), (.k (V.i 1))]⟩,
        ⟨(some 65), none, .bin .rem .i (.t 64) (.k (V.i 40))⟩,
        ⟨(some 66), none, .call 36 false [(.t 62), (.t 65)]⟩,
        ⟨(some 7), none, .alloc [.n 2, .n 3, .n 2, .n 1, .r (.v (.int .i64 0))]⟩,
        ⟨none, none, .st 5 (.t 7) (.t 66)⟩] [3, 4, 5, 7])
     (.seq (.reg none [⟨(some 67), none, .mv (.t 5)⟩,
        ⟨(some 68), none, .mv (.t 67)⟩,
        ⟨(some 69), (some (68, true)), .fa 0 (.t 4)⟩,
        ⟨(some 70), (some (68, true)), .ld false 1 (.t 69)⟩,
        ⟨(some 71), (some (68, true)), .fa 0 (.t 3)⟩,
        ⟨(some 72), (some (68, true)), .ld false 1 (.t 71)⟩,
        ⟨(some 73), (some (68, true)), .call 37 true [(.t 70), (.t 72)]⟩,
        ⟨(some 74), none, .pick (.t 68) (.t 73) (.k (V.b false))⟩,
        ⟨(some 75), none, .mv (.t 74)⟩,
        ⟨(some 76), (some (75, true)), .ld true 5 (.t 7)⟩,
        ⟨(some 77), (some (75, true)), .call 55 true [(.t 76)]⟩,
        ⟨(some 78), none, .pick (.t 75) (.t 77) (.k (V.b false))⟩,
        ⟨(some 2), none, .mv (.t 78)⟩] [2])
     (.ret)))
    (.skip)))
  (.seq (.reg none [⟨(some 79), none, .mv (.t 5)⟩,
     ⟨(some 80), none, .not (.t 79)⟩,
     ⟨(some 2), none, .mv (.t 80)⟩] [2])
  (.ret))))))))))
def rv13 : List RV := [.t 2]
open Go.Proofs Go.IntWalk
set_option linter.unusedVariables false
set_option maxRecDepth 100000
set_option maxHeartbeats 4000000
def L_FnBeltStuck_l1 (g : G) (t : TE) (x6 : Centre) : List Chute → Int → Bool → Option Bool
  | [], v2, v1 =>
    some v1
  | z1 :: ls1, v2, v1 =>
    br v1
    (
     gt x6.Chutes (g.nat v2) fun x9 =>
     L_FnBeltStuck_l1 g t x6 ls1 (g.wrap .i64 (g.add v2 1)) (g.eq (g.llen (t.r_Item x9.Held)) (g.llen (t.r_Item z1.Held))))
    (
     L_FnBeltStuck_l1 g t x6 ls1 (g.wrap .i64 (g.add v2 1)) false)
def L_FnBeltStuck (g : G) (t : TE) (a0 : List Int) : Option Bool :=
  lP (L_big g t a0) fun x1 =>
  br x1
  (
   some true)
  (
   cl (S_DrawIsStuck g t a0) fun x2 =>
   cl (S_IsCentre g t x2) fun x3 =>
   br x3
   (
    cl (I_IsDrained g t x2) fun x4 =>
    br x4
    (
     cl (I_IsStuck g t x2) fun x5 =>
     some (!x5))
    (
     br (g.lt 90000 x2.Now)
     (
      some true)
     (
      cl (I_RunCentre g t x2 (g.llen (t.r_Item x2.Belt))) fun x6 =>
      lP (I_CountWait g t x6) fun x7 =>
      lP (I_CountWait g t x2) fun x8 =>
      cl (L_FnBeltStuck_l1 g t x6 x2.Chutes 0 (g.eq x7 x8)) fun y1 =>
      cl (I_IsStuck g t x2) fun x10 =>
      br x10
      (
       cl (L_at g t a0 1) fun x11 =>
       cl (I_RunCentre g t x2 (g.rem x11 40)) fun x12 =>
       br y1
       (
        cl (L_items g t x6.Belt x2.Belt) fun x13 =>
        br x13
        (
         cl (I_IsStuck g t x12) fun x14 =>
         some x14)
        (
         some false))
       (
        some false))
      (
       some (!y1)))))
   (
    cl (I_IsStuck g t x2) fun x15 =>
    some (!x15)))
theorem fit13 : codeFit Try.prog Try.f13.ntmps (Try.f13.body.getD .skip) ir13 = true := by kernel_rfl
theorem c_L_FnBeltStuck {g : G} {t : TE} {a0 : List Int} {r : Bool} (hg : g = G.real) (ht : t = TE.real) (h : L_FnBeltStuck g t a0 = some r) : Fn Try.prog 13 [.c (.s 1 (t.r_U8 a0))] (.c (.r (.v (.bool r)))) := by
  obtain ⟨X, hX⟩ := hide (.c (.r (.v (.bool r))) : X)
  rw [← hX]
  refine fn_of (rvs := rv13) (j := ir13) Try.func13 rfl fit13 (Nat.le_of_ble_eq_true rfl) (by kernel_rfl) prog_mixed ?_
  intro g2 F hg2 hF
  obtain rfl : g2 = g := hg2.unique.trans hg.symm
  clear hg2
  obtain ⟨wrap, lt, le, eq, quo, rem, band, bor, bxor, shl, shr, nat, int, add, sub, mul, cat, seq, slt, sub3, byte, llen, nadd, nsub, dlen, dapp, dset, drep, rd, rda, up, rsub, dsub, all, sle, slen, hasI, putI, hasS, putS, imin, imax, fzc⟩ := g2
  obtain ⟨r_Item, d_Item, r_Chute, d_Chute, r_Inlet, d_Inlet, r_I64, d_I64, r_U8, d_U8, d_InletF⟩ := t
  have hrda_Item : ∀ l, rda (d_Item l) = r_Item l := rda_Item hg ht
  have hrda_Chute : ∀ l, rda (d_Chute l) = r_Chute l := rda_Chute hg ht
  have hrda_Inlet : ∀ l, rda (d_Inlet l) = r_Inlet l := rda_Inlet hg ht
  have hrda_I64 : ∀ l, rda (d_I64 l) = r_I64 l := rda_I64 hg ht
  unfold L_FnBeltStuck at h
  try dsimp only at h
  cbv
  obtain ⟨x1, hx1, h⟩ := of_lP h
  try dsimp only at h
  refine ACall.mk _ _ rfl (hF _ _ _ (c_L_big hg ht hx1)) (.inl rfl) (Nat.le_of_ble_eq_true rfl) ?_
  cbv
  cases hb1 : x1 with
  | true =>
    rw [br_true hb1] at h
    cbv
    obtain rfl := Option.some.inj h
    exact ARet.mk trivial hX.symm
  | false =>
    rw [br_false hb1] at h
    cbv
    obtain ⟨x2, hx2, h⟩ := of_cl h
    obtain ⟨x2_Belt, x2_Chutes, x2_Inlets, x2_Plan, x2_Now⟩ := x2
    try dsimp only at h
    refine ACallR.mk _ _ (.g [.r (.s 2 (r_Item x2_Belt)), .r (.s 3 (r_Chute x2_Chutes)), .r (.s 2 (r_Inlet x2_Inlets)), .r (.s 1 (r_I64 x2_Plan)), .r (.v (.int .i64 x2_Now))]) rfl (hF _ _ _ (c_S_DrawIsStuck hg ht hx2)) (.inl rfl) (Nat.le_of_ble_eq_true rfl) (by cbv; (try simp only [hrda_Chute, hrda_I64, hrda_Inlet, hrda_Item])) ?_
    cbv
    obtain ⟨x3, hx3, h⟩ := of_cl h
    try dsimp only at h
    refine ACall.mk _ _ rfl (hF _ _ _ (c_S_IsCentre hg ht hx3)) (.inl rfl) (Nat.le_of_ble_eq_true rfl) ?_
    cbv
    cases hb2 : x3 with
    | true =>
      rw [br_true hb2] at h
      cbv
      try (rw [hb2]; cbv)
      obtain ⟨x4, hx4, h⟩ := of_cl h
      try dsimp only at h
      refine ACall.mk _ _ rfl (hF _ _ _ (c_I_IsDrained hg ht hx4)) (.inl rfl) (Nat.le_of_ble_eq_true rfl) ?_
      cbv
      try (rw [hb2]; cbv)
      cases hb3 : x4 with
      | true =>
        rw [br_true hb3] at h
        cbv
        obtain ⟨x5, hx5, h⟩ := of_cl h
        try dsimp only at h
        refine ACall.mk _ _ rfl (hF _ _ _ (c_I_IsStuck hg ht hx5)) (.inl rfl) (Nat.le_of_ble_eq_true rfl) ?_
        cbv
        obtain rfl := Option.some.inj h
        exact ARet.mk trivial hX.symm
      | false =>
        rw [br_false hb3] at h
        cbv
        cases hb4 : (lt 90000 x2_Now) with
        | true =>
          rw [br_true hb4] at h
          cbv
          obtain rfl := Option.some.inj h
          exact ARet.mk trivial hX.symm
        | false =>
          rw [br_false hb4] at h
          cbv
          obtain ⟨x6, hx6, h⟩ := of_cl h
          obtain ⟨x6_Belt, x6_Chutes, x6_Inlets, x6_Plan, x6_Now⟩ := x6
          try dsimp only at h
          refine ACallR.mk _ _ (.g [.r (.s 2 (r_Item x6_Belt)), .r (.s 3 (r_Chute x6_Chutes)), .r (.s 2 (r_Inlet x6_Inlets)), .r (.s 1 (r_I64 x6_Plan)), .r (.v (.int .i64 x6_Now))]) rfl (hF _ _ _ (c_I_RunCentre hg ht hx6)) (.inl rfl) (Nat.le_of_ble_eq_true rfl) (by cbv; (try simp only [hrda_Chute, hrda_I64, hrda_Inlet, hrda_Item])) ?_
          cbv
          obtain ⟨x7, hx7, h⟩ := of_lP h
          try dsimp only at h
          refine ACall.mk _ _ rfl (hF _ _ _ (c_I_CountWait hg ht hx7)) (.inl rfl) (Nat.le_of_ble_eq_true rfl) ?_
          cbv
          obtain ⟨x8, hx8, h⟩ := of_lP h
          try dsimp only at h
          refine ACall.mk _ _ rfl (hF _ _ _ (c_I_CountWait hg ht hx8)) (.inl rfl) (Nat.le_of_ble_eq_true rfl) ?_
          cbv
          obtain ⟨o1, ho1, h⟩ := of_cl h
          try dsimp only at h
          try rw [hg] at ho1
          try rw [ht] at ho1
          refine ABL.mk { p : Nat × Int × Bool // p.1 ≤ x2_Chutes.length ∧ p.2.1 = ((p.1 : Nat) : Int) ∧ L_FnBeltStuck_l1 G.real TE.real (Centre.mk x6_Belt x6_Chutes x6_Inlets x6_Plan x6_Now) (List.drop p.1 x2_Chutes) p.2.1 p.2.2 = some o1 } (fun ⟨⟨k1, v2, v1⟩, _⟩ => ({ sl := [(0, .c (.r (.s 1 (r_U8 a0)))), (3, .c (.p 0 5 0 0)), (4, .c (.p 1 5 0 0)), (5, .c (.r (.v (.bool v1)))), (6, .c (.r (.v (.int .i64 v2))))], tab := [(0, some (.foc 5 [] [.r (.s 2 (r_Item x2_Belt)), .r (.s 3 (r_Chute x2_Chutes)), .r (.s 2 (r_Inlet x2_Inlets)), .r (.s 1 (r_I64 x2_Plan)), .r (.v (.int .i64 x2_Now))] [])), (1, some (.foc 5 [] [.r (.s 2 (r_Item x6_Belt)), .r (.s 3 (r_Chute x6_Chutes)), .r (.s 2 (r_Inlet x6_Inlets)), .r (.s 1 (r_I64 x6_Plan)), .r (.v (.int .i64 x6_Now))] []))] } : St)) 2 (fun p => x2_Chutes.length - p.1.1) ⟨(0, 0, (eq x7 x8)), Nat.zero_le _, rfl, ho1⟩ (Bool) (fun y1 => ({ sl := [(0, .c (.r (.s 1 (r_U8 a0)))), (3, .c (.p 0 5 0 0)), (4, .c (.p 1 5 0 0)), (5, .c (.r (.v (.bool y1))))], tab := [(0, some (.foc 5 [] [.r (.s 2 (r_Item x2_Belt)), .r (.s 3 (r_Chute x2_Chutes)), .r (.s 2 (r_Inlet x2_Inlets)), .r (.s 1 (r_I64 x2_Plan)), .r (.v (.int .i64 x2_Now))] [])), (1, some (.foc 5 [] [.r (.s 2 (r_Item x6_Belt)), .r (.s 3 (r_Chute x6_Chutes)), .r (.s 2 (r_Inlet x6_Inlets)), .r (.s 1 (r_I64 x6_Plan)), .r (.v (.int .i64 x6_Now))] []))] } : St)) 2 (fun y => o1 = y) ?_ ?_ ?_
          · refine Wk.of [(0, some 80), (1, some 352)] rfl rfl ?_ ?_
            · cbv
              all_goals exact ⟨⟨_, rfl, rfl⟩, ⟨_, rfl, rfl⟩, ⟨_, rfl, rfl⟩, ⟨_, rfl, rfl⟩, ⟨_, rfl, rfl⟩, trivial⟩
            · cbv
              all_goals exact ⟨⟨_, rfl, _, rfl, rfl, rfl, rfl, rfl, rfl, trivial⟩, ⟨_, rfl, _, rfl, rfl, rfl, rfl, rfl, rfl, trivial⟩, trivial⟩
          · rintro ⟨⟨k1, v2, v1⟩, hk1, hi1, h_1⟩ hq1
            have hm1 := (hq1.2.2.1 0 _ _ _ _ 1 _ _ rfl rfl)
            try dsimp only at hk1 hi1 h_1
            clear hq1
            cbv
            by_cases hc1_ : k1 < x2_Chutes.length
            · have hb5 : lt v2 (llen (r_Chute x2_Chutes)) = true := ltL_true_Chute hg ht hi1 hc1_
              have hs1 := stepL_Chute hg ht hi1 hc1_ hm1
              obtain ⟨z1, hz1⟩ := some_of_lt hc1_
              rw [drop_of_some hz1] at h_1
              rw [L_FnBeltStuck_l1] at h_1
              obtain ⟨z1_Cell, z1_Room, z1_Held⟩ := z1
              try rw [← hg] at h_1
              try rw [← ht] at h_1
              try dsimp only at h_1
              rw [hb5]
              cbv
              refine AGh.nil ?_
              cbv
              have hb6 : v1 = true ∨ v1 = false := by cases v1 <;> simp
              rcases hb6 with hb6 | hb6
              · rw [br_true hb6] at h_1
                have hK_ := h_1
                subst hb6
                have h_1 := hK_
                clear hK_
                cbv
                try (rw [hb6]; cbv)
                try (rw [hb6]; cbv)
                try (rw [hb6]; cbv)
                refine AStep.mk (nn_L hi1) ?_
                cbv
                obtain ⟨x9, hx9, h_1⟩ := of_gt h_1
                obtain ⟨x9_Cell, x9_Room, x9_Held⟩ := x9
                try dsimp only at h_1
                refine AGet.mk _ (r_get_Chute hg ht hx9) ?_
                cbv
                try (rw [hb6]; cbv)
                try (rw [hb6]; cbv)
                try (rw [hb6]; cbv)
                try (rw [hb6]; cbv)
                try (rw [hb6]; cbv)
                try (rw [hb6]; cbv)
                try (rw [hb6]; cbv)
                refine AStep.mk (nn_L hi1) ?_
                cbv
                refine AGet.mk _ (r_getL_Chute hg ht hi1 hz1) ?_
                cbv
                try (rw [hb6]; cbv)
                try (rw [hb6]; cbv)
                try (rw [hb6]; cbv)
                try (rw [hb6]; cbv)
                try (rw [hb6]; cbv)
                refine AGh.nil ?_
                cbv
                try rw [hg] at h_1
                try rw [ht] at h_1
                refine ⟨⟨(k1 + 1, (wrap .i64 (add v2 1)), (eq (llen (r_Item x9_Held)) (llen (r_Item z1_Held)))), hc1_, hs1, h_1⟩, Wk.of [(0, some 0), (1, some 1)] rfl rfl ?_ ?_, meas_L hc1_⟩
                · cbv
                  all_goals exact ⟨⟨_, rfl, rfl⟩, ⟨_, rfl, rfl⟩, ⟨_, rfl, rfl⟩, ⟨_, rfl, rfl⟩, ⟨_, rfl, rfl⟩, trivial⟩
                · cbv
                  all_goals exact ⟨⟨_, rfl, _, rfl, rfl, rfl, rfl, rfl, rfl, trivial⟩, ⟨_, rfl, _, rfl, rfl, rfl, rfl, rfl, rfl, trivial⟩, trivial⟩
              · rw [br_false hb6] at h_1
                have hK_ := h_1
                subst hb6
                have h_1 := hK_
                clear hK_
                cbv
                try (rw [hb6]; cbv)
                try (rw [hb6]; cbv)
                try (rw [hb6]; cbv)
                try (rw [hb6]; cbv)
                try (rw [hb6]; cbv)
                try (rw [hb6]; cbv)
                try (rw [hb6]; cbv)
                try (rw [hb6]; cbv)
                try (rw [hb6]; cbv)
                try (rw [hb6]; cbv)
                try (rw [hb6]; cbv)
                try (rw [hb6]; cbv)
                try (rw [hb6]; cbv)
                try (rw [hb6]; cbv)
                try (rw [hb6]; cbv)
                refine AGh.nil ?_
                cbv
                try rw [hg] at h_1
                try rw [ht] at h_1
                refine ⟨⟨(k1 + 1, (wrap .i64 (add v2 1)), false), hc1_, hs1, h_1⟩, Wk.of [(0, some 0), (1, some 1)] rfl rfl ?_ ?_, meas_L hc1_⟩
                · cbv
                  all_goals exact ⟨⟨_, rfl, rfl⟩, ⟨_, rfl, rfl⟩, ⟨_, rfl, rfl⟩, ⟨_, rfl, rfl⟩, ⟨_, rfl, rfl⟩, trivial⟩
                · cbv
                  all_goals exact ⟨⟨_, rfl, _, rfl, rfl, rfl, rfl, rfl, rfl, trivial⟩, ⟨_, rfl, _, rfl, rfl, rfl, rfl, rfl, rfl, trivial⟩, trivial⟩
            · have hb5 : lt v2 (llen (r_Chute x2_Chutes)) = false := ltL_false_Chute hg ht hi1 hc1_
              rw [List.drop_of_length_le (Nat.le_of_not_lt hc1_)] at h_1
              rw [L_FnBeltStuck_l1] at h_1
              try rw [← hg] at h_1
              try rw [← ht] at h_1
              try dsimp only at h_1
              rw [hb5]
              cbv
              refine ⟨v1, Wk.of [(0, some 0), (1, some 1)] rfl rfl ?_ ?_, (Option.some.inj h_1).symm⟩
              · cbv
                all_goals exact ⟨⟨_, rfl, rfl⟩, ⟨_, rfl, rfl⟩, ⟨_, rfl, rfl⟩, ⟨_, rfl, rfl⟩, trivial⟩
              · cbv
                all_goals exact ⟨⟨_, rfl, _, rfl, rfl, rfl, rfl, rfl, rfl, trivial⟩, ⟨_, rfl, _, rfl, rfl, rfl, rfl, rfl, rfl, trivial⟩, trivial⟩
          · rintro y1 hy1
            replace hy1 := hy1.symm
            subst hy1
            try dsimp only [lr, lrL, lrp, lrpL] at h
            cbv
            obtain ⟨x10, hx10, h⟩ := of_cl h
            try dsimp only at h
            refine ACall.mk _ _ rfl (hF _ _ _ (c_I_IsStuck hg ht hx10)) (.inl rfl) (Nat.le_of_ble_eq_true rfl) ?_
            cbv
            cases hb7 : x10 with
            | true =>
              rw [br_true hb7] at h
              cbv
              obtain ⟨x11, hx11, h⟩ := of_cl h
              try dsimp only at h
              refine ACall.mk _ _ rfl (hF _ _ _ (c_L_at hg ht hx11)) (.inl rfl) (Nat.le_of_ble_eq_true rfl) ?_
              cbv
              refine AStep.mk (by decide) ?_
              cbv
              obtain ⟨x12, hx12, h⟩ := of_cl h
              obtain ⟨x12_Belt, x12_Chutes, x12_Inlets, x12_Plan, x12_Now⟩ := x12
              try dsimp only at h
              refine ACallR.mk _ _ (.g [.r (.s 2 (r_Item x12_Belt)), .r (.s 3 (r_Chute x12_Chutes)), .r (.s 2 (r_Inlet x12_Inlets)), .r (.s 1 (r_I64 x12_Plan)), .r (.v (.int .i64 x12_Now))]) rfl (hF _ _ _ (c_I_RunCentre hg ht hx12)) (.inl rfl) (Nat.le_of_ble_eq_true rfl) (by cbv; (try simp only [hrda_Chute, hrda_I64, hrda_Inlet, hrda_Item])) ?_
              cbv
              cases hb8 : y1 with
              | true =>
                rw [br_true hb8] at h
                cbv
                try (rw [hb8]; cbv)
                try (rw [hb8]; cbv)
                try (rw [hb8]; cbv)
                try (rw [hb8]; cbv)
                obtain ⟨x13, hx13, h⟩ := of_cl h
                try dsimp only at h
                refine ACall.mk _ _ rfl (hF _ _ _ (c_L_items hg ht hx13)) (.inl rfl) (Nat.le_of_ble_eq_true rfl) ?_
                cbv
                try (rw [hb8]; cbv)
                cases hb9 : x13 with
                | true =>
                  rw [br_true hb9] at h
                  cbv
                  try (rw [hb9]; cbv)
                  obtain ⟨x14, hx14, h⟩ := of_cl h
                  try dsimp only at h
                  refine ACall.mk _ _ rfl (hF _ _ _ (c_I_IsStuck hg ht hx14)) (.inl rfl) (Nat.le_of_ble_eq_true rfl) ?_
                  cbv
                  try (rw [hb9]; cbv)
                  obtain rfl := Option.some.inj h
                  exact ARet.mk trivial hX.symm
                | false =>
                  rw [br_false hb9] at h
                  cbv
                  try (rw [hb9]; cbv)
                  try (rw [hb9]; cbv)
                  obtain rfl := Option.some.inj h
                  exact ARet.mk trivial hX.symm
              | false =>
                rw [br_false hb8] at h
                cbv
                try (rw [hb8]; cbv)
                try (rw [hb8]; cbv)
                try (rw [hb8]; cbv)
                try (rw [hb8]; cbv)
                try (rw [hb8]; cbv)
                obtain rfl := Option.some.inj h
                exact ARet.mk trivial hX.symm
            | false =>
              rw [br_false hb7] at h
              cbv
              obtain rfl := Option.some.inj h
              exact ARet.mk trivial hX.symm
    | false =>
      rw [br_false hb2] at h
      cbv
      try (rw [hb2]; cbv)
      try (rw [hb2]; cbv)
      obtain ⟨x15, hx15, h⟩ := of_cl h
      try dsimp only at h
      refine ACall.mk _ _ rfl (hF _ _ _ (c_I_IsStuck hg ht hx15)) (.inl rfl) (Nat.le_of_ble_eq_true rfl) ?_
      cbv
      obtain rfl := Option.some.inj h
      exact ARet.mk trivial hX.symm
end Go.Vs
