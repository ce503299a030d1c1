/- Part of the proofs of this seat's laws: Lab. No condition. -/
import Derived.Test.YtieeagobedjogaaTy
import Derived.Test.YtieeagobedjogaaTIRall
import Derived.Test.YtieeagobedjogaaLaa
import Derived.Test.YtieeagobedjogaaVg
import Derived.Test.YtieeagobedjogaaProg
import Derived.Shelf.Sort.AssemblyIn
import Derived.Shelf.Sort.So_math_bits_LenIn
import Derived.Shelf.Lay
import Derived.Sort.EveryDepth
import Derived.Lib.Walk
import Derived.LoopN
set_option linter.unusedVariables false
set_option linter.unusedSimpArgs false
set_option linter.unusedSectionVars false
namespace Go.Vs
set_option maxRecDepth 100000
def ir90 : J :=
  .seq (.reg none [⟨(some 1), none, .box (.t 0)⟩,
     ⟨(some 2), none, .mv (.k (.c (.n 2)))⟩] [1])
  (.seq (.reg none [⟨(some 10), none, .bsl 2 []⟩,
     ⟨(some 3), none, .mv (.t 10)⟩] [1, 3])
  (.seq (.seq (.reg none [⟨(some 11), none, .fa 0 (.t 1)⟩,
      ⟨(some 12), none, .ld false 1 (.t 11)⟩,
      ⟨(some 13), none, .len false (.t 12)⟩,
      ⟨(some 14), none, .mv (.k (V.i 0))⟩] [1, 3, 12, 13, 14])
   (.bl 0 (.seq (.reg none [⟨(some 15), none, .bin .lss .i (.t 14) (.t 13)⟩] [1, 3, 12, 13, 14, 15])
    (.seq (.cond (.t 15)
      (.skip)
      (.exit 0))
    (.seq (.block 1 (.seq (.reg none [⟨(some 16), none, .ia 2 (.t 12) (.t 14)⟩,
         ⟨(some 17), none, .ld true 2 (.t 16)⟩,
         ⟨(some 5), none, .alloc [.r (.v (.int .i64 0)), .r (.v (.int .i64 0))]⟩,
         ⟨none, none, .st 2 (.t 5) (.t 17)⟩] [1, 3, 5, 12, 13, 14])
      (.seq (.reg none [⟨(some 18), none, .ld true 2 (.t 5)⟩,
         ⟨(some 19), none, .bld [.r (.v (.int .i64 0)), .r (.v (.int .i64 0))] []⟩,
         ⟨(some 20), none, .eqs true [.i, .i] (.t 18) (.t 19)⟩] [1, 3, 5, 12, 13, 14, 20])
      (.cond (.t 20)
       (.reg none [⟨(some 21), none, .mv (.t 3)⟩,
          ⟨(some 22), none, .ld true 2 (.t 5)⟩,
          ⟨(some 23), none, .bsl 2 [(.t 22)]⟩,
          ⟨(some 24), none, .app 2 16 true (.t 21) (.t 23)⟩,
          ⟨(some 3), none, .mv (.t 24)⟩] [1, 3, 12, 13, 14])
       (.skip)))))
    (.reg none [⟨(some 25), none, .bin .add .i (.t 14) (.k (V.i 1))⟩,
      ⟨(some 14), none, .mv (.t 25)⟩] [1, 3, 12, 13, 14]))))))
  (.seq (.seq (.reg none [⟨(some 26), none, .fa 1 (.t 1)⟩,
      ⟨(some 27), none, .ld false 1 (.t 26)⟩,
      ⟨(some 28), none, .len false (.t 27)⟩,
      ⟨(some 29), none, .mv (.k (V.i 0))⟩] [1, 3, 27, 28, 29])
   (.bl 2 (.seq (.reg none [⟨(some 30), none, .bin .lss .i (.t 29) (.t 28)⟩] [1, 3, 27, 28, 29, 30])
    (.seq (.cond (.t 30)
      (.skip)
      (.exit 2))
    (.seq (.block 3 (.seq (.reg none [⟨(some 31), none, .ia 3 (.t 27) (.t 29)⟩,
         ⟨(some 32), none, .ld true 3 (.t 31)⟩,
         ⟨(some 7), none, .alloc [.r (.v (.int .i64 0)), .r (.v (.int .i64 0)), .n 2]⟩,
         ⟨none, none, .st 3 (.t 7) (.t 32)⟩] [1, 3, 7, 27, 28, 29])
      (.reg none [⟨(some 33), none, .mv (.t 3)⟩,
        ⟨(some 34), none, .fa 2 (.t 7)⟩,
        ⟨(some 35), none, .ld false 1 (.t 34)⟩,
        ⟨(some 36), none, .app 2 16 false (.t 33) (.t 35)⟩,
        ⟨(some 3), none, .mv (.t 36)⟩] [1, 3, 27, 28, 29])))
    (.reg none [⟨(some 37), none, .bin .add .i (.t 29) (.k (V.i 1))⟩,
      ⟨(some 29), none, .mv (.t 37)⟩] [1, 3, 27, 28, 29]))))))
  (.seq (.seq (.reg none [⟨(some 38), none, .fa 2 (.t 1)⟩,
      ⟨(some 39), none, .ld false 1 (.t 38)⟩,
      ⟨(some 40), none, .len false (.t 39)⟩,
      ⟨(some 41), none, .mv (.k (V.i 0))⟩] [3, 39, 40, 41])
   (.bl 4 (.seq (.reg none [⟨(some 42), none, .bin .lss .i (.t 41) (.t 40)⟩] [3, 39, 40, 41, 42])
    (.seq (.cond (.t 42)
      (.skip)
      (.exit 4))
    (.seq (.block 5 (.seq (.reg none [⟨(some 43), none, .ia 2 (.t 39) (.t 41)⟩,
         ⟨(some 44), none, .ld true 2 (.t 43)⟩,
         ⟨(some 9), none, .alloc [.r (.v (.int .i64 0)), .n 2]⟩,
         ⟨none, none, .st 2 (.t 9) (.t 44)⟩] [3, 9, 39, 40, 41])
      (.reg none [⟨(some 45), none, .mv (.t 3)⟩,
        ⟨(some 46), none, .fa 1 (.t 9)⟩,
        ⟨(some 47), none, .ld false 1 (.t 46)⟩,
        ⟨(some 48), none, .app 2 16 false (.t 45) (.t 47)⟩,
        ⟨(some 3), none, .mv (.t 48)⟩] [3, 39, 40, 41])))
    (.reg none [⟨(some 49), none, .bin .add .i (.t 41) (.k (V.i 1))⟩,
      ⟨(some 41), none, .mv (.t 49)⟩] [3, 39, 40, 41]))))))
  (.seq (.reg none [⟨(some 50), none, .mv (.t 3)⟩,
     ⟨(some 2), none, .mv (.t 50)⟩] [2])
  (.ret))))))
def rv90 : List RV := [.t 2]
open Go.Proofs Go.IntWalk
set_option linter.unusedVariables false
set_option maxRecDepth 100000
set_option maxHeartbeats 4000000
def I_everyItem_l3 (g : G) (t : TE) : List Inlet → List Item → Option (List Item)
  | [], w3 =>
    some w3
  | z3 :: ls3, w3 =>
    gd (((w3.length + z3.Wait.length) * 16 ≤ 70368744177664)) <|
    lP (w3 ++ z3.Wait) fun (l5 : List Item) =>
    I_everyItem_l3 g t ls3 l5
def I_everyItem_l2 (g : G) (t : TE) : List Chute → List Item → Option (List Item)
  | [], w2 =>
    some w2
  | z2 :: ls2, w2 =>
    gd (((w2.length + z2.Held.length) * 16 ≤ 70368744177664)) <|
    lP (w2 ++ z2.Held) fun (l4 : List Item) =>
    I_everyItem_l2 g t ls2 l4
def I_everyItem_l1 (g : G) (t : TE) : List Item → List Item → Option (List Item)
  | [], w1 =>
    some w1
  | z1 :: ls1, w1 =>
    br (g.all [(g.eq z1.Id 0), (g.eq z1.Dest 0)])
    (
     I_everyItem_l1 g t ls1 w1)
    (
     lP ([z1]) fun (l2 : List Item) =>
     gd (((w1.length + l2.length) * 16 ≤ 70368744177664)) <|
     lP (w1 ++ l2) fun (l3 : List Item) =>
     I_everyItem_l1 g t ls1 l3)
def I_everyItem (g : G) (t : TE) (a0 : Centre) : Option (List Item) :=
  lP ([]) fun (l1 : List Item) =>
  cl (I_everyItem_l1 g t a0.Belt l1) fun y1 =>
  cl (I_everyItem_l2 g t a0.Chutes y1) fun y2 =>
  cl (I_everyItem_l3 g t a0.Inlets y2) fun y3 =>
  some y3
theorem fit90 : codeFit Try.prog Try.f90.ntmps (Try.f90.body.getD .skip) ir90 = true := by kernel_rfl
theorem c_I_everyItem {g : G} {t : TE} {a0 : Centre} {r : List Item} (hg : g = G.real) (ht : t = TE.real) (h : I_everyItem g t a0 = some r) : Fn Try.prog 90 [.g (Centre.rs t a0)] (.c (.o 2 (t.d_Item r))) := by
  obtain ⟨X, hX⟩ := hide (.c (.o 2 (t.d_Item r)) : X)
  rw [← hX]
  refine fn_of (rvs := rv90) (j := ir90) Try.func90 rfl fit90 (Nat.le_of_ble_eq_true rfl) (by kernel_rfl) prog_mixed ?_
  intro g2 F hg2 hF
  obtain rfl : g2 = g := hg2.unique.trans hg.symm
  clear hg2
  obtain ⟨wrap, lt, le, eq, quo, rem, band, bor, bxor, shl, shr, nat, int, add, sub, mul, cat, seq, slt, sub3, byte, llen, nadd, nsub, dlen, dapp, dset, drep, rd, rda, up, rsub, dsub, all, sle, slen, hasI, putI, hasS, putS, imin, imax, fzc⟩ := g2
  obtain ⟨r_Item, d_Item, r_Chute, d_Chute, r_Inlet, d_Inlet, r_I64, d_I64, r_U8, d_U8, d_InletF⟩ := t
  obtain ⟨a0_Belt, a0_Chutes, a0_Inlets, a0_Plan, a0_Now⟩ := a0
  unfold I_everyItem at h
  try dsimp only at h
  cbv
  obtain ⟨l1, hl1, h⟩ := of_lP h
  try dsimp only at h
  refine ANew.mk (d_Item l1) (dlen (d_Item l1)) (by rw [← hl1]; exact lit_Item hg ht []) (by rw [← hl1]; exact litn_Item hg ht []) ?_
  cbv
  obtain ⟨o1, ho1, h⟩ := of_cl h
  try dsimp only at h
  try rw [hg] at ho1
  try rw [ht] at ho1
  refine ABL.mk { p : Nat × Int × List Item // p.1 ≤ a0_Belt.length ∧ p.2.1 = ((p.1 : Nat) : Int) ∧ I_everyItem_l1 G.real TE.real (List.drop p.1 a0_Belt) p.2.2 = some o1 } (fun ⟨⟨k1, v1, w1⟩, _⟩ => ({ sl := [(1, .c (.p 0 5 0 0)), (3, .c (.f 1 2 0 (dlen (d_Item w1)))), (12, .c (.r (.s 2 (r_Item a0_Belt)))), (13, .c (.r (.v (.int .i64 (llen (r_Item a0_Belt)))))), (14, .c (.r (.v (.int .i64 v1))))], tab := [(0, some (.foc 5 [] [.r (.s 2 (r_Item a0_Belt)), .r (.s 3 (r_Chute a0_Chutes)), .r (.s 2 (r_Inlet a0_Inlets)), .r (.s 1 (r_I64 a0_Plan)), .r (.v (.int .i64 a0_Now))] [])), (1, some (.arr 2 (d_Item w1)))] } : St)) 2 (fun p => a0_Belt.length - p.1.1) ⟨(0, 0, l1), Nat.zero_le _, rfl, ho1⟩ (List Item) (fun y1 => ({ sl := [(1, .c (.p 0 5 0 0)), (3, .c (.f 1 2 0 (dlen (d_Item y1))))], tab := [(0, some (.foc 5 [] [.r (.s 2 (r_Item a0_Belt)), .r (.s 3 (r_Chute a0_Chutes)), .r (.s 2 (r_Inlet a0_Inlets)), .r (.s 1 (r_I64 a0_Plan)), .r (.v (.int .i64 a0_Now))] [])), (1, some (.arr 2 (d_Item y1)))] } : St)) 2 (fun y => o1 = y) ?_ ?_ ?_
  · refine Wk.of [(0, some 0), (1, some 32)] rfl rfl ?_ ?_
    · cbv
      all_goals exact ⟨⟨_, rfl, rfl⟩, ⟨_, rfl, rfl⟩, ⟨_, rfl, rfl⟩, ⟨_, rfl, rfl⟩, ⟨_, rfl, rfl⟩, trivial⟩
    · cbv
      all_goals exact ⟨⟨_, rfl, _, rfl, rfl, rfl, rfl, rfl, rfl, trivial⟩, ⟨_, rfl, rfl⟩, trivial⟩
  · rintro ⟨⟨k1, v1, w1⟩, hk1, hi1, h_1⟩ hq1
    have hm1 := (hq1.1 12 _ _ rfl)
    try dsimp only at hk1 hi1 h_1
    clear hq1
    cbv
    by_cases hc1_ : k1 < a0_Belt.length
    · have hb1 : lt v1 (llen (r_Item a0_Belt)) = true := ltL_true_Item hg ht hi1 hc1_
      have hs1 := stepL_Item hg ht hi1 hc1_ hm1
      obtain ⟨z1, hz1⟩ := some_of_lt hc1_
      rw [drop_of_some hz1] at h_1
      rw [I_everyItem_l1] at h_1
      obtain ⟨z1_Id, z1_Dest⟩ := z1
      try rw [← hg] at h_1
      try rw [← ht] at h_1
      try dsimp only at h_1
      rw [hb1]
      cbv
      refine AStep.mk (nn_L hi1) ?_
      cbv
      refine AGet.mk _ (r_getL_Item hg ht hi1 hz1) ?_
      cbv
      cases hb2 : (all [(eq z1_Id 0), (eq z1_Dest 0)]) with
      | true =>
        rw [br_true hb2] at h_1
        cbv
        try rw [hg] at h_1
        try rw [ht] at h_1
        refine ⟨⟨(k1 + 1, (wrap .i64 (add v1 1)), w1), hc1_, hs1, h_1⟩, Wk.of [(0, some 0), (1, some 1)] rfl rfl ?_ ?_, meas_L hc1_⟩
        · cbv
          all_goals exact ⟨⟨_, rfl, rfl⟩, ⟨_, rfl, rfl⟩, ⟨_, rfl, rfl⟩, ⟨_, rfl, rfl⟩, ⟨_, rfl, rfl⟩, trivial⟩
        · cbv
          all_goals exact ⟨⟨_, rfl, _, rfl, rfl, rfl, rfl, rfl, rfl, trivial⟩, ⟨_, rfl, rfl⟩, trivial⟩
      | false =>
        rw [br_false hb2] at h_1
        cbv
        obtain ⟨l2, hl2, h_1⟩ := of_lP h_1
        try dsimp only at h_1
        refine ANew.mk (d_Item l2) (dlen (d_Item l2)) (by rw [← hl2]; exact lit_Item hg ht [(Item.mk z1_Id z1_Dest)]) (by rw [← hl2]; exact litn_Item hg ht [(Item.mk z1_Id z1_Dest)]) ?_
        cbv
        obtain ⟨hc1, h_1⟩ := of_gd h_1
        refine AStep.mk ⟨⟨rfl, (dlen_Item hg ht _)⟩, (app_ok_Item hg ht (dlen_Item hg ht _) rfl hc1)⟩ ?_
        cbv
        obtain ⟨l3, hl3, h_1⟩ := of_lP h_1
        try dsimp only at h_1
        refine ANew.mk (d_Item l3) (dlen (d_Item l3)) (by rw [← hl3]; exact app_Item hg ht (dlen_Item hg ht _) rfl) (by rw [← hl3]; exact appl_Item hg ht (dlen_Item hg ht _) rfl) ?_
        cbv
        try rw [hg] at h_1
        try rw [ht] at h_1
        refine ⟨⟨(k1 + 1, (wrap .i64 (add v1 1)), l3), hc1_, hs1, h_1⟩, Wk.of [(0, some 0), (1, some 178)] rfl rfl ?_ ?_, meas_L hc1_⟩
        · cbv
          all_goals exact ⟨⟨_, rfl, rfl⟩, ⟨_, rfl, rfl⟩, ⟨_, rfl, rfl⟩, ⟨_, rfl, rfl⟩, ⟨_, rfl, rfl⟩, trivial⟩
        · cbv
          all_goals exact ⟨⟨_, rfl, _, rfl, rfl, rfl, rfl, rfl, rfl, trivial⟩, ⟨_, rfl, rfl⟩, trivial⟩
    · have hb1 : lt v1 (llen (r_Item a0_Belt)) = false := ltL_false_Item hg ht hi1 hc1_
      rw [List.drop_of_length_le (Nat.le_of_not_lt hc1_)] at h_1
      rw [I_everyItem_l1] at h_1
      try rw [← hg] at h_1
      try rw [← ht] at h_1
      try dsimp only at h_1
      rw [hb1]
      cbv
      refine ⟨w1, Wk.of [(0, some 0), (1, some 1)] rfl rfl ?_ ?_, (Option.some.inj h_1).symm⟩
      · cbv
        all_goals exact ⟨⟨_, rfl, rfl⟩, ⟨_, rfl, rfl⟩, trivial⟩
      · cbv
        all_goals exact ⟨⟨_, rfl, _, rfl, rfl, rfl, rfl, rfl, rfl, trivial⟩, ⟨_, rfl, rfl⟩, trivial⟩
  · rintro y1 hy1
    replace hy1 := hy1.symm
    subst hy1
    try dsimp only [lr, lrL, lrp, lrpL] at h
    cbv
    obtain ⟨o2, ho2, h⟩ := of_cl h
    try dsimp only at h
    try rw [hg] at ho2
    try rw [ht] at ho2
    refine ABL.mk { p : Nat × Int × List Item // p.1 ≤ a0_Chutes.length ∧ p.2.1 = ((p.1 : Nat) : Int) ∧ I_everyItem_l2 G.real TE.real (List.drop p.1 a0_Chutes) p.2.2 = some o2 } (fun ⟨⟨k2, v2, w2⟩, _⟩ => ({ sl := [(1, .c (.p 0 5 0 0)), (3, .c (.f 1 2 0 (dlen (d_Item w2)))), (27, .c (.r (.s 3 (r_Chute a0_Chutes)))), (28, .c (.r (.v (.int .i64 (llen (r_Chute a0_Chutes)))))), (29, .c (.r (.v (.int .i64 v2))))], tab := [(0, some (.foc 5 [] [.r (.s 2 (r_Item a0_Belt)), .r (.s 3 (r_Chute a0_Chutes)), .r (.s 2 (r_Inlet a0_Inlets)), .r (.s 1 (r_I64 a0_Plan)), .r (.v (.int .i64 a0_Now))] [])), (1, some (.arr 2 (d_Item w2)))] } : St)) 2 (fun p => a0_Chutes.length - p.1.1) ⟨(0, 0, y1), Nat.zero_le _, rfl, ho2⟩ (List Item) (fun y2 => ({ sl := [(1, .c (.p 0 5 0 0)), (3, .c (.f 1 2 0 (dlen (d_Item y2))))], tab := [(0, some (.foc 5 [] [.r (.s 2 (r_Item a0_Belt)), .r (.s 3 (r_Chute a0_Chutes)), .r (.s 2 (r_Inlet a0_Inlets)), .r (.s 1 (r_I64 a0_Plan)), .r (.v (.int .i64 a0_Now))] [])), (1, some (.arr 2 (d_Item y2)))] } : St)) 2 (fun y => o2 = y) ?_ ?_ ?_
    · refine Wk.of [(0, some 0), (1, some 1)] rfl rfl ?_ ?_
      · cbv
        all_goals exact ⟨⟨_, rfl, rfl⟩, ⟨_, rfl, rfl⟩, ⟨_, rfl, rfl⟩, ⟨_, rfl, rfl⟩, ⟨_, rfl, rfl⟩, trivial⟩
      · cbv
        all_goals exact ⟨⟨_, rfl, _, rfl, rfl, rfl, rfl, rfl, rfl, trivial⟩, ⟨_, rfl, rfl⟩, trivial⟩
    · rintro ⟨⟨k2, v2, w2⟩, hk2, hi2, h_2⟩ hq2
      have hm2 := (hq2.1 27 _ _ rfl)
      try dsimp only at hk2 hi2 h_2
      clear hq2
      cbv
      by_cases hc2_ : k2 < a0_Chutes.length
      · have hb3 : lt v2 (llen (r_Chute a0_Chutes)) = true := ltL_true_Chute hg ht hi2 hc2_
        have hs2 := stepL_Chute hg ht hi2 hc2_ hm2
        obtain ⟨z2, hz2⟩ := some_of_lt hc2_
        rw [drop_of_some hz2] at h_2
        rw [I_everyItem_l2] at h_2
        obtain ⟨z2_Cell, z2_Room, z2_Held⟩ := z2
        try rw [← hg] at h_2
        try rw [← ht] at h_2
        try dsimp only at h_2
        rw [hb3]
        cbv
        refine AStep.mk (nn_L hi2) ?_
        cbv
        refine AGet.mk _ (r_getL_Chute hg ht hi2 hz2) ?_
        cbv
        obtain ⟨hc2, h_2⟩ := of_gd h_2
        refine AStep.mk (app_ok_Item hg ht (dlen_Item hg ht _) (up_Item hg ht _) hc2) ?_
        cbv
        obtain ⟨l4, hl4, h_2⟩ := of_lP h_2
        try dsimp only at h_2
        refine ANew.mk (d_Item l4) (dlen (d_Item l4)) (by rw [← hl4]; exact app_Item hg ht (dlen_Item hg ht _) (up_Item hg ht _)) (by rw [← hl4]; exact appl_Item hg ht (dlen_Item hg ht _) (up_Item hg ht _)) ?_
        cbv
        try rw [hg] at h_2
        try rw [ht] at h_2
        refine ⟨⟨(k2 + 1, (wrap .i64 (add v2 1)), l4), hc2_, hs2, h_2⟩, Wk.of [(0, some 0), (1, some 130)] rfl rfl ?_ ?_, meas_L hc2_⟩
        · cbv
          all_goals exact ⟨⟨_, rfl, rfl⟩, ⟨_, rfl, rfl⟩, ⟨_, rfl, rfl⟩, ⟨_, rfl, rfl⟩, ⟨_, rfl, rfl⟩, trivial⟩
        · cbv
          all_goals exact ⟨⟨_, rfl, _, rfl, rfl, rfl, rfl, rfl, rfl, trivial⟩, ⟨_, rfl, rfl⟩, trivial⟩
      · have hb3 : lt v2 (llen (r_Chute a0_Chutes)) = false := ltL_false_Chute hg ht hi2 hc2_
        rw [List.drop_of_length_le (Nat.le_of_not_lt hc2_)] at h_2
        rw [I_everyItem_l2] at h_2
        try rw [← hg] at h_2
        try rw [← ht] at h_2
        try dsimp only at h_2
        rw [hb3]
        cbv
        refine ⟨w2, Wk.of [(0, some 0), (1, some 1)] rfl rfl ?_ ?_, (Option.some.inj h_2).symm⟩
        · cbv
          all_goals exact ⟨⟨_, rfl, rfl⟩, ⟨_, rfl, rfl⟩, trivial⟩
        · cbv
          all_goals exact ⟨⟨_, rfl, _, rfl, rfl, rfl, rfl, rfl, rfl, trivial⟩, ⟨_, rfl, rfl⟩, trivial⟩
    · rintro y2 hy2
      replace hy2 := hy2.symm
      subst hy2
      try dsimp only [lr, lrL, lrp, lrpL] at h
      cbv
      obtain ⟨o3, ho3, h⟩ := of_cl h
      try dsimp only at h
      try rw [hg] at ho3
      try rw [ht] at ho3
      refine ABL.mk { p : Nat × Int × List Item // p.1 ≤ a0_Inlets.length ∧ p.2.1 = ((p.1 : Nat) : Int) ∧ I_everyItem_l3 G.real TE.real (List.drop p.1 a0_Inlets) p.2.2 = some o3 } (fun ⟨⟨k3, v3, w3⟩, _⟩ => ({ sl := [(3, .c (.f 0 2 0 (dlen (d_Item w3)))), (39, .c (.r (.s 2 (r_Inlet a0_Inlets)))), (40, .c (.r (.v (.int .i64 (llen (r_Inlet a0_Inlets)))))), (41, .c (.r (.v (.int .i64 v3))))], tab := [(0, some (.arr 2 (d_Item w3)))] } : St)) 1 (fun p => a0_Inlets.length - p.1.1) ⟨(0, 0, y2), Nat.zero_le _, rfl, ho3⟩ (List Item) (fun y3 => ({ sl := [(3, .c (.f 0 2 0 (dlen (d_Item y3))))], tab := [(0, some (.arr 2 (d_Item y3)))] } : St)) 1 (fun y => o3 = y) ?_ ?_ ?_
      · refine Wk.of [(0, some 1)] rfl rfl ?_ ?_
        · cbv
          all_goals exact ⟨⟨_, rfl, rfl⟩, ⟨_, rfl, rfl⟩, ⟨_, rfl, rfl⟩, ⟨_, rfl, rfl⟩, trivial⟩
        · cbv
          all_goals exact ⟨⟨_, rfl, rfl⟩, trivial⟩
      · rintro ⟨⟨k3, v3, w3⟩, hk3, hi3, h_3⟩ hq3
        have hm3 := (hq3.1 39 _ _ rfl)
        try dsimp only at hk3 hi3 h_3
        clear hq3
        cbv
        by_cases hc3_ : k3 < a0_Inlets.length
        · have hb4 : lt v3 (llen (r_Inlet a0_Inlets)) = true := ltL_true_Inlet hg ht hi3 hc3_
          have hs3 := stepL_Inlet hg ht hi3 hc3_ hm3
          obtain ⟨z3, hz3⟩ := some_of_lt hc3_
          rw [drop_of_some hz3] at h_3
          rw [I_everyItem_l3] at h_3
          obtain ⟨z3_Cell, z3_Wait⟩ := z3
          try rw [← hg] at h_3
          try rw [← ht] at h_3
          try dsimp only at h_3
          rw [hb4]
          cbv
          refine AStep.mk (nn_L hi3) ?_
          cbv
          refine AGet.mk _ (r_getL_Inlet hg ht hi3 hz3) ?_
          cbv
          obtain ⟨hc3, h_3⟩ := of_gd h_3
          refine AStep.mk (app_ok_Item hg ht (dlen_Item hg ht _) (up_Item hg ht _) hc3) ?_
          cbv
          obtain ⟨l5, hl5, h_3⟩ := of_lP h_3
          try dsimp only at h_3
          refine ANew.mk (d_Item l5) (dlen (d_Item l5)) (by rw [← hl5]; exact app_Item hg ht (dlen_Item hg ht _) (up_Item hg ht _)) (by rw [← hl5]; exact appl_Item hg ht (dlen_Item hg ht _) (up_Item hg ht _)) ?_
          cbv
          try rw [hg] at h_3
          try rw [ht] at h_3
          refine ⟨⟨(k3 + 1, (wrap .i64 (add v3 1)), l5), hc3_, hs3, h_3⟩, Wk.of [(0, some 129)] rfl rfl ?_ ?_, meas_L hc3_⟩
          · cbv
            all_goals exact ⟨⟨_, rfl, rfl⟩, ⟨_, rfl, rfl⟩, ⟨_, rfl, rfl⟩, ⟨_, rfl, rfl⟩, trivial⟩
          · cbv
            all_goals exact ⟨⟨_, rfl, rfl⟩, trivial⟩
        · have hb4 : lt v3 (llen (r_Inlet a0_Inlets)) = false := ltL_false_Inlet hg ht hi3 hc3_
          rw [List.drop_of_length_le (Nat.le_of_not_lt hc3_)] at h_3
          rw [I_everyItem_l3] at h_3
          try rw [← hg] at h_3
          try rw [← ht] at h_3
          try dsimp only at h_3
          rw [hb4]
          cbv
          refine ⟨w3, Wk.of [(0, some 0)] rfl rfl ?_ ?_, (Option.some.inj h_3).symm⟩
          · cbv
            all_goals exact ⟨⟨_, rfl, rfl⟩, trivial⟩
          · cbv
            all_goals exact ⟨⟨_, rfl, rfl⟩, trivial⟩
      · rintro y3 hy3
        replace hy3 := hy3.symm
        subst hy3
        try dsimp only [lr, lrL, lrp, lrpL] at h
        cbv
        obtain rfl := Option.some.inj h
        exact ARet.mk ⟨rfl, (dlen_Item hg ht _)⟩ hX.symm
end Go.Vs
namespace Go.Vs
set_option maxRecDepth 100000
def ir32 : J :=
  .seq (.reg none [⟨(some 1), none, .box (.t 0)⟩,
     ⟨(some 2), none, .mv (.k (V.b false))⟩] [1])
  (.seq (.seq (.reg none [⟨(some 13), none, .fa 0 (.t 1)⟩,
      ⟨(some 14), none, .ld false 1 (.t 13)⟩,
      ⟨(some 15), none, .len false (.t 14)⟩,
      ⟨(some 16), none, .call 89 true [(.t 15), (.k (V.i 2)), (.k (V.i 24))]⟩,
      ⟨(some 17), none, .not (.t 16)⟩,
      ⟨(some 18), none, .mv (.t 17)⟩,
      ⟨(some 19), (some (18, false)), .fa 1 (.t 1)⟩,
      ⟨(some 20), (some (18, false)), .ld false 1 (.t 19)⟩,
      ⟨(some 21), (some (18, false)), .len false (.t 20)⟩,
      ⟨(some 22), (some (18, false)), .call 89 true [(.t 21), (.k (V.i 1)), (.k (V.i 6))]⟩,
      ⟨(some 23), (some (18, false)), .not (.t 22)⟩,
      ⟨(some 24), none, .pick (.t 18) (.k (V.b true)) (.t 23)⟩,
      ⟨(some 25), none, .mv (.t 24)⟩,
      ⟨(some 26), (some (25, false)), .fa 2 (.t 1)⟩,
      ⟨(some 27), (some (25, false)), .ld false 1 (.t 26)⟩,
      ⟨(some 28), (some (25, false)), .len false (.t 27)⟩,
      ⟨(some 29), (some (25, false)), .call 89 true [(.t 28), (.k (V.i 1)), (.k (V.i 4))]⟩,
      ⟨(some 30), (some (25, false)), .not (.t 29)⟩,
      ⟨(some 31), none, .pick (.t 25) (.k (V.b true)) (.t 30)⟩,
      ⟨(some 32), none, .mv (.t 31)⟩,
      ⟨(some 33), (some (32, false)), .fa 3 (.t 1)⟩,
      ⟨(some 34), (some (32, false)), .ld false 1 (.t 33)⟩,
      ⟨(some 35), (some (32, false)), .len false (.t 34)⟩,
      ⟨(some 36), (some (32, false)), .call 89 true [(.t 35), (.k (V.i 1)), (.k (V.i 8))]⟩,
      ⟨(some 37), (some (32, false)), .not (.t 36)⟩,
      ⟨(some 38), none, .pick (.t 32) (.k (V.b true)) (.t 37)⟩,
      ⟨(some 39), none, .mv (.t 38)⟩,
      ⟨(some 40), (some (39, false)), .fa 4 (.t 1)⟩,
      ⟨(some 41), (some (39, false)), .ld false 1 (.t 40)⟩,
      ⟨(some 42), (some (39, false)), .call 89 true [(.t 41), (.k (V.i 0)), (.k (V.i 100000))]⟩,
      ⟨(some 43), (some (39, false)), .not (.t 42)⟩,
      ⟨(some 44), none, .pick (.t 39) (.k (V.b true)) (.t 43)⟩] [1, 44])
   (.cond (.t 44)
    (.seq (.reg none [⟨(some 2), none, .mv (.k (V.b false))⟩] [2])
     (.ret))
    (.skip)))
  (.seq (.reg none [⟨(some 45), none, .mkm false⟩,
     ⟨(some 3), none, .mv (.t 45)⟩] [1, 3])
  (.seq (.seq (.reg none [⟨(some 46), none, .fa 1 (.t 1)⟩,
      ⟨(some 47), none, .ld false 1 (.t 46)⟩,
      ⟨(some 48), none, .len false (.t 47)⟩,
      ⟨(some 49), none, .mv (.k (V.i 0))⟩] [1, 3, 47, 48, 49])
   (.bl 0 (.seq (.reg none [⟨(some 50), none, .bin .lss .i (.t 49) (.t 48)⟩] [1, 3, 47, 48, 49, 50])
    (.seq (.cond (.t 50)
      (.skip)
      (.exit 0))
    (.seq (.block 1 (.seq (.reg none [⟨(some 51), none, .ia 3 (.t 47) (.t 49)⟩,
         ⟨(some 52), none, .ld true 3 (.t 51)⟩,
         ⟨(some 5), none, .alloc [.r (.v (.int .i64 0)), .r (.v (.int .i64 0)), .n 2]⟩,
         ⟨none, none, .st 3 (.t 5) (.t 52)⟩] [1, 3, 5, 47, 48, 49])
      (.seq (.seq (.reg none [⟨(some 53), none, .fa 0 (.t 5)⟩,
          ⟨(some 54), none, .ld false 1 (.t 53)⟩,
          ⟨(some 55), none, .fa 0 (.t 1)⟩,
          ⟨(some 56), none, .ld false 1 (.t 55)⟩,
          ⟨(some 57), none, .len false (.t 56)⟩,
          ⟨(some 58), none, .bin .sub .i (.t 57) (.k (V.i 1))⟩,
          ⟨(some 59), none, .call 89 true [(.t 54), (.k (V.i 0)), (.t 58)]⟩,
          ⟨(some 60), none, .not (.t 59)⟩,
          ⟨(some 61), none, .mv (.t 60)⟩,
          ⟨(some 62), (some (61, false)), .mv (.t 3)⟩,
          ⟨(some 63), (some (61, false)), .fa 0 (.t 5)⟩,
          ⟨(some 64), (some (61, false)), .ld false 1 (.t 63)⟩,
          ⟨(some 65), (some (61, false)), .mlk false (.t 62) (.t 64)⟩,
          ⟨(some 66), none, .pick (.t 61) (.k (V.b true)) (.t 65)⟩,
          ⟨(some 67), none, .mv (.t 66)⟩,
          ⟨(some 68), (some (67, false)), .fa 1 (.t 5)⟩,
          ⟨(some 69), (some (67, false)), .ld false 1 (.t 68)⟩,
          ⟨(some 70), (some (67, false)), .call 89 true [(.t 69), (.k (V.i 1)), (.k (V.i 20))]⟩,
          ⟨(some 71), (some (67, false)), .not (.t 70)⟩,
          ⟨(some 72), none, .pick (.t 67) (.k (V.b true)) (.t 71)⟩,
          ⟨(some 73), none, .mv (.t 72)⟩,
          ⟨(some 74), (some (73, false)), .fa 2 (.t 5)⟩,
          ⟨(some 75), (some (73, false)), .ld false 1 (.t 74)⟩,
          ⟨(some 76), (some (73, false)), .len false (.t 75)⟩,
          ⟨(some 77), (some (73, false)), .fa 1 (.t 5)⟩,
          ⟨(some 78), (some (73, false)), .ld false 1 (.t 77)⟩,
          ⟨(some 79), (some (73, false)), .bin .gtr .i (.t 76) (.t 78)⟩,
          ⟨(some 80), none, .pick (.t 73) (.k (V.b true)) (.t 79)⟩] [1, 3, 5, 47, 48, 49, 80])
       (.cond (.t 80)
        (.seq (.reg none [⟨(some 2), none, .mv (.k (V.b false))⟩] [2])
         (.ret))
        (.skip)))
      (.reg none [⟨(some 81), none, .mv (.t 3)⟩,
        ⟨(some 82), none, .fa 0 (.t 5)⟩,
        ⟨(some 83), none, .ld false 1 (.t 82)⟩,
        ⟨none, none, .mup false (.t 81) (.t 83)⟩] [1, 3, 47, 48, 49]))))
    (.reg none [⟨(some 84), none, .bin .add .i (.t 49) (.k (V.i 1))⟩,
      ⟨(some 49), none, .mv (.t 84)⟩] [1, 3, 47, 48, 49]))))))
  (.seq (.reg none [⟨(some 85), none, .mkm false⟩,
     ⟨(some 3), none, .mv (.t 85)⟩] [1, 3])
  (.seq (.seq (.reg none [⟨(some 86), none, .fa 2 (.t 1)⟩,
      ⟨(some 87), none, .ld false 1 (.t 86)⟩,
      ⟨(some 88), none, .len false (.t 87)⟩,
      ⟨(some 89), none, .mv (.k (V.i 0))⟩] [1, 3, 87, 88, 89])
   (.bl 2 (.seq (.reg none [⟨(some 90), none, .bin .lss .i (.t 89) (.t 88)⟩] [1, 3, 87, 88, 89, 90])
    (.seq (.cond (.t 90)
      (.skip)
      (.exit 2))
    (.seq (.block 3 (.seq (.reg none [⟨(some 91), none, .ia 2 (.t 87) (.t 89)⟩,
         ⟨(some 92), none, .ld true 2 (.t 91)⟩,
         ⟨(some 7), none, .alloc [.r (.v (.int .i64 0)), .n 2]⟩,
         ⟨none, none, .st 2 (.t 7) (.t 92)⟩] [1, 3, 7, 87, 88, 89])
      (.seq (.seq (.reg none [⟨(some 93), none, .fa 0 (.t 7)⟩,
          ⟨(some 94), none, .ld false 1 (.t 93)⟩,
          ⟨(some 95), none, .fa 0 (.t 1)⟩,
          ⟨(some 96), none, .ld false 1 (.t 95)⟩,
          ⟨(some 97), none, .len false (.t 96)⟩,
          ⟨(some 98), none, .bin .sub .i (.t 97) (.k (V.i 1))⟩,
          ⟨(some 99), none, .call 89 true [(.t 94), (.k (V.i 0)), (.t 98)]⟩,
          ⟨(some 100), none, .not (.t 99)⟩,
          ⟨(some 101), none, .mv (.t 100)⟩,
          ⟨(some 102), (some (101, false)), .mv (.t 3)⟩,
          ⟨(some 103), (some (101, false)), .fa 0 (.t 7)⟩,
          ⟨(some 104), (some (101, false)), .ld false 1 (.t 103)⟩,
          ⟨(some 105), (some (101, false)), .mlk false (.t 102) (.t 104)⟩,
          ⟨(some 106), none, .pick (.t 101) (.k (V.b true)) (.t 105)⟩,
          ⟨(some 107), none, .mv (.t 106)⟩,
          ⟨(some 108), (some (107, false)), .fa 1 (.t 7)⟩,
          ⟨(some 109), (some (107, false)), .ld false 1 (.t 108)⟩,
          ⟨(some 110), (some (107, false)), .len false (.t 109)⟩,
          ⟨(some 111), (some (107, false)), .bin .gtr .i (.t 110) (.k (V.i 20))⟩,
          ⟨(some 112), none, .pick (.t 107) (.k (V.b true)) (.t 111)⟩] [1, 3, 7, 87, 88, 89, 112])
       (.cond (.t 112)
        (.seq (.reg none [⟨(some 2), none, .mv (.k (V.b false))⟩] [2])
         (.ret))
        (.skip)))
      (.reg none [⟨(some 113), none, .mv (.t 3)⟩,
        ⟨(some 114), none, .fa 0 (.t 7)⟩,
        ⟨(some 115), none, .ld false 1 (.t 114)⟩,
        ⟨none, none, .mup false (.t 113) (.t 115)⟩] [1, 3, 87, 88, 89]))))
    (.reg none [⟨(some 116), none, .bin .add .i (.t 89) (.k (V.i 1))⟩,
      ⟨(some 89), none, .mv (.t 116)⟩] [1, 3, 87, 88, 89]))))))
  (.seq (.seq (.reg none [⟨(some 117), none, .fa 3 (.t 1)⟩,
      ⟨(some 118), none, .ld false 1 (.t 117)⟩,
      ⟨(some 119), none, .len false (.t 118)⟩,
      ⟨(some 120), none, .mv (.k (V.i 0))⟩] [1, 118, 119, 120])
   (.bl 4 (.seq (.reg none [⟨(some 121), none, .bin .lss .i (.t 120) (.t 119)⟩] [1, 118, 119, 120, 121])
    (.seq (.cond (.t 121)
      (.skip)
      (.exit 4))
    (.seq (.block 5 (.seq (.reg none [⟨(some 122), none, .ia 1 (.t 118) (.t 120)⟩,
         ⟨(some 123), none, .ld false 1 (.t 122)⟩,
         ⟨(some 9), none, .mv (.t 123)⟩] [1, 9, 118, 119, 120])
      (.seq (.reg none [⟨(some 124), none, .mv (.t 9)⟩,
         ⟨(some 125), none, .fa 1 (.t 1)⟩,
         ⟨(some 126), none, .ld false 1 (.t 125)⟩,
         ⟨(some 127), none, .len false (.t 126)⟩,
         ⟨(some 128), none, .bin .sub .i (.t 127) (.k (V.i 1))⟩,
         ⟨(some 129), none, .call 89 true [(.t 124), (.k (V.i 0)), (.t 128)]⟩,
         ⟨(some 130), none, .not (.t 129)⟩] [1, 118, 119, 120, 130])
      (.cond (.t 130)
       (.seq (.reg none [⟨(some 2), none, .mv (.k (V.b false))⟩] [2])
        (.ret))
       (.skip)))))
    (.reg none [⟨(some 131), none, .bin .add .i (.t 120) (.k (V.i 1))⟩,
      ⟨(some 120), none, .mv (.t 131)⟩] [1, 118, 119, 120]))))))
  (.seq (.reg none [⟨(some 132), none, .mkm false⟩,
     ⟨(some 10), none, .mv (.t 132)⟩] [1, 10])
  (.seq (.seq (.reg none [⟨(some 133), none, .ld true 5 (.t 1)⟩,
      ⟨(some 134), none, .call 90 true [(.t 133)]⟩,
      ⟨(some 135), none, .len false (.t 134)⟩,
      ⟨(some 136), none, .mv (.k (V.i 0))⟩] [1, 10, 134, 135, 136])
   (.bl 6 (.seq (.reg none [⟨(some 137), none, .bin .lss .i (.t 136) (.t 135)⟩] [1, 10, 134, 135, 136, 137])
    (.seq (.cond (.t 137)
      (.skip)
      (.exit 6))
    (.seq (.block 7 (.seq (.reg none [⟨(some 138), none, .ia 2 (.t 134) (.t 136)⟩,
         ⟨(some 139), none, .ld true 2 (.t 138)⟩,
         ⟨(some 12), none, .alloc [.r (.v (.int .i64 0)), .r (.v (.int .i64 0))]⟩,
         ⟨none, none, .st 2 (.t 12) (.t 139)⟩] [1, 10, 12, 134, 135, 136])
      (.seq (.seq (.reg none [⟨(some 140), none, .fa 0 (.t 12)⟩,
          ⟨(some 141), none, .ld false 1 (.t 140)⟩,
          ⟨(some 142), none, .call 89 true [(.t 141), (.k (V.i 1)), (.k (V.i 9999))]⟩,
          ⟨(some 143), none, .not (.t 142)⟩,
          ⟨(some 144), none, .mv (.t 143)⟩,
          ⟨(some 145), (some (144, false)), .fa 1 (.t 12)⟩,
          ⟨(some 146), (some (144, false)), .ld false 1 (.t 145)⟩,
          ⟨(some 147), (some (144, false)), .fa 3 (.t 1)⟩,
          ⟨(some 148), (some (144, false)), .ld false 1 (.t 147)⟩,
          ⟨(some 149), (some (144, false)), .len false (.t 148)⟩,
          ⟨(some 150), (some (144, false)), .bin .sub .i (.t 149) (.k (V.i 1))⟩,
          ⟨(some 151), (some (144, false)), .call 89 true [(.t 146), (.k (V.i 0)), (.t 150)]⟩,
          ⟨(some 152), (some (144, false)), .not (.t 151)⟩,
          ⟨(some 153), none, .pick (.t 144) (.k (V.b true)) (.t 152)⟩,
          ⟨(some 154), none, .mv (.t 153)⟩,
          ⟨(some 155), (some (154, false)), .mv (.t 10)⟩,
          ⟨(some 156), (some (154, false)), .fa 0 (.t 12)⟩,
          ⟨(some 157), (some (154, false)), .ld false 1 (.t 156)⟩,
          ⟨(some 158), (some (154, false)), .mlk false (.t 155) (.t 157)⟩,
          ⟨(some 159), none, .pick (.t 154) (.k (V.b true)) (.t 158)⟩] [1, 10, 12, 134, 135, 136, 159])
       (.cond (.t 159)
        (.seq (.reg none [⟨(some 2), none, .mv (.k (V.b false))⟩] [2])
         (.ret))
        (.skip)))
      (.reg none [⟨(some 160), none, .mv (.t 10)⟩,
        ⟨(some 161), none, .fa 0 (.t 12)⟩,
        ⟨(some 162), none, .ld false 1 (.t 161)⟩,
        ⟨none, none, .mup false (.t 160) (.t 162)⟩] [1, 10, 134, 135, 136]))))
    (.reg none [⟨(some 163), none, .bin .add .i (.t 136) (.k (V.i 1))⟩,
      ⟨(some 136), none, .mv (.t 163)⟩] [1, 10, 134, 135, 136]))))))
  (.seq (.reg none [⟨(some 2), none, .mv (.k (V.b true))⟩] [2])
  (.ret))))))))))
def rv32 : List RV := [.t 2]
open Go.Proofs Go.IntWalk
set_option linter.unusedVariables false
set_option maxRecDepth 100000
set_option maxHeartbeats 4000000
def I_IsCentre_l4 (g : G) (t : TE) (a0 : Centre) (x10 : List Item) : Nat → Int → List Int → Option (LR Bool Unit)
  | 0, v4, w3 =>
    some (LR.out ())
  | n4 + 1, v4, w3 =>
    gt x10 (g.nat v4) fun x11 =>
    lP (I_within g t x11.Id 1 9999) fun x12 =>
    br x12
    (
     lP (I_within g t x11.Dest 0 (g.wrap .i64 (g.sub (g.llen (t.r_I64 a0.Plan)) 1))) fun x13 =>
     br x13
     (
      br (g.hasI w3 x11.Id)
      (
       some (LR.ret false))
      (
       I_IsCentre_l4 g t a0 x10 n4 (g.wrap .i64 (g.add v4 1)) (g.putI w3 x11.Id)))
     (
      some (LR.ret false)))
    (
     some (LR.ret false))
def I_IsCentre_l3 (g : G) (t : TE) (a0 : Centre) : List Int → LR Bool Unit
  | [] =>
    (LR.out ())
  | z3 :: ls3 =>
    lP (I_within g t z3 0 (g.wrap .i64 (g.sub (g.llen (t.r_Chute a0.Chutes)) 1))) fun x9 =>
    br x9
    (
     I_IsCentre_l3 g t a0 ls3)
    (
     (LR.ret false))
def I_IsCentre_l2 (g : G) (t : TE) (a0 : Centre) : List Inlet → List Int → LR Bool Unit
  | [], w2 =>
    (LR.out ())
  | z2 :: ls2, w2 =>
    lP (I_within g t z2.Cell 0 (g.wrap .i64 (g.sub (g.llen (t.r_Item a0.Belt)) 1))) fun x8 =>
    br x8
    (
     br (g.hasI w2 z2.Cell)
     (
      (LR.ret false))
     (
      br (g.lt 20 (g.llen (t.r_Item z2.Wait)))
      (
       (LR.ret false))
      (
       I_IsCentre_l2 g t a0 ls2 (g.putI w2 z2.Cell))))
    (
     (LR.ret false))
def I_IsCentre_l1 (g : G) (t : TE) (a0 : Centre) : List Chute → List Int → LR Bool Unit
  | [], w1 =>
    (LR.out ())
  | z1 :: ls1, w1 =>
    lP (I_within g t z1.Cell 0 (g.wrap .i64 (g.sub (g.llen (t.r_Item a0.Belt)) 1))) fun x6 =>
    br x6
    (
     br (g.hasI w1 z1.Cell)
     (
      (LR.ret false))
     (
      lP (I_within g t z1.Room 1 20) fun x7 =>
      br x7
      (
       br (g.lt z1.Room (g.llen (t.r_Item z1.Held)))
       (
        (LR.ret false))
       (
        I_IsCentre_l1 g t a0 ls1 (g.putI w1 z1.Cell)))
      (
       (LR.ret false))))
    (
     (LR.ret false))
def I_IsCentre (g : G) (t : TE) (a0 : Centre) : Option Bool :=
  lP (I_within g t (g.llen (t.r_Item a0.Belt)) 2 24) fun x1 =>
  br x1
  (
   lP (I_within g t (g.llen (t.r_Chute a0.Chutes)) 1 6) fun x2 =>
   br x2
   (
    lP (I_within g t (g.llen (t.r_Inlet a0.Inlets)) 1 4) fun x3 =>
    br x3
    (
     lP (I_within g t (g.llen (t.r_I64 a0.Plan)) 1 8) fun x4 =>
     br x4
     (
      lP (I_within g t a0.Now 0 100000) fun x5 =>
      br x5
      (
       lP (I_IsCentre_l1 g t a0 a0.Chutes []) fun o1 => lr o1 fun y1 =>
       lP (I_IsCentre_l2 g t a0 a0.Inlets []) fun o2 => lr o2 fun y2 =>
       lP (I_IsCentre_l3 g t a0 a0.Plan) fun o3 => lr o3 fun y3 =>
       cl (I_everyItem g t a0) fun x10 =>
       gd (((g.int (g.dlen (t.d_Item x10))) ≤ 4611686018427387904)) <|
       cl (I_IsCentre_l4 g t a0 x10 (cntLt 0 (g.int (g.dlen (t.d_Item x10)))) 0 []) fun o4 => lr o4 fun y4 =>
       some true)
      (
       some false))
     (
      some false))
    (
     some false))
   (
    some false))
  (
   some false)
theorem fit32 : codeFit Try.prog Try.f32.ntmps (Try.f32.body.getD .skip) ir32 = true := by kernel_rfl
theorem c_I_IsCentre {g : G} {t : TE} {a0 : Centre} {r : Bool} (hg : g = G.real) (ht : t = TE.real) (h : I_IsCentre g t a0 = some r) : Fn Try.prog 32 [.g (Centre.rs t a0)] (.c (.r (.v (.bool r)))) := by
  obtain ⟨X, hX⟩ := hide (.c (.r (.v (.bool r))) : X)
  rw [← hX]
  refine fn_of (rvs := rv32) (j := ir32) Try.func32 rfl fit32 (Nat.le_of_ble_eq_true rfl) (by kernel_rfl) prog_mixed ?_
  intro g2 F hg2 hF
  obtain rfl : g2 = g := hg2.unique.trans hg.symm
  clear hg2
  obtain ⟨wrap, lt, le, eq, quo, rem, band, bor, bxor, shl, shr, nat, int, add, sub, mul, cat, seq, slt, sub3, byte, llen, nadd, nsub, dlen, dapp, dset, drep, rd, rda, up, rsub, dsub, all, sle, slen, hasI, putI, hasS, putS, imin, imax, fzc⟩ := g2
  obtain ⟨r_Item, d_Item, r_Chute, d_Chute, r_Inlet, d_Inlet, r_I64, d_I64, r_U8, d_U8, d_InletF⟩ := t
  obtain ⟨a0_Belt, a0_Chutes, a0_Inlets, a0_Plan, a0_Now⟩ := a0
  unfold I_IsCentre at h
  try dsimp only at h
  cbv
  obtain ⟨x1, hx1, h⟩ := of_lP h
  try dsimp only at h
  refine ACall.mk _ _ rfl (hF _ _ _ (c_I_within hg ht hx1)) (.inl rfl) (Nat.le_of_ble_eq_true rfl) ?_
  cbv
  cases hb1 : x1 with
  | true =>
    rw [br_true hb1] at h
    cbv
    try (rw [hb1]; cbv)
    try (rw [hb1]; cbv)
    try (rw [hb1]; cbv)
    obtain ⟨x2, hx2, h⟩ := of_lP h
    try dsimp only at h
    refine ACall.mk _ _ rfl (hF _ _ _ (c_I_within hg ht hx2)) (.inl rfl) (Nat.le_of_ble_eq_true rfl) ?_
    cbv
    try (rw [hb1]; cbv)
    try (rw [hb1]; cbv)
    cases hb2 : x2 with
    | true =>
      rw [br_true hb2] at h
      cbv
      try (rw [hb2]; cbv)
      try (rw [hb2]; cbv)
      try (rw [hb2]; cbv)
      obtain ⟨x3, hx3, h⟩ := of_lP h
      try dsimp only at h
      refine ACall.mk _ _ rfl (hF _ _ _ (c_I_within hg ht hx3)) (.inl rfl) (Nat.le_of_ble_eq_true rfl) ?_
      cbv
      try (rw [hb2]; cbv)
      try (rw [hb2]; cbv)
      cases hb3 : x3 with
      | true =>
        rw [br_true hb3] at h
        cbv
        try (rw [hb3]; cbv)
        try (rw [hb3]; cbv)
        try (rw [hb3]; cbv)
        obtain ⟨x4, hx4, h⟩ := of_lP h
        try dsimp only at h
        refine ACall.mk _ _ rfl (hF _ _ _ (c_I_within hg ht hx4)) (.inl rfl) (Nat.le_of_ble_eq_true rfl) ?_
        cbv
        try (rw [hb3]; cbv)
        try (rw [hb3]; cbv)
        cases hb4 : x4 with
        | true =>
          rw [br_true hb4] at h
          cbv
          try (rw [hb4]; cbv)
          try (rw [hb4]; cbv)
          obtain ⟨x5, hx5, h⟩ := of_lP h
          try dsimp only at h
          refine ACall.mk _ _ rfl (hF _ _ _ (c_I_within hg ht hx5)) (.inl rfl) (Nat.le_of_ble_eq_true rfl) ?_
          cbv
          try (rw [hb4]; cbv)
          try (rw [hb4]; cbv)
          cases hb5 : x5 with
          | true =>
            rw [br_true hb5] at h
            cbv
            obtain ⟨o1, ho1, h⟩ := of_lP h
            try dsimp only at h
            try rw [hg] at ho1
            try rw [ht] at ho1
            refine ABL.mk { p : Nat × Int × List Int // p.1 ≤ a0_Chutes.length ∧ p.2.1 = ((p.1 : Nat) : Int) ∧ I_IsCentre_l1 G.real TE.real (Centre.mk a0_Belt a0_Chutes a0_Inlets a0_Plan a0_Now) (List.drop p.1 a0_Chutes) p.2.2 = o1 } (fun ⟨⟨k1, v1, w1⟩, _⟩ => ({ sl := [(1, .c (.p 0 5 0 0)), (3, .c (.m 1)), (47, .c (.r (.s 3 (r_Chute a0_Chutes)))), (48, .c (.r (.v (.int .i64 (llen (r_Chute a0_Chutes)))))), (49, .c (.r (.v (.int .i64 v1))))], tab := [(0, some (.foc 5 [] [.r (.s 2 (r_Item a0_Belt)), .r (.s 3 (r_Chute a0_Chutes)), .r (.s 2 (r_Inlet a0_Inlets)), .r (.s 1 (r_I64 a0_Plan)), .r (.v (.int .i64 a0_Now))] [])), (1, some (.mi w1))] } : St)) 2 (fun p => a0_Chutes.length - p.1.1) ⟨(0, 0, []), Nat.zero_le _, rfl, ho1⟩ (Unit) (fun _ => ({ sl := [(1, .c (.p 0 5 0 0))], tab := [(0, some (.foc 5 [] [.r (.s 2 (r_Item a0_Belt)), .r (.s 3 (r_Chute a0_Chutes)), .r (.s 2 (r_Inlet a0_Inlets)), .r (.s 1 (r_I64 a0_Plan)), .r (.v (.int .i64 a0_Now))] []))] } : St)) 1 (fun y => o1 = LR.out y) ?_ ?_ ?_
            · refine Wk.of [(0, some 0), (1, some 544)] rfl rfl ?_ ?_
              · cbv
                all_goals exact ⟨⟨_, rfl, rfl⟩, ⟨_, rfl, rfl⟩, ⟨_, rfl, rfl⟩, ⟨_, rfl, rfl⟩, ⟨_, rfl, rfl⟩, trivial⟩
              · cbv
                all_goals exact ⟨⟨_, rfl, _, rfl, rfl, rfl, rfl, rfl, rfl, trivial⟩, ⟨_, rfl, rfl⟩, trivial⟩
            · rintro ⟨⟨k1, v1, w1⟩, hk1, hi1, h_1⟩ hq1
              have hm1 := (hq1.1 47 _ _ rfl)
              try dsimp only at hk1 hi1 h_1
              clear hq1
              cbv
              by_cases hc1_ : k1 < a0_Chutes.length
              · have hb6 : lt v1 (llen (r_Chute a0_Chutes)) = true := ltL_true_Chute hg ht hi1 hc1_
                have hs1 := stepL_Chute hg ht hi1 hc1_ hm1
                obtain ⟨z1, hz1⟩ := some_of_lt hc1_
                rw [drop_of_some hz1] at h_1
                rw [I_IsCentre_l1] at h_1
                obtain ⟨z1_Cell, z1_Room, z1_Held⟩ := z1
                try rw [← hg] at h_1
                try rw [← ht] at h_1
                try dsimp only at h_1
                rw [hb6]
                cbv
                refine AStep.mk (nn_L hi1) ?_
                cbv
                refine AGet.mk _ (r_getL_Chute hg ht hi1 hz1) ?_
                cbv
                obtain ⟨x6, hx6, h_1⟩ := of_lP h_1
                try dsimp only at h_1
                refine ACall.mk _ _ rfl (hF _ _ _ (c_I_within hg ht hx6)) (.inl rfl) (Nat.le_of_ble_eq_true rfl) ?_
                cbv
                cases hb7 : x6 with
                | true =>
                  rw [br_true hb7] at h_1
                  cbv
                  try (rw [hb7]; cbv)
                  try (rw [hb7]; cbv)
                  try (rw [hb7]; cbv)
                  try (rw [hb7]; cbv)
                  cases hb8 : (hasI w1 z1_Cell) with
                  | true =>
                    rw [br_true hb8] at h_1
                    cbv
                    try (rw [hb8]; cbv)
                    try (rw [hb8]; cbv)
                    try (rw [hb8]; cbv)
                    try (rw [hb8]; cbv)
                    subst h_1
                    try dsimp only [lr, lrL, lrp, lrpL] at h
                    obtain rfl := Option.some.inj h
                    exact ARet.mk trivial hX.symm
                  | false =>
                    rw [br_false hb8] at h_1
                    cbv
                    try (rw [hb8]; cbv)
                    try (rw [hb8]; cbv)
                    obtain ⟨x7, hx7, h_1⟩ := of_lP h_1
                    try dsimp only at h_1
                    refine ACall.mk _ _ rfl (hF _ _ _ (c_I_within hg ht hx7)) (.inl rfl) (Nat.le_of_ble_eq_true rfl) ?_
                    cbv
                    try (rw [hb8]; cbv)
                    try (rw [hb8]; cbv)
                    cases hb9 : x7 with
                    | true =>
                      rw [br_true hb9] at h_1
                      cbv
                      try (rw [hb9]; cbv)
                      try (rw [hb9]; cbv)
                      try (rw [hb9]; cbv)
                      try (rw [hb9]; cbv)
                      try (rw [hb9]; cbv)
                      try (rw [hb9]; cbv)
                      cases hb10 : (lt z1_Room (llen (r_Item z1_Held))) with
                      | true =>
                        rw [br_true hb10] at h_1
                        cbv
                        subst h_1
                        try dsimp only [lr, lrL, lrp, lrpL] at h
                        obtain rfl := Option.some.inj h
                        exact ARet.mk trivial hX.symm
                      | false =>
                        rw [br_false hb10] at h_1
                        cbv
                        try rw [hg] at h_1
                        try rw [ht] at h_1
                        refine ⟨⟨(k1 + 1, (wrap .i64 (add v1 1)), (putI w1 z1_Cell)), hc1_, hs1, h_1⟩, Wk.of [(0, some 0), (1, some 1)] rfl rfl ?_ ?_, meas_L hc1_⟩
                        · cbv
                          all_goals exact ⟨⟨_, rfl, rfl⟩, ⟨_, rfl, rfl⟩, ⟨_, rfl, rfl⟩, ⟨_, rfl, rfl⟩, ⟨_, rfl, rfl⟩, trivial⟩
                        · cbv
                          all_goals exact ⟨⟨_, rfl, _, rfl, rfl, rfl, rfl, rfl, rfl, trivial⟩, ⟨_, rfl, rfl⟩, trivial⟩
                    | false =>
                      rw [br_false hb9] at h_1
                      cbv
                      try (rw [hb9]; cbv)
                      try (rw [hb9]; cbv)
                      try (rw [hb9]; cbv)
                      try (rw [hb9]; cbv)
                      try (rw [hb9]; cbv)
                      try (rw [hb9]; cbv)
                      subst h_1
                      try dsimp only [lr, lrL, lrp, lrpL] at h
                      obtain rfl := Option.some.inj h
                      exact ARet.mk trivial hX.symm
                | false =>
                  rw [br_false hb7] at h_1
                  cbv
                  try (rw [hb7]; cbv)
                  try (rw [hb7]; cbv)
                  try (rw [hb7]; cbv)
                  try (rw [hb7]; cbv)
                  subst h_1
                  try dsimp only [lr, lrL, lrp, lrpL] at h
                  obtain rfl := Option.some.inj h
                  exact ARet.mk trivial hX.symm
              · have hb6 : lt v1 (llen (r_Chute a0_Chutes)) = false := ltL_false_Chute hg ht hi1 hc1_
                rw [List.drop_of_length_le (Nat.le_of_not_lt hc1_)] at h_1
                rw [I_IsCentre_l1] at h_1
                try rw [← hg] at h_1
                try rw [← ht] at h_1
                try dsimp only at h_1
                rw [hb6]
                cbv
                refine ⟨(), Wk.of [(0, some 0)] rfl rfl ?_ ?_, h_1.symm⟩
                · cbv
                  all_goals exact ⟨⟨_, rfl, rfl⟩, trivial⟩
                · cbv
                  all_goals exact ⟨⟨_, rfl, _, rfl, rfl, rfl, rfl, rfl, rfl, trivial⟩, trivial⟩
            · rintro _ hy1
              replace hy1 := hy1.symm
              subst hy1
              try dsimp only [lr, lrL, lrp, lrpL] at h
              cbv
              obtain ⟨o2, ho2, h⟩ := of_lP h
              try dsimp only at h
              try rw [hg] at ho2
              try rw [ht] at ho2
              refine ABL.mk { p : Nat × Int × List Int // p.1 ≤ a0_Inlets.length ∧ p.2.1 = ((p.1 : Nat) : Int) ∧ I_IsCentre_l2 G.real TE.real (Centre.mk a0_Belt a0_Chutes a0_Inlets a0_Plan a0_Now) (List.drop p.1 a0_Inlets) p.2.2 = o2 } (fun ⟨⟨k2, v2, w2⟩, _⟩ => ({ sl := [(1, .c (.p 0 5 0 0)), (3, .c (.m 1)), (87, .c (.r (.s 2 (r_Inlet a0_Inlets)))), (88, .c (.r (.v (.int .i64 (llen (r_Inlet a0_Inlets)))))), (89, .c (.r (.v (.int .i64 v2))))], tab := [(0, some (.foc 5 [] [.r (.s 2 (r_Item a0_Belt)), .r (.s 3 (r_Chute a0_Chutes)), .r (.s 2 (r_Inlet a0_Inlets)), .r (.s 1 (r_I64 a0_Plan)), .r (.v (.int .i64 a0_Now))] [])), (1, some (.mi w2))] } : St)) 2 (fun p => a0_Inlets.length - p.1.1) ⟨(0, 0, []), Nat.zero_le _, rfl, ho2⟩ (Unit) (fun _ => ({ sl := [(1, .c (.p 0 5 0 0))], tab := [(0, some (.foc 5 [] [.r (.s 2 (r_Item a0_Belt)), .r (.s 3 (r_Chute a0_Chutes)), .r (.s 2 (r_Inlet a0_Inlets)), .r (.s 1 (r_I64 a0_Plan)), .r (.v (.int .i64 a0_Now))] []))] } : St)) 1 (fun y => o2 = LR.out y) ?_ ?_ ?_
              · refine Wk.of [(0, some 0), (1, some 1)] rfl rfl ?_ ?_
                · cbv
                  all_goals exact ⟨⟨_, rfl, rfl⟩, ⟨_, rfl, rfl⟩, ⟨_, rfl, rfl⟩, ⟨_, rfl, rfl⟩, ⟨_, rfl, rfl⟩, trivial⟩
                · cbv
                  all_goals exact ⟨⟨_, rfl, _, rfl, rfl, rfl, rfl, rfl, rfl, trivial⟩, ⟨_, rfl, rfl⟩, trivial⟩
              · rintro ⟨⟨k2, v2, w2⟩, hk2, hi2, h_2⟩ hq2
                have hm2 := (hq2.1 87 _ _ rfl)
                try dsimp only at hk2 hi2 h_2
                clear hq2
                cbv
                by_cases hc2_ : k2 < a0_Inlets.length
                · have hb11 : lt v2 (llen (r_Inlet a0_Inlets)) = true := ltL_true_Inlet hg ht hi2 hc2_
                  have hs2 := stepL_Inlet hg ht hi2 hc2_ hm2
                  obtain ⟨z2, hz2⟩ := some_of_lt hc2_
                  rw [drop_of_some hz2] at h_2
                  rw [I_IsCentre_l2] at h_2
                  obtain ⟨z2_Cell, z2_Wait⟩ := z2
                  try rw [← hg] at h_2
                  try rw [← ht] at h_2
                  try dsimp only at h_2
                  rw [hb11]
                  cbv
                  refine AStep.mk (nn_L hi2) ?_
                  cbv
                  refine AGet.mk _ (r_getL_Inlet hg ht hi2 hz2) ?_
                  cbv
                  obtain ⟨x8, hx8, h_2⟩ := of_lP h_2
                  try dsimp only at h_2
                  refine ACall.mk _ _ rfl (hF _ _ _ (c_I_within hg ht hx8)) (.inl rfl) (Nat.le_of_ble_eq_true rfl) ?_
                  cbv
                  cases hb12 : x8 with
                  | true =>
                    rw [br_true hb12] at h_2
                    cbv
                    try (rw [hb12]; cbv)
                    try (rw [hb12]; cbv)
                    try (rw [hb12]; cbv)
                    try (rw [hb12]; cbv)
                    cases hb13 : (hasI w2 z2_Cell) with
                    | true =>
                      rw [br_true hb13] at h_2
                      cbv
                      try (rw [hb13]; cbv)
                      try (rw [hb13]; cbv)
                      try (rw [hb13]; cbv)
                      try (rw [hb13]; cbv)
                      subst h_2
                      try dsimp only [lr, lrL, lrp, lrpL] at h
                      obtain rfl := Option.some.inj h
                      exact ARet.mk trivial hX.symm
                    | false =>
                      rw [br_false hb13] at h_2
                      cbv
                      try (rw [hb13]; cbv)
                      try (rw [hb13]; cbv)
                      try (rw [hb13]; cbv)
                      try (rw [hb13]; cbv)
                      cases hb14 : (lt 20 (llen (r_Item z2_Wait))) with
                      | true =>
                        rw [br_true hb14] at h_2
                        cbv
                        subst h_2
                        try dsimp only [lr, lrL, lrp, lrpL] at h
                        obtain rfl := Option.some.inj h
                        exact ARet.mk trivial hX.symm
                      | false =>
                        rw [br_false hb14] at h_2
                        cbv
                        try rw [hg] at h_2
                        try rw [ht] at h_2
                        refine ⟨⟨(k2 + 1, (wrap .i64 (add v2 1)), (putI w2 z2_Cell)), hc2_, hs2, h_2⟩, Wk.of [(0, some 0), (1, some 1)] rfl rfl ?_ ?_, meas_L hc2_⟩
                        · cbv
                          all_goals exact ⟨⟨_, rfl, rfl⟩, ⟨_, rfl, rfl⟩, ⟨_, rfl, rfl⟩, ⟨_, rfl, rfl⟩, ⟨_, rfl, rfl⟩, trivial⟩
                        · cbv
                          all_goals exact ⟨⟨_, rfl, _, rfl, rfl, rfl, rfl, rfl, rfl, trivial⟩, ⟨_, rfl, rfl⟩, trivial⟩
                  | false =>
                    rw [br_false hb12] at h_2
                    cbv
                    try (rw [hb12]; cbv)
                    try (rw [hb12]; cbv)
                    try (rw [hb12]; cbv)
                    try (rw [hb12]; cbv)
                    subst h_2
                    try dsimp only [lr, lrL, lrp, lrpL] at h
                    obtain rfl := Option.some.inj h
                    exact ARet.mk trivial hX.symm
                · have hb11 : lt v2 (llen (r_Inlet a0_Inlets)) = false := ltL_false_Inlet hg ht hi2 hc2_
                  rw [List.drop_of_length_le (Nat.le_of_not_lt hc2_)] at h_2
                  rw [I_IsCentre_l2] at h_2
                  try rw [← hg] at h_2
                  try rw [← ht] at h_2
                  try dsimp only at h_2
                  rw [hb11]
                  cbv
                  refine ⟨(), Wk.of [(0, some 0)] rfl rfl ?_ ?_, h_2.symm⟩
                  · cbv
                    all_goals exact ⟨⟨_, rfl, rfl⟩, trivial⟩
                  · cbv
                    all_goals exact ⟨⟨_, rfl, _, rfl, rfl, rfl, rfl, rfl, rfl, trivial⟩, trivial⟩
              · rintro _ hy2
                replace hy2 := hy2.symm
                subst hy2
                try dsimp only [lr, lrL, lrp, lrpL] at h
                cbv
                obtain ⟨o3, ho3, h⟩ := of_lP h
                try dsimp only at h
                try rw [hg] at ho3
                try rw [ht] at ho3
                refine ABL.mk { p : Nat × Int // p.1 ≤ a0_Plan.length ∧ p.2 = ((p.1 : Nat) : Int) ∧ I_IsCentre_l3 G.real TE.real (Centre.mk a0_Belt a0_Chutes a0_Inlets a0_Plan a0_Now) (List.drop p.1 a0_Plan) = o3 } (fun ⟨⟨k3, v3⟩, _⟩ => ({ sl := [(1, .c (.p 0 5 0 0)), (118, .c (.r (.s 1 (r_I64 a0_Plan)))), (119, .c (.r (.v (.int .i64 (llen (r_I64 a0_Plan)))))), (120, .c (.r (.v (.int .i64 v3))))], tab := [(0, some (.foc 5 [] [.r (.s 2 (r_Item a0_Belt)), .r (.s 3 (r_Chute a0_Chutes)), .r (.s 2 (r_Inlet a0_Inlets)), .r (.s 1 (r_I64 a0_Plan)), .r (.v (.int .i64 a0_Now))] []))] } : St)) 1 (fun p => a0_Plan.length - p.1.1) ⟨(0, 0), Nat.zero_le _, rfl, ho3⟩ (Unit) (fun _ => ({ sl := [(1, .c (.p 0 5 0 0))], tab := [(0, some (.foc 5 [] [.r (.s 2 (r_Item a0_Belt)), .r (.s 3 (r_Chute a0_Chutes)), .r (.s 2 (r_Inlet a0_Inlets)), .r (.s 1 (r_I64 a0_Plan)), .r (.v (.int .i64 a0_Now))] []))] } : St)) 1 (fun y => o3 = LR.out y) ?_ ?_ ?_
                · refine Wk.of [(0, some 0)] rfl rfl ?_ ?_
                  · cbv
                    all_goals exact ⟨⟨_, rfl, rfl⟩, ⟨_, rfl, rfl⟩, ⟨_, rfl, rfl⟩, ⟨_, rfl, rfl⟩, trivial⟩
                  · cbv
                    all_goals exact ⟨⟨_, rfl, _, rfl, rfl, rfl, rfl, rfl, rfl, trivial⟩, trivial⟩
                · rintro ⟨⟨k3, v3⟩, hk3, hi3, h_3⟩ hq3
                  have hm3 := (hq3.1 118 _ _ rfl)
                  try dsimp only at hk3 hi3 h_3
                  clear hq3
                  cbv
                  by_cases hc3_ : k3 < a0_Plan.length
                  · have hb15 : lt v3 (llen (r_I64 a0_Plan)) = true := ltL_true_I64 hg ht hi3 hc3_
                    have hs3 := stepL_I64 hg ht hi3 hc3_ hm3
                    obtain ⟨z3, hz3⟩ := some_of_lt hc3_
                    rw [drop_of_some hz3] at h_3
                    rw [I_IsCentre_l3] at h_3
                    try rw [← hg] at h_3
                    try rw [← ht] at h_3
                    try dsimp only at h_3
                    rw [hb15]
                    cbv
                    refine AStep.mk (nn_L hi3) ?_
                    cbv
                    refine AGet.mk _ (r_getL_I64 hg ht hi3 hz3) ?_
                    cbv
                    obtain ⟨x9, hx9, h_3⟩ := of_lP h_3
                    try dsimp only at h_3
                    refine ACall.mk _ _ rfl (hF _ _ _ (c_I_within hg ht hx9)) (.inl rfl) (Nat.le_of_ble_eq_true rfl) ?_
                    cbv
                    cases hb16 : x9 with
                    | true =>
                      rw [br_true hb16] at h_3
                      cbv
                      try rw [hg] at h_3
                      try rw [ht] at h_3
                      refine ⟨⟨(k3 + 1, (wrap .i64 (add v3 1))), hc3_, hs3, h_3⟩, Wk.of [(0, some 0)] rfl rfl ?_ ?_, meas_L hc3_⟩
                      · cbv
                        all_goals exact ⟨⟨_, rfl, rfl⟩, ⟨_, rfl, rfl⟩, ⟨_, rfl, rfl⟩, ⟨_, rfl, rfl⟩, trivial⟩
                      · cbv
                        all_goals exact ⟨⟨_, rfl, _, rfl, rfl, rfl, rfl, rfl, rfl, trivial⟩, trivial⟩
                    | false =>
                      rw [br_false hb16] at h_3
                      cbv
                      subst h_3
                      try dsimp only [lr, lrL, lrp, lrpL] at h
                      obtain rfl := Option.some.inj h
                      exact ARet.mk trivial hX.symm
                  · have hb15 : lt v3 (llen (r_I64 a0_Plan)) = false := ltL_false_I64 hg ht hi3 hc3_
                    rw [List.drop_of_length_le (Nat.le_of_not_lt hc3_)] at h_3
                    rw [I_IsCentre_l3] at h_3
                    try rw [← hg] at h_3
                    try rw [← ht] at h_3
                    try dsimp only at h_3
                    rw [hb15]
                    cbv
                    refine ⟨(), Wk.of [(0, some 0)] rfl rfl ?_ ?_, h_3.symm⟩
                    · cbv
                      all_goals exact ⟨⟨_, rfl, rfl⟩, trivial⟩
                    · cbv
                      all_goals exact ⟨⟨_, rfl, _, rfl, rfl, rfl, rfl, rfl, rfl, trivial⟩, trivial⟩
                · rintro _ hy3
                  replace hy3 := hy3.symm
                  subst hy3
                  try dsimp only [lr, lrL, lrp, lrpL] at h
                  cbv
                  obtain ⟨x10, hx10, h⟩ := of_cl h
                  try dsimp only at h
                  refine ACall.mk _ _ rfl (hF _ _ _ (c_I_everyItem hg ht hx10)) (.inl rfl) (Nat.le_of_ble_eq_true rfl) ?_
                  cbv
                  obtain ⟨hB4, h⟩ := of_gd h
                  obtain ⟨o4, ho4, h⟩ := of_cl h
                  try dsimp only at h
                  try rw [hg] at ho4
                  try rw [ht] at ho4
                  refine ABL.mk { p : Nat × Int × List Int // p.1 = cntLt p.2.1 (int (dlen (d_Item x10))) ∧ 0 ≤ p.2.1 ∧ I_IsCentre_l4 G.real TE.real (Centre.mk a0_Belt a0_Chutes a0_Inlets a0_Plan a0_Now) x10 p.1 p.2.1 p.2.2 = some o4 } (fun ⟨⟨n4, v4, w3⟩, _⟩ => ({ sl := [(1, .c (.p 0 5 0 0)), (10, .c (.m 1)), (134, .c (.f 2 2 0 (dlen (d_Item x10)))), (135, .c (.r (.v (.int .i64 (int (dlen (d_Item x10))))))), (136, .c (.r (.v (.int .i64 v4))))], tab := [(0, some (.foc 5 [] [.r (.s 2 (r_Item a0_Belt)), .r (.s 3 (r_Chute a0_Chutes)), .r (.s 2 (r_Inlet a0_Inlets)), .r (.s 1 (r_I64 a0_Plan)), .r (.v (.int .i64 a0_Now))] [])), (1, some (.mi w3)), (2, some (.arr 2 (d_Item x10)))] } : St)) 3 (fun p => p.1.1) ⟨(cntLt 0 (int (dlen (d_Item x10))), 0, []), rfl, Int.le_refl _, ho4⟩ (Unit) (fun _ => ({ sl := [], tab := [] } : St)) 0 (fun y => o4 = LR.out y) ?_ ?_ ?_
                  · refine Wk.of [(0, some 0), (1, some 1), (2, some 49)] rfl rfl ?_ ?_
                    · cbv
                      all_goals exact ⟨⟨_, rfl, rfl⟩, ⟨_, rfl, rfl⟩, ⟨_, rfl, rfl⟩, ⟨_, rfl, rfl⟩, ⟨_, rfl, rfl⟩, trivial⟩
                    · cbv
                      all_goals exact ⟨⟨_, rfl, _, rfl, rfl, rfl, rfl, rfl, rfl, trivial⟩, ⟨_, rfl, rfl⟩, ⟨_, rfl, rfl⟩, trivial⟩
                  · rintro ⟨⟨n4, v4, w3⟩, hn4, hi4, h_4⟩ hq4
                    try dsimp only at hn4 hi4 h_4
                    clear hq4
                    cbv
                    rcases n4 with _ | n4
                    · have hb17 : lt v4 (int (dlen (d_Item x10))) = false := ltC_false hg hn4
                      rw [I_IsCentre_l4] at h_4
                      try rw [← hg] at h_4
                      try rw [← ht] at h_4
                      try dsimp only at h_4
                      rw [hb17]
                      cbv
                      refine ⟨(), Wk.of [] rfl rfl ?_ ?_, (Option.some.inj h_4).symm⟩
                      · cbv
                        all_goals exact trivial
                      · cbv
                        all_goals exact trivial
                    · have hb17 : lt v4 (int (dlen (d_Item x10))) = true := ltC_true hg hn4
                      have hl4 := ltC_le hn4
                      have hs4 := stepltC hg hn4 hi4 hB4 (by decide)
                      rw [I_IsCentre_l4] at h_4
                      try rw [← hg] at h_4
                      try rw [← ht] at h_4
                      try dsimp only at h_4
                      rw [hb17]
                      cbv
                      refine AStep.mk (rg_int hg hi4 hl4) ?_
                      cbv
                      obtain ⟨x11, hx11, h_4⟩ := of_gt h_4
                      obtain ⟨x11_Id, x11_Dest⟩ := x11
                      try dsimp only at h_4
                      refine AGet.mk _ (d_get_Item hg ht hx11) ?_
                      cbv
                      obtain ⟨x12, hx12, h_4⟩ := of_lP h_4
                      try dsimp only at h_4
                      refine ACall.mk _ _ rfl (hF _ _ _ (c_I_within hg ht hx12)) (.inl rfl) (Nat.le_of_ble_eq_true rfl) ?_
                      cbv
                      cases hb18 : x12 with
                      | true =>
                        rw [br_true hb18] at h_4
                        cbv
                        try (rw [hb18]; cbv)
                        try (rw [hb18]; cbv)
                        try (rw [hb18]; cbv)
                        try (rw [hb18]; cbv)
                        try (rw [hb18]; cbv)
                        try (rw [hb18]; cbv)
                        obtain ⟨x13, hx13, h_4⟩ := of_lP h_4
                        try dsimp only at h_4
                        refine ACall.mk _ _ rfl (hF _ _ _ (c_I_within hg ht hx13)) (.inl rfl) (Nat.le_of_ble_eq_true rfl) ?_
                        cbv
                        try (rw [hb18]; cbv)
                        try (rw [hb18]; cbv)
                        cases hb19 : x13 with
                        | true =>
                          rw [br_true hb19] at h_4
                          cbv
                          try (rw [hb19]; cbv)
                          try (rw [hb19]; cbv)
                          try (rw [hb19]; cbv)
                          try (rw [hb19]; cbv)
                          cases hb20 : (hasI w3 x11_Id) with
                          | true =>
                            rw [br_true hb20] at h_4
                            cbv
                            obtain rfl := Option.some.inj h_4
                            try dsimp only [lr, lrL, lrp, lrpL] at h
                            obtain rfl := Option.some.inj h
                            exact ARet.mk trivial hX.symm
                          | false =>
                            rw [br_false hb20] at h_4
                            cbv
                            try rw [hg] at h_4
                            try rw [ht] at h_4
                            refine ⟨⟨(n4, (wrap .i64 (add v4 1)), (putI w3 x11_Id)), hs4.1, hs4.2, h_4⟩, Wk.of [(0, some 0), (1, some 1), (2, some 2)] rfl rfl ?_ ?_, Nat.lt_succ_self _⟩
                            · cbv
                              all_goals exact ⟨⟨_, rfl, rfl⟩, ⟨_, rfl, rfl⟩, ⟨_, rfl, rfl⟩, ⟨_, rfl, rfl⟩, ⟨_, rfl, rfl⟩, trivial⟩
                            · cbv
                              all_goals exact ⟨⟨_, rfl, _, rfl, rfl, rfl, rfl, rfl, rfl, trivial⟩, ⟨_, rfl, rfl⟩, ⟨_, rfl, rfl⟩, trivial⟩
                        | false =>
                          rw [br_false hb19] at h_4
                          cbv
                          try (rw [hb19]; cbv)
                          try (rw [hb19]; cbv)
                          try (rw [hb19]; cbv)
                          try (rw [hb19]; cbv)
                          obtain rfl := Option.some.inj h_4
                          try dsimp only [lr, lrL, lrp, lrpL] at h
                          obtain rfl := Option.some.inj h
                          exact ARet.mk trivial hX.symm
                      | false =>
                        rw [br_false hb18] at h_4
                        cbv
                        try (rw [hb18]; cbv)
                        try (rw [hb18]; cbv)
                        try (rw [hb18]; cbv)
                        try (rw [hb18]; cbv)
                        try (rw [hb18]; cbv)
                        try (rw [hb18]; cbv)
                        try (rw [hb18]; cbv)
                        try (rw [hb18]; cbv)
                        obtain rfl := Option.some.inj h_4
                        try dsimp only [lr, lrL, lrp, lrpL] at h
                        obtain rfl := Option.some.inj h
                        exact ARet.mk trivial hX.symm
                  · rintro _ hy4
                    replace hy4 := hy4.symm
                    subst hy4
                    try dsimp only [lr, lrL, lrp, lrpL] at h
                    cbv
                    obtain rfl := Option.some.inj h
                    exact ARet.mk trivial hX.symm
          | false =>
            rw [br_false hb5] at h
            cbv
            obtain rfl := Option.some.inj h
            exact ARet.mk trivial hX.symm
        | false =>
          rw [br_false hb4] at h
          cbv
          try (rw [hb4]; cbv)
          try (rw [hb4]; cbv)
          try (rw [hb4]; cbv)
          try (rw [hb4]; cbv)
          obtain rfl := Option.some.inj h
          exact ARet.mk trivial hX.symm
      | false =>
        rw [br_false hb3] at h
        cbv
        try (rw [hb3]; cbv)
        try (rw [hb3]; cbv)
        try (rw [hb3]; cbv)
        try (rw [hb3]; cbv)
        try (rw [hb3]; cbv)
        obtain rfl := Option.some.inj h
        exact ARet.mk trivial hX.symm
    | false =>
      rw [br_false hb2] at h
      cbv
      try (rw [hb2]; cbv)
      try (rw [hb2]; cbv)
      try (rw [hb2]; cbv)
      try (rw [hb2]; cbv)
      try (rw [hb2]; cbv)
      obtain rfl := Option.some.inj h
      exact ARet.mk trivial hX.symm
  | false =>
    rw [br_false hb1] at h
    cbv
    try (rw [hb1]; cbv)
    try (rw [hb1]; cbv)
    try (rw [hb1]; cbv)
    try (rw [hb1]; cbv)
    try (rw [hb1]; cbv)
    obtain rfl := Option.some.inj h
    exact ARet.mk trivial hX.symm
end Go.Vs
namespace Go.Proofs
open Go.RowKit Go.Sort
set_option maxHeartbeats 2000000
set_option maxRecDepth 100000
def Try.lays191_ren : Go.Shelf.Ren := ⟨fun | 191 => 111 | 189 => 120 | 125 => 122 | 257 => 121 | 128 => 132 | 129 => 133 | 294 => 123 | 295 => 124 | 296 => 125 | 297 => 126 | 298 => 127 | 299 => 128 | 216 => 129 | 300 => 130 | 301 => 131 | 328 => 134 | 329 => 135 | 330 => 136 | 331 => 137 | 332 => 138 | 215 => 139 | 343 => 140 | n => n, fun | 28 => 25 | 0 => 0 | 3 => 3 | 46 => 118 | 51 => 131 | 53 => 133 | 4 => 4 | 183 => 123 | 182 => 122 | 131 => 128 | 5 => 5 | 9 => 9 | 218 => 134 | 222 => 138 | 228 => 141 | 229 => 62 | n => n, fun | n => n⟩
theorem Try.lays191 : Go.Proofs.Lays.n191 Try.prog Try.lays191_ren := {
  mixed := by kernel_rfl
  f125 := Try.func122.trans (congrArg some (by kernel_rfl))
  f128 := Try.func132.trans (congrArg some (by kernel_rfl))
  f129 := Try.func133.trans (congrArg some (by kernel_rfl))
  f189 := Try.func120.trans (congrArg some (by kernel_rfl))
  f191 := Try.func111.trans (congrArg some (by kernel_rfl))
  f215 := Try.func139.trans (congrArg some (by kernel_rfl))
  f216 := Try.func129.trans (congrArg some (by kernel_rfl))
  f257 := Try.func121.trans (congrArg some (by kernel_rfl))
  f294 := Try.func123.trans (congrArg some (by kernel_rfl))
  f295 := Try.func124.trans (congrArg some (by kernel_rfl))
  f296 := Try.func125.trans (congrArg some (by kernel_rfl))
  f297 := Try.func126.trans (congrArg some (by kernel_rfl))
  f298 := Try.func127.trans (congrArg some (by kernel_rfl))
  f299 := Try.func128.trans (congrArg some (by kernel_rfl))
  f300 := Try.func130.trans (congrArg some (by kernel_rfl))
  f301 := Try.func131.trans (congrArg some (by kernel_rfl))
  f328 := Try.func134.trans (congrArg some (by kernel_rfl))
  f329 := Try.func135.trans (congrArg some (by kernel_rfl))
  f330 := Try.func136.trans (congrArg some (by kernel_rfl))
  f331 := Try.func137.trans (congrArg some (by kernel_rfl))
  f332 := Try.func138.trans (congrArg some (by kernel_rfl))
  f343 := Try.func140.trans (congrArg some (by kernel_rfl))
  t0 := Try.underlying0
  a0 := Try.isAgg0
  z0 := Try.sizeOf0
  v0 := Try.zeroValue0
  t3 := Try.underlying3
  a3 := Try.isAgg3
  z3 := Try.sizeOf3
  v3 := Try.zeroValue3
  t4 := Try.underlying4
  a4 := Try.isAgg4
  z4 := Try.sizeOf4
  v4 := Try.zeroValue4
  t5 := Try.underlying5
  a5 := Try.isAgg5
  z5 := Try.sizeOf5
  v5 := Try.zeroValue5
  t9 := Try.underlying9
  a9 := Try.isAgg9
  z9 := Try.sizeOf9
  v9 := Try.zeroValue9
  t28 := Try.underlying25
  a28 := Try.isAgg25
  z28 := Try.sizeOf25
  v28 := Try.zeroValue25
  t46 := Try.underlying118
  a46 := Try.isAgg118
  z46 := Try.sizeOf118
  v46 := Try.zeroValue118
  t51 := Try.underlying131
  a51 := Try.isAgg131
  z51 := Try.sizeOf131
  v51 := Try.zeroValue131
  t53 := Try.underlying133
  a53 := Try.isAgg133
  z53 := Try.sizeOf133
  v53 := Try.zeroValue133
  t131 := Try.underlying128
  a131 := Try.isAgg128
  z131 := Try.sizeOf128
  v131 := Try.zeroValue128
  t182 := Try.underlying122
  a182 := Try.isAgg122
  z182 := Try.sizeOf122
  v182 := Try.zeroValue122
  t183 := Try.underlying123
  a183 := Try.isAgg123
  z183 := Try.sizeOf123
  v183 := Try.zeroValue123
  t218 := Try.underlying134
  a218 := Try.isAgg134
  z218 := Try.sizeOf134
  v218 := Try.zeroValue134
  t222 := Try.underlying138
  a222 := Try.isAgg138
  z222 := Try.sizeOf138
  v222 := Try.zeroValue138
  t228 := Try.underlying141
  a228 := Try.isAgg141
  z228 := Try.sizeOf141
  v228 := Try.zeroValue141
  t229 := Try.underlying62
  a229 := Try.isAgg62
  z229 := Try.sizeOf62
  v229 := Try.zeroValue62 }
theorem Try.ins_nil (p : Option Addr) (cap : Nat) (w : World) :
    Calls Try.prog 123 #[.slice p 0 cap, .int .i64 0, .int .i64 0] w fun e w' => e = .returned (.tuple #[]) ∧ w' = w := by
  go_enter Try.func123, Try.ntmps123
  go_wp2
  refine wp_loop_rounds 1 ?_
  rw [rounds_succ]
  go_wp2
  go_end0
  exact ⟨rfl, rfl⟩
theorem Try.pdq_nil (p : Option Addr) (cap : Nat) (w : World) :
    Calls Try.prog 121 #[.slice p 0 cap, .int .i64 0, .int .i64 0, .int .i64 0] w fun e w' => e = .returned (.tuple #[]) ∧ w' = w := by
  go_enter Try.func121, Try.ntmps121
  go_wp2
  refine wp_loop_rounds 1 ?_
  rw [rounds_succ]
  go_wp2_with (first | (go_at_call 123; refine (Try.ins_nil p cap _).mono ?_; rintro e w' ⟨rfl, rfl⟩))
  refine bodyPost_ret (results_none rfl _ _ _) rfl ?_
  exact ⟨rfl, rfl⟩
theorem Try.sort_nil (p : Option Addr) (cap : Nat) (w : World) :
    Calls Try.prog 120 #[.slice p 0 cap] w fun e w' => e = .returned (.tuple #[]) ∧ w' = w := by
  have hLen : ∀ w, Calls Try.prog 122 #[.int .u64 0] w fun e w' => e = .returned (.int .i64 0) ∧ w' = w := fun w => calls_of_every_depth fun D => AnyS.bits_LenIn { Try.lays191 with } D 0 w (by omega) (by omega)
  go_enter Try.func120, Try.ntmps120
  go_wp2_with (first
    | (go_at_call 122; refine (hLen _).mono ?_; rintro e w' ⟨rfl, rfl⟩)
    | (go_at_call 121; refine (Try.pdq_nil p cap _).mono ?_; rintro e w' ⟨rfl, rfl⟩))
  go_end0
  exact ⟨rfl, rfl⟩
theorem Try.ints_nil (p : Option Addr) (cap : Nat) (w : World) :
    Calls Try.prog 111 #[.slice p 0 cap] w fun e w' => e = .returned (.tuple #[]) ∧ w' = w := by
  go_enter Try.func111, Try.ntmps111
  go_wp2_with (first | (go_at_call 120; refine (Try.sort_nil p cap _).mono ?_; rintro e w' ⟨rfl, rfl⟩))
  go_end0
  exact ⟨rfl, rfl⟩
end Go.Proofs
namespace Go.Vs
open Go.Proofs Go.RowKit
set_option linter.unusedVariables false
def X_sort_Ints (g : G) (t : TE) (a0 : List Int) : Option (List Int) := gd (a0.length < 4611686018427387904) <| some (srt a0)
theorem c_X_sort_Ints {g : G} {t : TE} {a0 r : List Int} (hg : g = G.real) (ht : t = TE.real) (h : X_sort_Ints g t a0 = some r) : FnM Try.prog 111 (.m (.o 1 (t.d_I64 a0))) [] (.u []) (.m (.o 1 (t.d_I64 r))) := by
  obtain ⟨hl, h⟩ := of_gd h
  cases h
  subst ht
  exact fnM_sort a0 hl (fun blk cap w hH hb => calls_of_every_depth fun D => AnyS.sort_Ints_in Try.lays191 D blk 0 cap a0 w hH hb hl) (fun e w => Try.ints_nil none 0 w)
end Go.Vs
namespace Go.Vs
set_option maxRecDepth 100000
def ir73 : J :=
  .seq (.reg none [⟨(some 1), none, .box (.t 0)⟩,
     ⟨(some 2), none, .mv (.k (.c (.n 1)))⟩] [1])
  (.seq (.reg none [⟨(some 6), none, .bsl 1 []⟩,
     ⟨(some 3), none, .mv (.t 6)⟩] [1, 3])
  (.seq (.seq (.reg none [⟨(some 7), none, .ld true 5 (.t 1)⟩,
      ⟨(some 8), none, .call 32 true [(.t 7)]⟩,
      ⟨(some 9), none, .not (.t 8)⟩] [1, 3, 9])
   (.cond (.t 9)
    (.seq (.reg none [⟨(some 10), none, .mv (.t 3)⟩,
        ⟨(some 2), none, .mv (.t 10)⟩] [2])
     (.ret))
    (.skip)))
  (.seq (.seq (.reg none [⟨(some 11), none, .ld true 5 (.t 1)⟩,
      ⟨(some 12), none, .call 90 true [(.t 11)]⟩,
      ⟨(some 13), none, .len false (.t 12)⟩,
      ⟨(some 14), none, .mv (.k (V.i 0))⟩] [3, 12, 13, 14])
   (.bl 0 (.seq (.reg none [⟨(some 15), none, .bin .lss .i (.t 14) (.t 13)⟩] [3, 12, 13, 14, 15])
    (.seq (.cond (.t 15)
      (.skip)
      (.exit 0))
    (.seq (.block 1 (.seq (.reg none [⟨(some 16), none, .ia 2 (.t 12) (.t 14)⟩,
         ⟨(some 17), none, .ld true 2 (.t 16)⟩,
         ⟨(some 5), none, .alloc [.r (.v (.int .i64 0)), .r (.v (.int .i64 0))]⟩,
         ⟨none, none, .st 2 (.t 5) (.t 17)⟩] [3, 5, 12, 13, 14])
      (.reg none [⟨(some 18), none, .mv (.t 3)⟩,
        ⟨(some 19), none, .fa 0 (.t 5)⟩,
        ⟨(some 20), none, .ld false 1 (.t 19)⟩,
        ⟨(some 21), none, .bsl 1 [(.t 20)]⟩,
        ⟨(some 22), none, .app 1 8 true (.t 18) (.t 21)⟩,
        ⟨(some 3), none, .mv (.t 22)⟩] [3, 12, 13, 14])))
    (.reg none [⟨(some 23), none, .bin .add .i (.t 14) (.k (V.i 1))⟩,
      ⟨(some 14), none, .mv (.t 23)⟩] [3, 12, 13, 14]))))))
  (.seq (.reg none [⟨(some 24), none, .mv (.t 3)⟩,
     ⟨(some 25), none, .callm 111 (.t 24) []⟩] [3])
  (.seq (.reg none [⟨(some 26), none, .mv (.t 3)⟩,
     ⟨(some 2), none, .mv (.t 26)⟩] [2])
  (.ret))))))
def rv73 : List RV := [.t 2]
open Go.Proofs Go.IntWalk
set_option linter.unusedVariables false
set_option maxRecDepth 100000
set_option maxHeartbeats 4000000
def I_ItemsIn_l1 (g : G) (t : TE) (x2 : List Item) : Nat → Int → List Int → Option (List Int)
  | 0, v1, w1 =>
    some w1
  | n1 + 1, v1, w1 =>
    gt x2 (g.nat v1) fun x3 =>
    lP ([x3.Id]) fun (l2 : List Int) =>
    gd (((w1.length + l2.length) * 8 ≤ 70368744177664)) <|
    lP (w1 ++ l2) fun (l3 : List Int) =>
    I_ItemsIn_l1 g t x2 n1 (g.wrap .i64 (g.add v1 1)) l3
def I_ItemsIn (g : G) (t : TE) (a0 : Centre) : Option (List Int) :=
  lP ([]) fun (l1 : List Int) =>
  cl (I_IsCentre g t a0) fun x1 =>
  br x1
  (
   cl (I_everyItem g t a0) fun x2 =>
   gd (((g.int (g.dlen (t.d_Item x2))) ≤ 4611686018427387904)) <|
   cl (I_ItemsIn_l1 g t x2 (cntLt 0 (g.int (g.dlen (t.d_Item x2)))) 0 l1) fun y1 =>
   cl (X_sort_Ints g t y1) fun x4 =>
   gd ((x4.length = y1.length)) <|
   some x4)
  (
   some l1)
theorem fit73 : codeFit Try.prog Try.f73.ntmps (Try.f73.body.getD .skip) ir73 = true := by kernel_rfl
theorem c_I_ItemsIn {g : G} {t : TE} {a0 : Centre} {r : List Int} (hg : g = G.real) (ht : t = TE.real) (h : I_ItemsIn g t a0 = some r) : Fn Try.prog 73 [.g (Centre.rs t a0)] (.c (.o 1 (t.d_I64 r))) := by
  obtain ⟨X, hX⟩ := hide (.c (.o 1 (t.d_I64 r)) : X)
  rw [← hX]
  refine fn_of (rvs := rv73) (j := ir73) Try.func73 rfl fit73 (Nat.le_of_ble_eq_true rfl) (by kernel_rfl) prog_mixed ?_
  intro g2 F hg2 hF
  obtain rfl : g2 = g := hg2.unique.trans hg.symm
  clear hg2
  obtain ⟨wrap, lt, le, eq, quo, rem, band, bor, bxor, shl, shr, nat, int, add, sub, mul, cat, seq, slt, sub3, byte, llen, nadd, nsub, dlen, dapp, dset, drep, rd, rda, up, rsub, dsub, all, sle, slen, hasI, putI, hasS, putS, imin, imax, fzc⟩ := g2
  obtain ⟨r_Item, d_Item, r_Chute, d_Chute, r_Inlet, d_Inlet, r_I64, d_I64, r_U8, d_U8, d_InletF⟩ := t
  obtain ⟨a0_Belt, a0_Chutes, a0_Inlets, a0_Plan, a0_Now⟩ := a0
  unfold I_ItemsIn at h
  try dsimp only at h
  cbv
  obtain ⟨l1, hl1, h⟩ := of_lP h
  try dsimp only at h
  refine ANew.mk (d_I64 l1) (dlen (d_I64 l1)) (by rw [← hl1]; exact lit_I64 hg ht []) (by rw [← hl1]; exact litn_I64 hg ht []) ?_
  cbv
  obtain ⟨x1, hx1, h⟩ := of_cl h
  try dsimp only at h
  refine ACall.mk _ _ rfl (hF _ _ _ (c_I_IsCentre hg ht hx1)) (.inl rfl) (Nat.le_of_ble_eq_true rfl) ?_
  cbv
  cases hb1 : x1 with
  | true =>
    rw [br_true hb1] at h
    cbv
    obtain ⟨x2, hx2, h⟩ := of_cl h
    try dsimp only at h
    refine ACall.mk _ _ rfl (hF _ _ _ (c_I_everyItem hg ht hx2)) (.inl rfl) (Nat.le_of_ble_eq_true rfl) ?_
    cbv
    obtain ⟨hB1, h⟩ := of_gd h
    obtain ⟨o1, ho1, h⟩ := of_cl h
    try dsimp only at h
    try rw [hg] at ho1
    try rw [ht] at ho1
    refine ABL.mk { p : Nat × Int × List Int // p.1 = cntLt p.2.1 (int (dlen (d_Item x2))) ∧ 0 ≤ p.2.1 ∧ I_ItemsIn_l1 G.real TE.real x2 p.1 p.2.1 p.2.2 = some o1 } (fun ⟨⟨n1, v1, w1⟩, _⟩ => ({ sl := [(3, .c (.f 0 1 0 (dlen (d_I64 w1)))), (12, .c (.f 1 2 0 (dlen (d_Item x2)))), (13, .c (.r (.v (.int .i64 (int (dlen (d_Item x2))))))), (14, .c (.r (.v (.int .i64 v1))))], tab := [(0, some (.arr 1 (d_I64 w1))), (1, some (.arr 2 (d_Item x2)))] } : St)) 2 (fun p => p.1.1) ⟨(cntLt 0 (int (dlen (d_Item x2))), 0, l1), rfl, Int.le_refl _, ho1⟩ (List Int) (fun y1 => ({ sl := [(3, .c (.f 0 1 0 (dlen (d_I64 y1))))], tab := [(0, some (.arr 1 (d_I64 y1)))] } : St)) 1 (fun y => o1 = y) ?_ ?_ ?_
    · refine Wk.of [(0, some 32), (1, some 128)] rfl rfl ?_ ?_
      · cbv
        all_goals exact ⟨⟨_, rfl, rfl⟩, ⟨_, rfl, rfl⟩, ⟨_, rfl, rfl⟩, ⟨_, rfl, rfl⟩, trivial⟩
      · cbv
        all_goals exact ⟨⟨_, rfl, rfl⟩, ⟨_, rfl, rfl⟩, trivial⟩
    · rintro ⟨⟨n1, v1, w1⟩, hn1, hi1, h_1⟩ hq1
      try dsimp only at hn1 hi1 h_1
      clear hq1
      cbv
      rcases n1 with _ | n1
      · have hb2 : lt v1 (int (dlen (d_Item x2))) = false := ltC_false hg hn1
        rw [I_ItemsIn_l1] at h_1
        try rw [← hg] at h_1
        try rw [← ht] at h_1
        try dsimp only at h_1
        rw [hb2]
        cbv
        refine ⟨w1, Wk.of [(0, some 0)] rfl rfl ?_ ?_, (Option.some.inj h_1).symm⟩
        · cbv
          all_goals exact ⟨⟨_, rfl, rfl⟩, trivial⟩
        · cbv
          all_goals exact ⟨⟨_, rfl, rfl⟩, trivial⟩
      · have hb2 : lt v1 (int (dlen (d_Item x2))) = true := ltC_true hg hn1
        have hl1 := ltC_le hn1
        have hs1 := stepltC hg hn1 hi1 hB1 (by decide)
        rw [I_ItemsIn_l1] at h_1
        try rw [← hg] at h_1
        try rw [← ht] at h_1
        try dsimp only at h_1
        rw [hb2]
        cbv
        refine AStep.mk (rg_int hg hi1 hl1) ?_
        cbv
        obtain ⟨x3, hx3, h_1⟩ := of_gt h_1
        obtain ⟨x3_Id, x3_Dest⟩ := x3
        try dsimp only at h_1
        refine AGet.mk _ (d_get_Item hg ht hx3) ?_
        cbv
        obtain ⟨l2, hl2, h_1⟩ := of_lP h_1
        try dsimp only at h_1
        refine ANew.mk (d_I64 l2) (dlen (d_I64 l2)) (by rw [← hl2]; exact lit_I64 hg ht [x3_Id]) (by rw [← hl2]; exact litn_I64 hg ht [x3_Id]) ?_
        cbv
        obtain ⟨hc1, h_1⟩ := of_gd h_1
        refine AStep.mk ⟨⟨rfl, (dlen_I64 hg ht _)⟩, (app_ok_I64 hg ht (dlen_I64 hg ht _) rfl hc1)⟩ ?_
        cbv
        obtain ⟨l3, hl3, h_1⟩ := of_lP h_1
        try dsimp only at h_1
        refine ANew.mk (d_I64 l3) (dlen (d_I64 l3)) (by rw [← hl3]; exact app_I64 hg ht (dlen_I64 hg ht _) rfl) (by rw [← hl3]; exact appl_I64 hg ht (dlen_I64 hg ht _) rfl) ?_
        cbv
        try rw [hg] at h_1
        try rw [ht] at h_1
        refine ⟨⟨(n1, (wrap .i64 (add v1 1)), l3), hs1.1, hs1.2, h_1⟩, Wk.of [(0, some 146), (1, some 1)] rfl rfl ?_ ?_, Nat.lt_succ_self _⟩
        · cbv
          all_goals exact ⟨⟨_, rfl, rfl⟩, ⟨_, rfl, rfl⟩, ⟨_, rfl, rfl⟩, ⟨_, rfl, rfl⟩, trivial⟩
        · cbv
          all_goals exact ⟨⟨_, rfl, rfl⟩, ⟨_, rfl, rfl⟩, trivial⟩
    · rintro y1 hy1
      replace hy1 := hy1.symm
      subst hy1
      try dsimp only [lr, lrL, lrp, lrpL] at h
      cbv
      refine AStep.mk ⟨rfl, (dlen_I64 hg ht _)⟩ ?_
      cbv
      obtain ⟨x4, hx4, h⟩ := of_cl h
      try dsimp only at h
      refine ACallM.mk _ _ _ _ rfl rfl (hF _ _ _ (c_X_sort_Ints hg ht hx4)) rfl (Nat.le_of_ble_eq_true rfl) (Nat.le_of_ble_eq_true rfl) ?_
      cbv
      obtain ⟨hc2, h⟩ := of_gd h
      obtain rfl := Option.some.inj h
      exact ARet.mk ⟨rfl, (lenp_I64 ht (dlen_I64 hg ht _) hc2)⟩ hX.symm
  | false =>
    rw [br_false hb1] at h
    cbv
    obtain rfl := Option.some.inj h
    exact ARet.mk ⟨rfl, (dlen_I64 hg ht _)⟩ hX.symm
end Go.Vs
namespace Go.Vs
set_option maxRecDepth 100000
def ir85 : J :=
  .seq (.reg none [⟨(some 6), none, .mv (.k (V.b false))⟩] [0, 1, 2])
  (.seq (.reg none [⟨(some 7), none, .mv (.t 0)⟩,
     ⟨(some 8), none, .mv (.t 1)⟩,
     ⟨(some 9), none, .bin .geq .i (.t 7) (.t 8)⟩,
     ⟨(some 10), none, .mv (.t 9)⟩,
     ⟨(some 11), (some (10, true)), .mv (.t 0)⟩,
     ⟨(some 12), (some (10, true)), .mv (.t 2)⟩,
     ⟨(some 13), (some (10, true)), .bin .leq .i (.t 11) (.t 12)⟩,
     ⟨(some 14), none, .pick (.t 10) (.t 13) (.k (V.b false))⟩,
     ⟨(some 6), none, .mv (.t 14)⟩] [6])
  (.ret))
def rv85 : List RV := [.t 6]
open Go.Proofs Go.IntWalk
set_option linter.unusedVariables false
set_option maxRecDepth 100000
set_option maxHeartbeats 4000000
def S_l1In (g : G) (t : TE) (a0 : Int) (a1 : Int) (a2 : Int) : Bool :=
  br (g.le a1 a0)
  (
   (g.le a0 a2))
  (
   false)
theorem fit85 : codeFit Try.prog Try.f85.ntmps (Try.f85.body.getD .skip) ir85 = true := by kernel_rfl
theorem c_S_l1In {g : G} {t : TE} {a0 : Int} {a1 : Int} {a2 : Int} {r : Bool} (hg : g = G.real) (ht : t = TE.real) (h : S_l1In g t a0 a1 a2 = r) : Fn Try.prog 85 [.c (.v (.int .i64 a0)), .c (.v (.int .i64 a1)), .c (.v (.int .i64 a2))] (.c (.r (.v (.bool r)))) := by
  obtain ⟨X, hX⟩ := hide (.c (.r (.v (.bool r))) : X)
  rw [← hX]
  refine fn_of (rvs := rv85) (j := ir85) Try.func85 rfl fit85 (Nat.le_of_ble_eq_true rfl) (by kernel_rfl) prog_mixed ?_
  intro g2 F hg2 hF
  obtain rfl : g2 = g := hg2.unique.trans hg.symm
  clear hg2
  obtain ⟨wrap, lt, le, eq, quo, rem, band, bor, bxor, shl, shr, nat, int, add, sub, mul, cat, seq, slt, sub3, byte, llen, nadd, nsub, dlen, dapp, dset, drep, rd, rda, up, rsub, dsub, all, sle, slen, hasI, putI, hasS, putS, imin, imax, fzc⟩ := g2
  obtain ⟨r_Item, d_Item, r_Chute, d_Chute, r_Inlet, d_Inlet, r_I64, d_I64, r_U8, d_U8, d_InletF⟩ := t
  unfold S_l1In at h
  try dsimp only at h
  cbv
  cases hb1 : (le a1 a0) with
  | true =>
    rw [br_true hb1] at h
    cbv
    try (rw [hb1]; cbv)
    try (rw [hb1]; cbv)
    try (rw [hb1]; cbv)
    subst h
    exact ARet.mk trivial hX.symm
  | false =>
    rw [br_false hb1] at h
    cbv
    try (rw [hb1]; cbv)
    try (rw [hb1]; cbv)
    try (rw [hb1]; cbv)
    subst h
    exact ARet.mk trivial hX.symm
end Go.Vs
namespace Go.Vs
set_option maxRecDepth 100000
def ir86 : J :=
  .seq (.reg none [⟨(some 1), none, .box (.t 0)⟩,
     ⟨(some 2), none, .mv (.k (V.b false))⟩] [1])
  (.seq (.seq (.reg none [⟨(some 3), none, .mv (.k (V.i 0))⟩] [1, 3])
   (.bl 0 (.seq (.seq (.reg none [⟨(some 10), none, .mv (.t 3)⟩,
        ⟨(some 11), none, .fa 1 (.t 1)⟩,
        ⟨(some 12), none, .ld false 1 (.t 11)⟩,
        ⟨(some 13), none, .len false (.t 12)⟩,
        ⟨(some 14), none, .bin .lss .i (.t 10) (.t 13)⟩] [1, 3, 14])
     (.cond (.t 14)
      (.skip)
      (.exit 0)))
    (.seq (.block 1 (.seq (.reg none [⟨(some 17), none, .fa 1 (.t 1)⟩,
         ⟨(some 18), none, .ld false 1 (.t 17)⟩,
         ⟨(some 19), none, .mv (.t 3)⟩,
         ⟨(some 20), none, .ia 3 (.t 18) (.t 19)⟩,
         ⟨(some 21), none, .ld true 3 (.t 20)⟩,
         ⟨(some 4), none, .alloc [.r (.v (.int .i64 0)), .r (.v (.int .i64 0)), .n 2]⟩,
         ⟨none, none, .st 3 (.t 4) (.t 21)⟩] [1, 3, 4])
      (.seq (.seq (.reg none [⟨(some 22), none, .fa 0 (.t 4)⟩,
          ⟨(some 23), none, .ld false 1 (.t 22)⟩,
          ⟨(some 24), none, .fa 0 (.t 1)⟩,
          ⟨(some 25), none, .ld false 1 (.t 24)⟩,
          ⟨(some 26), none, .len false (.t 25)⟩,
          ⟨(some 27), none, .bin .sub .i (.t 26) (.k (V.i 1))⟩,
          ⟨(some 28), none, .call 85 true [(.t 23), (.k (V.i 0)), (.t 27)]⟩,
          ⟨(some 29), none, .not (.t 28)⟩,
          ⟨(some 30), none, .mv (.t 29)⟩,
          ⟨(some 31), (some (30, false)), .fa 1 (.t 4)⟩,
          ⟨(some 32), (some (30, false)), .ld false 1 (.t 31)⟩,
          ⟨(some 33), (some (30, false)), .call 85 true [(.t 32), (.k (V.i 1)), (.k (V.i 20))]⟩,
          ⟨(some 34), (some (30, false)), .not (.t 33)⟩,
          ⟨(some 35), none, .pick (.t 30) (.k (V.b true)) (.t 34)⟩,
          ⟨(some 36), none, .mv (.t 35)⟩,
          ⟨(some 37), (some (36, false)), .fa 2 (.t 4)⟩,
          ⟨(some 38), (some (36, false)), .ld false 1 (.t 37)⟩,
          ⟨(some 39), (some (36, false)), .len false (.t 38)⟩,
          ⟨(some 40), (some (36, false)), .fa 1 (.t 4)⟩,
          ⟨(some 41), (some (36, false)), .ld false 1 (.t 40)⟩,
          ⟨(some 42), (some (36, false)), .bin .gtr .i (.t 39) (.t 41)⟩,
          ⟨(some 43), none, .pick (.t 36) (.k (V.b true)) (.t 42)⟩] [1, 3, 4, 43])
       (.cond (.t 43)
        (.seq (.reg none [⟨(some 2), none, .mv (.k (V.b false))⟩] [2])
         (.ret))
        (.skip)))
      (.seq (.reg none [⟨(some 5), none, .mv (.k (V.i 0))⟩] [1, 3, 4, 5])
      (.bl 2 (.seq (.seq (.reg none [⟨(some 44), none, .mv (.t 5)⟩,
           ⟨(some 45), none, .mv (.t 3)⟩,
           ⟨(some 46), none, .bin .lss .i (.t 44) (.t 45)⟩] [1, 3, 4, 5, 46])
        (.cond (.t 46)
         (.skip)
         (.exit 2)))
       (.seq (.block 3 (.seq (.reg (some [[], [0], [], [0, 1, 2], [0, 1, 2, 3], [0, 1, 2, 3, 4], [], [6], [0, 1, 2, 3, 4, 5, 6, 7]]) [⟨(some 49), none, .fa 1 (.t 1)⟩,
            ⟨(some 50), none, .ld false 1 (.t 49)⟩,
            ⟨(some 51), none, .mv (.t 5)⟩,
            ⟨(some 52), none, .ia 3 (.t 50) (.t 51)⟩,
            ⟨(some 53), none, .fa 0 (.t 52)⟩,
            ⟨(some 54), none, .ld false 1 (.t 53)⟩,
            ⟨(some 55), none, .fa 0 (.t 4)⟩,
            ⟨(some 56), none, .ld false 1 (.t 55)⟩,
            ⟨(some 57), none, .bin .eql .i (.t 54) (.t 56)⟩] [1, 3, 4, 5, 57])
         (.cond (.t 57)
          (.seq (.reg none [⟨(some 2), none, .mv (.k (V.b false))⟩] [2])
           (.ret))
          (.skip))))
       (.reg none [⟨(some 47), none, .mv (.t 5)⟩,
         ⟨(some 48), none, .bin .add .i (.t 47) (.k (V.i 1))⟩,
         ⟨(some 5), none, .mv (.t 48)⟩] [1, 3, 4, 5]))))))))
    (.reg none [⟨(some 15), none, .mv (.t 3)⟩,
      ⟨(some 16), none, .bin .add .i (.t 15) (.k (V.i 1))⟩,
      ⟨(some 3), none, .mv (.t 16)⟩] [1, 3])))))
  (.seq (.seq (.reg none [⟨(some 6), none, .mv (.k (V.i 0))⟩] [1, 6])
   (.bl 4 (.seq (.seq (.reg none [⟨(some 58), none, .mv (.t 6)⟩,
        ⟨(some 59), none, .fa 2 (.t 1)⟩,
        ⟨(some 60), none, .ld false 1 (.t 59)⟩,
        ⟨(some 61), none, .len false (.t 60)⟩,
        ⟨(some 62), none, .bin .lss .i (.t 58) (.t 61)⟩] [1, 6, 62])
     (.cond (.t 62)
      (.skip)
      (.exit 4)))
    (.seq (.block 5 (.seq (.reg none [⟨(some 65), none, .fa 2 (.t 1)⟩,
         ⟨(some 66), none, .ld false 1 (.t 65)⟩,
         ⟨(some 67), none, .mv (.t 6)⟩,
         ⟨(some 68), none, .ia 2 (.t 66) (.t 67)⟩,
         ⟨(some 69), none, .ld true 2 (.t 68)⟩,
         ⟨(some 7), none, .alloc [.r (.v (.int .i64 0)), .n 2]⟩,
         ⟨none, none, .st 2 (.t 7) (.t 69)⟩] [1, 6, 7])
      (.seq (.seq (.reg none [⟨(some 70), none, .fa 0 (.t 7)⟩,
          ⟨(some 71), none, .ld false 1 (.t 70)⟩,
          ⟨(some 72), none, .fa 0 (.t 1)⟩,
          ⟨(some 73), none, .ld false 1 (.t 72)⟩,
          ⟨(some 74), none, .len false (.t 73)⟩,
          ⟨(some 75), none, .bin .sub .i (.t 74) (.k (V.i 1))⟩,
          ⟨(some 76), none, .call 85 true [(.t 71), (.k (V.i 0)), (.t 75)]⟩,
          ⟨(some 77), none, .not (.t 76)⟩,
          ⟨(some 78), none, .mv (.t 77)⟩,
          ⟨(some 79), (some (78, false)), .fa 1 (.t 7)⟩,
          ⟨(some 80), (some (78, false)), .ld false 1 (.t 79)⟩,
          ⟨(some 81), (some (78, false)), .len false (.t 80)⟩,
          ⟨(some 82), (some (78, false)), .bin .gtr .i (.t 81) (.k (V.i 20))⟩,
          ⟨(some 83), none, .pick (.t 78) (.k (V.b true)) (.t 82)⟩] [1, 6, 7, 83])
       (.cond (.t 83)
        (.seq (.reg none [⟨(some 2), none, .mv (.k (V.b false))⟩] [2])
         (.ret))
        (.skip)))
      (.seq (.reg none [⟨(some 8), none, .mv (.k (V.i 0))⟩] [1, 6, 7, 8])
      (.bl 6 (.seq (.seq (.reg none [⟨(some 84), none, .mv (.t 8)⟩,
           ⟨(some 85), none, .mv (.t 6)⟩,
           ⟨(some 86), none, .bin .lss .i (.t 84) (.t 85)⟩] [1, 6, 7, 8, 86])
        (.cond (.t 86)
         (.skip)
         (.exit 6)))
       (.seq (.block 7 (.seq (.reg (some [[], [0], [], [0, 1, 2], [0, 1, 2, 3], [0, 1, 2, 3, 4], [], [6], [0, 1, 2, 3, 4, 5, 6, 7]]) [⟨(some 89), none, .fa 2 (.t 1)⟩,
            ⟨(some 90), none, .ld false 1 (.t 89)⟩,
            ⟨(some 91), none, .mv (.t 8)⟩,
            ⟨(some 92), none, .ia 2 (.t 90) (.t 91)⟩,
            ⟨(some 93), none, .fa 0 (.t 92)⟩,
            ⟨(some 94), none, .ld false 1 (.t 93)⟩,
            ⟨(some 95), none, .fa 0 (.t 7)⟩,
            ⟨(some 96), none, .ld false 1 (.t 95)⟩,
            ⟨(some 97), none, .bin .eql .i (.t 94) (.t 96)⟩] [1, 6, 7, 8, 97])
         (.cond (.t 97)
          (.seq (.reg none [⟨(some 2), none, .mv (.k (V.b false))⟩] [2])
           (.ret))
          (.skip))))
       (.reg none [⟨(some 87), none, .mv (.t 8)⟩,
         ⟨(some 88), none, .bin .add .i (.t 87) (.k (V.i 1))⟩,
         ⟨(some 8), none, .mv (.t 88)⟩] [1, 6, 7, 8]))))))))
    (.reg none [⟨(some 63), none, .mv (.t 6)⟩,
      ⟨(some 64), none, .bin .add .i (.t 63) (.k (V.i 1))⟩,
      ⟨(some 6), none, .mv (.t 64)⟩] [1, 6])))))
  (.seq (.seq (.reg none [⟨(some 9), none, .mv (.k (V.i 0))⟩] [1, 9])
   (.bl 8 (.seq (.seq (.reg none [⟨(some 98), none, .mv (.t 9)⟩,
        ⟨(some 99), none, .fa 3 (.t 1)⟩,
        ⟨(some 100), none, .ld false 1 (.t 99)⟩,
        ⟨(some 101), none, .len false (.t 100)⟩,
        ⟨(some 102), none, .bin .lss .i (.t 98) (.t 101)⟩] [1, 9, 102])
     (.cond (.t 102)
      (.skip)
      (.exit 8)))
    (.seq (.block 9 (.seq (.reg (some [[], [0], [], [0, 1, 2], [0, 1, 2, 3], [], [5], [5, 6], [5, 6, 7], [0, 1, 2, 3, 4, 5, 6, 7, 8], [0, 1, 2, 3, 4, 5, 6, 7, 8, 9]]) [⟨(some 105), none, .fa 3 (.t 1)⟩,
         ⟨(some 106), none, .ld false 1 (.t 105)⟩,
         ⟨(some 107), none, .mv (.t 9)⟩,
         ⟨(some 108), none, .ia 1 (.t 106) (.t 107)⟩,
         ⟨(some 109), none, .ld false 1 (.t 108)⟩,
         ⟨(some 110), none, .fa 1 (.t 1)⟩,
         ⟨(some 111), none, .ld false 1 (.t 110)⟩,
         ⟨(some 112), none, .len false (.t 111)⟩,
         ⟨(some 113), none, .bin .sub .i (.t 112) (.k (V.i 1))⟩,
         ⟨(some 114), none, .call 85 true [(.t 109), (.k (V.i 0)), (.t 113)]⟩,
         ⟨(some 115), none, .not (.t 114)⟩] [1, 9, 115])
      (.cond (.t 115)
       (.seq (.reg none [⟨(some 2), none, .mv (.k (V.b false))⟩] [2])
        (.ret))
       (.skip))))
    (.reg none [⟨(some 103), none, .mv (.t 9)⟩,
      ⟨(some 104), none, .bin .add .i (.t 103) (.k (V.i 1))⟩,
      ⟨(some 9), none, .mv (.t 104)⟩] [1, 9])))))
  (.seq (.reg none [⟨(some 116), none, .fa 1 (.t 1)⟩,
     ⟨(some 117), none, .ld false 1 (.t 116)⟩,
     ⟨(some 118), none, .len false (.t 117)⟩,
     ⟨(some 119), none, .call 85 true [(.t 118), (.k (V.i 1)), (.k (V.i 6))]⟩,
     ⟨(some 120), none, .mv (.t 119)⟩,
     ⟨(some 121), (some (120, true)), .fa 2 (.t 1)⟩,
     ⟨(some 122), (some (120, true)), .ld false 1 (.t 121)⟩,
     ⟨(some 123), (some (120, true)), .len false (.t 122)⟩,
     ⟨(some 124), (some (120, true)), .call 85 true [(.t 123), (.k (V.i 1)), (.k (V.i 4))]⟩,
     ⟨(some 125), none, .pick (.t 120) (.t 124) (.k (V.b false))⟩,
     ⟨(some 126), none, .mv (.t 125)⟩,
     ⟨(some 127), (some (126, true)), .fa 3 (.t 1)⟩,
     ⟨(some 128), (some (126, true)), .ld false 1 (.t 127)⟩,
     ⟨(some 129), (some (126, true)), .len false (.t 128)⟩,
     ⟨(some 130), (some (126, true)), .call 85 true [(.t 129), (.k (V.i 1)), (.k (V.i 8))]⟩,
     ⟨(some 131), none, .pick (.t 126) (.t 130) (.k (V.b false))⟩,
     ⟨(some 2), none, .mv (.t 131)⟩] [2])
  (.ret)))))
def rv86 : List RV := [.t 2]
open Go.Proofs Go.IntWalk
set_option linter.unusedVariables false
set_option maxRecDepth 100000
set_option maxHeartbeats 4000000
def S_l7Parts_l5 (g : G) (t : TE) (a0 : Centre) : List Int → LR Bool Unit
  | [] =>
    (LR.out ())
  | z5 :: ls5 =>
    lP (S_l1In g t z5 0 (g.wrap .i64 (g.sub (g.llen (t.r_Chute a0.Chutes)) 1))) fun x6 =>
    br x6
    (
     S_l7Parts_l5 g t a0 ls5)
    (
     (LR.ret false))
def S_l7Parts_l4 (g : G) (t : TE) (a0 : Centre) (z3 : Inlet) : Nat → Int → Option (LR Bool Unit)
  | 0, v4 =>
    some (LR.out ())
  | n4 + 1, v4 =>
    gt a0.Inlets (g.nat v4) fun x5 =>
    br (g.eq x5.Cell z3.Cell)
    (
     some (LR.ret false))
    (
     S_l7Parts_l4 g t a0 z3 n4 (g.wrap .i64 (g.add v4 1)))
def S_l7Parts_l3 (g : G) (t : TE) (a0 : Centre) : List Inlet → Int → Option (LR Bool Unit)
  | [], v3 =>
    some (LR.out ())
  | z3 :: ls3, v3 =>
    lP (S_l1In g t z3.Cell 0 (g.wrap .i64 (g.sub (g.llen (t.r_Item a0.Belt)) 1))) fun x4 =>
    br x4
    (
     br (g.lt 20 (g.llen (t.r_Item z3.Wait)))
     (
      some (LR.ret false))
     (
      gd ((v3 ≤ 4611686018427387904)) <|
      cl (S_l7Parts_l4 g t a0 z3 (cntLt 0 v3) 0) fun o4 => lrL o4 fun y3 =>
      S_l7Parts_l3 g t a0 ls3 (g.wrap .i64 (g.add v3 1))))
    (
     some (LR.ret false))
def S_l7Parts_l2 (g : G) (t : TE) (a0 : Centre) (z1 : Chute) : Nat → Int → Option (LR Bool Unit)
  | 0, v2 =>
    some (LR.out ())
  | n2 + 1, v2 =>
    gt a0.Chutes (g.nat v2) fun x3 =>
    br (g.eq x3.Cell z1.Cell)
    (
     some (LR.ret false))
    (
     S_l7Parts_l2 g t a0 z1 n2 (g.wrap .i64 (g.add v2 1)))
def S_l7Parts_l1 (g : G) (t : TE) (a0 : Centre) : List Chute → Int → Option (LR Bool Unit)
  | [], v1 =>
    some (LR.out ())
  | z1 :: ls1, v1 =>
    lP (S_l1In g t z1.Cell 0 (g.wrap .i64 (g.sub (g.llen (t.r_Item a0.Belt)) 1))) fun x1 =>
    br x1
    (
     lP (S_l1In g t z1.Room 1 20) fun x2 =>
     br x2
     (
      br (g.lt z1.Room (g.llen (t.r_Item z1.Held)))
      (
       some (LR.ret false))
      (
       gd ((v1 ≤ 4611686018427387904)) <|
       cl (S_l7Parts_l2 g t a0 z1 (cntLt 0 v1) 0) fun o2 => lrL o2 fun y1 =>
       S_l7Parts_l1 g t a0 ls1 (g.wrap .i64 (g.add v1 1))))
     (
      some (LR.ret false)))
    (
     some (LR.ret false))
def S_l7Parts (g : G) (t : TE) (a0 : Centre) : Option Bool :=
  cl (S_l7Parts_l1 g t a0 a0.Chutes 0) fun o1 => lr o1 fun y2 =>
  cl (S_l7Parts_l3 g t a0 a0.Inlets 0) fun o3 => lr o3 fun y4 =>
  lP (S_l7Parts_l5 g t a0 a0.Plan) fun o5 => lr o5 fun y5 =>
  lP (S_l1In g t (g.llen (t.r_Chute a0.Chutes)) 1 6) fun x7 =>
  br x7
  (
   lP (S_l1In g t (g.llen (t.r_Inlet a0.Inlets)) 1 4) fun x8 =>
   br x8
   (
    lP (S_l1In g t (g.llen (t.r_I64 a0.Plan)) 1 8) fun x9 =>
    some x9)
   (
    some false))
  (
   some false)
theorem fit86 : codeFit Try.prog Try.f86.ntmps (Try.f86.body.getD .skip) ir86 = true := by kernel_rfl
theorem c_S_l7Parts {g : G} {t : TE} {a0 : Centre} {r : Bool} (hg : g = G.real) (ht : t = TE.real) (h : S_l7Parts g t a0 = some r) : Fn Try.prog 86 [.g (Centre.rs t a0)] (.c (.r (.v (.bool r)))) := by
  obtain ⟨X, hX⟩ := hide (.c (.r (.v (.bool r))) : X)
  rw [← hX]
  refine fn_of (rvs := rv86) (j := ir86) Try.func86 rfl fit86 (Nat.le_of_ble_eq_true rfl) (by kernel_rfl) prog_mixed ?_
  intro g2 F hg2 hF
  obtain rfl : g2 = g := hg2.unique.trans hg.symm
  clear hg2
  obtain ⟨wrap, lt, le, eq, quo, rem, band, bor, bxor, shl, shr, nat, int, add, sub, mul, cat, seq, slt, sub3, byte, llen, nadd, nsub, dlen, dapp, dset, drep, rd, rda, up, rsub, dsub, all, sle, slen, hasI, putI, hasS, putS, imin, imax, fzc⟩ := g2
  obtain ⟨r_Item, d_Item, r_Chute, d_Chute, r_Inlet, d_Inlet, r_I64, d_I64, r_U8, d_U8, d_InletF⟩ := t
  obtain ⟨a0_Belt, a0_Chutes, a0_Inlets, a0_Plan, a0_Now⟩ := a0
  unfold S_l7Parts at h
  try dsimp only at h
  cbv
  obtain ⟨o1, ho1, h⟩ := of_cl h
  try dsimp only at h
  try rw [hg] at ho1
  try rw [ht] at ho1
  refine ABL.mk { p : Nat × Int // p.1 ≤ a0_Chutes.length ∧ p.2 = ((p.1 : Nat) : Int) ∧ S_l7Parts_l1 G.real TE.real (Centre.mk a0_Belt a0_Chutes a0_Inlets a0_Plan a0_Now) (List.drop p.1 a0_Chutes) p.2 = some o1 } (fun ⟨⟨k1, v1⟩, _⟩ => ({ sl := [(1, .c (.p 0 5 0 0)), (3, .c (.r (.v (.int .i64 v1))))], tab := [(0, some (.foc 5 [] [.r (.s 2 (r_Item a0_Belt)), .r (.s 3 (r_Chute a0_Chutes)), .r (.s 2 (r_Inlet a0_Inlets)), .r (.s 1 (r_I64 a0_Plan)), .r (.v (.int .i64 a0_Now))] []))] } : St)) 1 (fun p => a0_Chutes.length - p.1.1) ⟨(0, 0), Nat.zero_le _, rfl, ho1⟩ (Unit) (fun _ => ({ sl := [(1, .c (.p 0 5 0 0))], tab := [(0, some (.foc 5 [] [.r (.s 2 (r_Item a0_Belt)), .r (.s 3 (r_Chute a0_Chutes)), .r (.s 2 (r_Inlet a0_Inlets)), .r (.s 1 (r_I64 a0_Plan)), .r (.v (.int .i64 a0_Now))] []))] } : St)) 1 (fun y => o1 = LR.out y) ?_ ?_ ?_
  · refine Wk.of [(0, some 0)] rfl rfl ?_ ?_
    · cbv
      all_goals exact ⟨⟨_, rfl, rfl⟩, ⟨_, rfl, rfl⟩, trivial⟩
    · cbv
      all_goals exact ⟨⟨_, rfl, _, rfl, rfl, rfl, rfl, rfl, rfl, trivial⟩, trivial⟩
  · rintro ⟨⟨k1, v1⟩, hk1, hi1, h_1⟩ hq1
    have hm1 := (hq1.2.2.1 0 _ _ _ _ 1 _ _ rfl rfl)
    try dsimp only at hk1 hi1 h_1
    clear hq1
    cbv
    by_cases hc1_ : k1 < a0_Chutes.length
    · have hb1 : lt v1 (llen (r_Chute a0_Chutes)) = true := ltL_true_Chute hg ht hi1 hc1_
      have hs1 := stepL_Chute hg ht hi1 hc1_ hm1
      obtain ⟨z1, hz1⟩ := some_of_lt hc1_
      rw [drop_of_some hz1] at h_1
      rw [S_l7Parts_l1] at h_1
      obtain ⟨z1_Cell, z1_Room, z1_Held⟩ := z1
      try rw [← hg] at h_1
      try rw [← ht] at h_1
      try dsimp only at h_1
      rw [hb1]
      cbv
      refine AStep.mk (nn_L hi1) ?_
      cbv
      refine AGet.mk _ (r_getL_Chute hg ht hi1 hz1) ?_
      cbv
      obtain ⟨x1, hx1, h_1⟩ := of_lP h_1
      try dsimp only at h_1
      refine ACall.mk _ _ rfl (hF _ _ _ (c_S_l1In hg ht hx1)) (.inl rfl) (Nat.le_of_ble_eq_true rfl) ?_
      cbv
      cases hb2 : x1 with
      | true =>
        rw [br_true hb2] at h_1
        cbv
        try (rw [hb2]; cbv)
        try (rw [hb2]; cbv)
        obtain ⟨x2, hx2, h_1⟩ := of_lP h_1
        try dsimp only at h_1
        refine ACall.mk _ _ rfl (hF _ _ _ (c_S_l1In hg ht hx2)) (.inl rfl) (Nat.le_of_ble_eq_true rfl) ?_
        cbv
        try (rw [hb2]; cbv)
        try (rw [hb2]; cbv)
        cases hb3 : x2 with
        | true =>
          rw [br_true hb3] at h_1
          cbv
          try (rw [hb3]; cbv)
          try (rw [hb3]; cbv)
          try (rw [hb3]; cbv)
          try (rw [hb3]; cbv)
          try (rw [hb3]; cbv)
          try (rw [hb3]; cbv)
          cases hb4 : (lt z1_Room (llen (r_Item z1_Held))) with
          | true =>
            rw [br_true hb4] at h_1
            cbv
            obtain rfl := Option.some.inj h_1
            try dsimp only [lr, lrL, lrp, lrpL] at h
            obtain rfl := Option.some.inj h
            exact ARet.mk trivial hX.symm
          | false =>
            rw [br_false hb4] at h_1
            cbv
            obtain ⟨hB2, h_1⟩ := of_gd h_1
            obtain ⟨o2, ho2, h_1⟩ := of_cl h_1
            try dsimp only at h_1
            try rw [hg] at ho2
            try rw [ht] at ho2
            refine ABL.mk { p : Nat × Int // p.1 = cntLt p.2 v1 ∧ 0 ≤ p.2 ∧ S_l7Parts_l2 G.real TE.real (Centre.mk a0_Belt a0_Chutes a0_Inlets a0_Plan a0_Now) (Chute.mk z1_Cell z1_Room z1_Held) p.1 p.2 = some o2 } (fun ⟨⟨n2, v2⟩, _⟩ => ({ sl := [(1, .c (.p 0 5 0 0)), (3, .c (.r (.v (.int .i64 v1)))), (4, .c (.p 1 3 0 0)), (5, .c (.r (.v (.int .i64 v2))))], tab := [(0, some (.foc 5 [] [.r (.s 2 (r_Item a0_Belt)), .r (.s 3 (r_Chute a0_Chutes)), .r (.s 2 (r_Inlet a0_Inlets)), .r (.s 1 (r_I64 a0_Plan)), .r (.v (.int .i64 a0_Now))] [])), (1, some (.foc 3 [] [.r (.v (.int .i64 z1_Cell)), .r (.v (.int .i64 z1_Room)), .r (.s 2 (r_Item z1_Held))] []))] } : St)) 2 (fun p => p.1.1) ⟨(cntLt 0 v1, 0), rfl, Int.le_refl _, ho2⟩ (Unit) (fun _ => ({ sl := [(1, .c (.p 0 5 0 0)), (3, .c (.r (.v (.int .i64 v1))))], tab := [(0, some (.foc 5 [] [.r (.s 2 (r_Item a0_Belt)), .r (.s 3 (r_Chute a0_Chutes)), .r (.s 2 (r_Inlet a0_Inlets)), .r (.s 1 (r_I64 a0_Plan)), .r (.v (.int .i64 a0_Now))] []))] } : St)) 1 (fun y => o2 = LR.out y) ?_ ?_ ?_
            · refine Wk.of [(0, some 0), (1, some 161)] rfl rfl ?_ ?_
              · cbv
                all_goals exact ⟨⟨_, rfl, rfl⟩, ⟨_, rfl, rfl⟩, ⟨_, rfl, rfl⟩, ⟨_, rfl, rfl⟩, trivial⟩
              · cbv
                all_goals exact ⟨⟨_, rfl, _, rfl, rfl, rfl, rfl, rfl, rfl, trivial⟩, ⟨_, rfl, _, rfl, rfl, rfl, rfl, trivial⟩, trivial⟩
            · rintro ⟨⟨n2, v2⟩, hn2, hi2, h_2⟩ hq2
              try dsimp only at hn2 hi2 h_2
              clear hq2
              cbv
              rcases n2 with _ | n2
              · have hb5 : lt v2 v1 = false := ltC_false hg hn2
                rw [S_l7Parts_l2] at h_2
                try rw [← hg] at h_2
                try rw [← ht] at h_2
                try dsimp only at h_2
                rw [hb5]
                cbv
                refine ⟨(), Wk.of [(0, some 0)] rfl rfl ?_ ?_, (Option.some.inj h_2).symm⟩
                · cbv
                  all_goals exact ⟨⟨_, rfl, rfl⟩, ⟨_, rfl, rfl⟩, trivial⟩
                · cbv
                  all_goals exact ⟨⟨_, rfl, _, rfl, rfl, rfl, rfl, rfl, rfl, trivial⟩, trivial⟩
              · have hb5 : lt v2 v1 = true := ltC_true hg hn2
                have hl2 := ltC_le hn2
                have hs2 := stepltC hg hn2 hi2 hB2 (by decide)
                rw [S_l7Parts_l2] at h_2
                try rw [← hg] at h_2
                try rw [← ht] at h_2
                try dsimp only at h_2
                rw [hb5]
                cbv
                refine AStep.mk (nn_C hi2) ?_
                cbv
                obtain ⟨x3, hx3, h_2⟩ := of_gt h_2
                obtain ⟨x3_Cell, x3_Room, x3_Held⟩ := x3
                try dsimp only at h_2
                refine AGet.mk _ (r_get_Chute hg ht hx3) ?_
                cbv
                cases hb6 : (eq x3_Cell z1_Cell) with
                | true =>
                  rw [br_true hb6] at h_2
                  cbv
                  obtain rfl := Option.some.inj h_2
                  try dsimp only [lr, lrL, lrp, lrpL] at h_1
                  obtain rfl := Option.some.inj h_1
                  try dsimp only [lr, lrL, lrp, lrpL] at h
                  obtain rfl := Option.some.inj h
                  exact ARet.mk trivial hX.symm
                | false =>
                  rw [br_false hb6] at h_2
                  cbv
                  try rw [hg] at h_2
                  try rw [ht] at h_2
                  refine ⟨⟨(n2, (wrap .i64 (add v2 1))), hs2.1, hs2.2, h_2⟩, Wk.of [(0, some 0), (1, some 1)] rfl rfl ?_ ?_, Nat.lt_succ_self _⟩
                  · cbv
                    all_goals exact ⟨⟨_, rfl, rfl⟩, ⟨_, rfl, rfl⟩, ⟨_, rfl, rfl⟩, ⟨_, rfl, rfl⟩, trivial⟩
                  · cbv
                    all_goals exact ⟨⟨_, rfl, _, rfl, rfl, rfl, rfl, rfl, rfl, trivial⟩, ⟨_, rfl, _, rfl, rfl, rfl, rfl, trivial⟩, trivial⟩
            · rintro _ hy2
              replace hy2 := hy2.symm
              subst hy2
              try dsimp only [lr, lrL, lrp, lrpL] at h_1
              cbv
              try rw [hg] at h_1
              try rw [ht] at h_1
              refine ⟨⟨(k1 + 1, (wrap .i64 (add v1 1))), hc1_, hs1, h_1⟩, Wk.of [(0, some 0)] rfl rfl ?_ ?_, meas_L hc1_⟩
              · cbv
                all_goals exact ⟨⟨_, rfl, rfl⟩, ⟨_, rfl, rfl⟩, trivial⟩
              · cbv
                all_goals exact ⟨⟨_, rfl, _, rfl, rfl, rfl, rfl, rfl, rfl, trivial⟩, trivial⟩
        | false =>
          rw [br_false hb3] at h_1
          cbv
          try (rw [hb3]; cbv)
          try (rw [hb3]; cbv)
          try (rw [hb3]; cbv)
          try (rw [hb3]; cbv)
          try (rw [hb3]; cbv)
          try (rw [hb3]; cbv)
          obtain rfl := Option.some.inj h_1
          try dsimp only [lr, lrL, lrp, lrpL] at h
          obtain rfl := Option.some.inj h
          exact ARet.mk trivial hX.symm
      | false =>
        rw [br_false hb2] at h_1
        cbv
        try (rw [hb2]; cbv)
        try (rw [hb2]; cbv)
        try (rw [hb2]; cbv)
        try (rw [hb2]; cbv)
        obtain rfl := Option.some.inj h_1
        try dsimp only [lr, lrL, lrp, lrpL] at h
        obtain rfl := Option.some.inj h
        exact ARet.mk trivial hX.symm
    · have hb1 : lt v1 (llen (r_Chute a0_Chutes)) = false := ltL_false_Chute hg ht hi1 hc1_
      rw [List.drop_of_length_le (Nat.le_of_not_lt hc1_)] at h_1
      rw [S_l7Parts_l1] at h_1
      try rw [← hg] at h_1
      try rw [← ht] at h_1
      try dsimp only at h_1
      rw [hb1]
      cbv
      refine ⟨(), Wk.of [(0, some 0)] rfl rfl ?_ ?_, (Option.some.inj h_1).symm⟩
      · cbv
        all_goals exact ⟨⟨_, rfl, rfl⟩, trivial⟩
      · cbv
        all_goals exact ⟨⟨_, rfl, _, rfl, rfl, rfl, rfl, rfl, rfl, trivial⟩, trivial⟩
  · rintro _ hy1
    replace hy1 := hy1.symm
    subst hy1
    try dsimp only [lr, lrL, lrp, lrpL] at h
    cbv
    obtain ⟨o3, ho3, h⟩ := of_cl h
    try dsimp only at h
    try rw [hg] at ho3
    try rw [ht] at ho3
    refine ABL.mk { p : Nat × Int // p.1 ≤ a0_Inlets.length ∧ p.2 = ((p.1 : Nat) : Int) ∧ S_l7Parts_l3 G.real TE.real (Centre.mk a0_Belt a0_Chutes a0_Inlets a0_Plan a0_Now) (List.drop p.1 a0_Inlets) p.2 = some o3 } (fun ⟨⟨k3, v3⟩, _⟩ => ({ sl := [(1, .c (.p 0 5 0 0)), (6, .c (.r (.v (.int .i64 v3))))], tab := [(0, some (.foc 5 [] [.r (.s 2 (r_Item a0_Belt)), .r (.s 3 (r_Chute a0_Chutes)), .r (.s 2 (r_Inlet a0_Inlets)), .r (.s 1 (r_I64 a0_Plan)), .r (.v (.int .i64 a0_Now))] []))] } : St)) 1 (fun p => a0_Inlets.length - p.1.1) ⟨(0, 0), Nat.zero_le _, rfl, ho3⟩ (Unit) (fun _ => ({ sl := [(1, .c (.p 0 5 0 0))], tab := [(0, some (.foc 5 [] [.r (.s 2 (r_Item a0_Belt)), .r (.s 3 (r_Chute a0_Chutes)), .r (.s 2 (r_Inlet a0_Inlets)), .r (.s 1 (r_I64 a0_Plan)), .r (.v (.int .i64 a0_Now))] []))] } : St)) 1 (fun y => o3 = LR.out y) ?_ ?_ ?_
    · refine Wk.of [(0, some 0)] rfl rfl ?_ ?_
      · cbv
        all_goals exact ⟨⟨_, rfl, rfl⟩, ⟨_, rfl, rfl⟩, trivial⟩
      · cbv
        all_goals exact ⟨⟨_, rfl, _, rfl, rfl, rfl, rfl, rfl, rfl, trivial⟩, trivial⟩
    · rintro ⟨⟨k3, v3⟩, hk3, hi3, h_3⟩ hq3
      have hm3 := (hq3.2.2.1 0 _ _ _ _ 2 _ _ rfl rfl)
      try dsimp only at hk3 hi3 h_3
      clear hq3
      cbv
      by_cases hc3_ : k3 < a0_Inlets.length
      · have hb7 : lt v3 (llen (r_Inlet a0_Inlets)) = true := ltL_true_Inlet hg ht hi3 hc3_
        have hs3 := stepL_Inlet hg ht hi3 hc3_ hm3
        obtain ⟨z3, hz3⟩ := some_of_lt hc3_
        rw [drop_of_some hz3] at h_3
        rw [S_l7Parts_l3] at h_3
        obtain ⟨z3_Cell, z3_Wait⟩ := z3
        try rw [← hg] at h_3
        try rw [← ht] at h_3
        try dsimp only at h_3
        rw [hb7]
        cbv
        refine AStep.mk (nn_L hi3) ?_
        cbv
        refine AGet.mk _ (r_getL_Inlet hg ht hi3 hz3) ?_
        cbv
        obtain ⟨x4, hx4, h_3⟩ := of_lP h_3
        try dsimp only at h_3
        refine ACall.mk _ _ rfl (hF _ _ _ (c_S_l1In hg ht hx4)) (.inl rfl) (Nat.le_of_ble_eq_true rfl) ?_
        cbv
        cases hb8 : x4 with
        | true =>
          rw [br_true hb8] at h_3
          cbv
          try (rw [hb8]; cbv)
          try (rw [hb8]; cbv)
          try (rw [hb8]; cbv)
          try (rw [hb8]; cbv)
          cases hb9 : (lt 20 (llen (r_Item z3_Wait))) with
          | true =>
            rw [br_true hb9] at h_3
            cbv
            obtain rfl := Option.some.inj h_3
            try dsimp only [lr, lrL, lrp, lrpL] at h
            obtain rfl := Option.some.inj h
            exact ARet.mk trivial hX.symm
          | false =>
            rw [br_false hb9] at h_3
            cbv
            obtain ⟨hB4, h_3⟩ := of_gd h_3
            obtain ⟨o4, ho4, h_3⟩ := of_cl h_3
            try dsimp only at h_3
            try rw [hg] at ho4
            try rw [ht] at ho4
            refine ABL.mk { p : Nat × Int // p.1 = cntLt p.2 v3 ∧ 0 ≤ p.2 ∧ S_l7Parts_l4 G.real TE.real (Centre.mk a0_Belt a0_Chutes a0_Inlets a0_Plan a0_Now) (Inlet.mk z3_Cell z3_Wait) p.1 p.2 = some o4 } (fun ⟨⟨n4, v4⟩, _⟩ => ({ sl := [(1, .c (.p 0 5 0 0)), (6, .c (.r (.v (.int .i64 v3)))), (7, .c (.p 1 2 0 0)), (8, .c (.r (.v (.int .i64 v4))))], tab := [(0, some (.foc 5 [] [.r (.s 2 (r_Item a0_Belt)), .r (.s 3 (r_Chute a0_Chutes)), .r (.s 2 (r_Inlet a0_Inlets)), .r (.s 1 (r_I64 a0_Plan)), .r (.v (.int .i64 a0_Now))] [])), (1, some (.foc 2 [] [.r (.v (.int .i64 z3_Cell)), .r (.s 2 (r_Item z3_Wait))] []))] } : St)) 2 (fun p => p.1.1) ⟨(cntLt 0 v3, 0), rfl, Int.le_refl _, ho4⟩ (Unit) (fun _ => ({ sl := [(1, .c (.p 0 5 0 0)), (6, .c (.r (.v (.int .i64 v3))))], tab := [(0, some (.foc 5 [] [.r (.s 2 (r_Item a0_Belt)), .r (.s 3 (r_Chute a0_Chutes)), .r (.s 2 (r_Inlet a0_Inlets)), .r (.s 1 (r_I64 a0_Plan)), .r (.v (.int .i64 a0_Now))] []))] } : St)) 1 (fun y => o4 = LR.out y) ?_ ?_ ?_
            · refine Wk.of [(0, some 0), (1, some 161)] rfl rfl ?_ ?_
              · cbv
                all_goals exact ⟨⟨_, rfl, rfl⟩, ⟨_, rfl, rfl⟩, ⟨_, rfl, rfl⟩, ⟨_, rfl, rfl⟩, trivial⟩
              · cbv
                all_goals exact ⟨⟨_, rfl, _, rfl, rfl, rfl, rfl, rfl, rfl, trivial⟩, ⟨_, rfl, _, rfl, rfl, rfl, trivial⟩, trivial⟩
            · rintro ⟨⟨n4, v4⟩, hn4, hi4, h_4⟩ hq4
              try dsimp only at hn4 hi4 h_4
              clear hq4
              cbv
              rcases n4 with _ | n4
              · have hb10 : lt v4 v3 = false := ltC_false hg hn4
                rw [S_l7Parts_l4] at h_4
                try rw [← hg] at h_4
                try rw [← ht] at h_4
                try dsimp only at h_4
                rw [hb10]
                cbv
                refine ⟨(), Wk.of [(0, some 0)] rfl rfl ?_ ?_, (Option.some.inj h_4).symm⟩
                · cbv
                  all_goals exact ⟨⟨_, rfl, rfl⟩, ⟨_, rfl, rfl⟩, trivial⟩
                · cbv
                  all_goals exact ⟨⟨_, rfl, _, rfl, rfl, rfl, rfl, rfl, rfl, trivial⟩, trivial⟩
              · have hb10 : lt v4 v3 = true := ltC_true hg hn4
                have hl4 := ltC_le hn4
                have hs4 := stepltC hg hn4 hi4 hB4 (by decide)
                rw [S_l7Parts_l4] at h_4
                try rw [← hg] at h_4
                try rw [← ht] at h_4
                try dsimp only at h_4
                rw [hb10]
                cbv
                refine AStep.mk (nn_C hi4) ?_
                cbv
                obtain ⟨x5, hx5, h_4⟩ := of_gt h_4
                obtain ⟨x5_Cell, x5_Wait⟩ := x5
                try dsimp only at h_4
                refine AGet.mk _ (r_get_Inlet hg ht hx5) ?_
                cbv
                cases hb11 : (eq x5_Cell z3_Cell) with
                | true =>
                  rw [br_true hb11] at h_4
                  cbv
                  obtain rfl := Option.some.inj h_4
                  try dsimp only [lr, lrL, lrp, lrpL] at h_3
                  obtain rfl := Option.some.inj h_3
                  try dsimp only [lr, lrL, lrp, lrpL] at h
                  obtain rfl := Option.some.inj h
                  exact ARet.mk trivial hX.symm
                | false =>
                  rw [br_false hb11] at h_4
                  cbv
                  try rw [hg] at h_4
                  try rw [ht] at h_4
                  refine ⟨⟨(n4, (wrap .i64 (add v4 1))), hs4.1, hs4.2, h_4⟩, Wk.of [(0, some 0), (1, some 1)] rfl rfl ?_ ?_, Nat.lt_succ_self _⟩
                  · cbv
                    all_goals exact ⟨⟨_, rfl, rfl⟩, ⟨_, rfl, rfl⟩, ⟨_, rfl, rfl⟩, ⟨_, rfl, rfl⟩, trivial⟩
                  · cbv
                    all_goals exact ⟨⟨_, rfl, _, rfl, rfl, rfl, rfl, rfl, rfl, trivial⟩, ⟨_, rfl, _, rfl, rfl, rfl, trivial⟩, trivial⟩
            · rintro _ hy4
              replace hy4 := hy4.symm
              subst hy4
              try dsimp only [lr, lrL, lrp, lrpL] at h_3
              cbv
              try rw [hg] at h_3
              try rw [ht] at h_3
              refine ⟨⟨(k3 + 1, (wrap .i64 (add v3 1))), hc3_, hs3, h_3⟩, Wk.of [(0, some 0)] rfl rfl ?_ ?_, meas_L hc3_⟩
              · cbv
                all_goals exact ⟨⟨_, rfl, rfl⟩, ⟨_, rfl, rfl⟩, trivial⟩
              · cbv
                all_goals exact ⟨⟨_, rfl, _, rfl, rfl, rfl, rfl, rfl, rfl, trivial⟩, trivial⟩
        | false =>
          rw [br_false hb8] at h_3
          cbv
          try (rw [hb8]; cbv)
          try (rw [hb8]; cbv)
          try (rw [hb8]; cbv)
          try (rw [hb8]; cbv)
          obtain rfl := Option.some.inj h_3
          try dsimp only [lr, lrL, lrp, lrpL] at h
          obtain rfl := Option.some.inj h
          exact ARet.mk trivial hX.symm
      · have hb7 : lt v3 (llen (r_Inlet a0_Inlets)) = false := ltL_false_Inlet hg ht hi3 hc3_
        rw [List.drop_of_length_le (Nat.le_of_not_lt hc3_)] at h_3
        rw [S_l7Parts_l3] at h_3
        try rw [← hg] at h_3
        try rw [← ht] at h_3
        try dsimp only at h_3
        rw [hb7]
        cbv
        refine ⟨(), Wk.of [(0, some 0)] rfl rfl ?_ ?_, (Option.some.inj h_3).symm⟩
        · cbv
          all_goals exact ⟨⟨_, rfl, rfl⟩, trivial⟩
        · cbv
          all_goals exact ⟨⟨_, rfl, _, rfl, rfl, rfl, rfl, rfl, rfl, trivial⟩, trivial⟩
    · rintro _ hy3
      replace hy3 := hy3.symm
      subst hy3
      try dsimp only [lr, lrL, lrp, lrpL] at h
      cbv
      obtain ⟨o5, ho5, h⟩ := of_lP h
      try dsimp only at h
      try rw [hg] at ho5
      try rw [ht] at ho5
      refine ABL.mk { p : Nat × Int // p.1 ≤ a0_Plan.length ∧ p.2 = ((p.1 : Nat) : Int) ∧ S_l7Parts_l5 G.real TE.real (Centre.mk a0_Belt a0_Chutes a0_Inlets a0_Plan a0_Now) (List.drop p.1 a0_Plan) = o5 } (fun ⟨⟨k5, v5⟩, _⟩ => ({ sl := [(1, .c (.p 0 5 0 0)), (9, .c (.r (.v (.int .i64 v5))))], tab := [(0, some (.foc 5 [] [.r (.s 2 (r_Item a0_Belt)), .r (.s 3 (r_Chute a0_Chutes)), .r (.s 2 (r_Inlet a0_Inlets)), .r (.s 1 (r_I64 a0_Plan)), .r (.v (.int .i64 a0_Now))] []))] } : St)) 1 (fun p => a0_Plan.length - p.1.1) ⟨(0, 0), Nat.zero_le _, rfl, ho5⟩ (Unit) (fun _ => ({ sl := [(1, .c (.p 0 5 0 0))], tab := [(0, some (.foc 5 [] [.r (.s 2 (r_Item a0_Belt)), .r (.s 3 (r_Chute a0_Chutes)), .r (.s 2 (r_Inlet a0_Inlets)), .r (.s 1 (r_I64 a0_Plan)), .r (.v (.int .i64 a0_Now))] []))] } : St)) 1 (fun y => o5 = LR.out y) ?_ ?_ ?_
      · refine Wk.of [(0, some 0)] rfl rfl ?_ ?_
        · cbv
          all_goals exact ⟨⟨_, rfl, rfl⟩, ⟨_, rfl, rfl⟩, trivial⟩
        · cbv
          all_goals exact ⟨⟨_, rfl, _, rfl, rfl, rfl, rfl, rfl, rfl, trivial⟩, trivial⟩
      · rintro ⟨⟨k5, v5⟩, hk5, hi5, h_5⟩ hq5
        have hm5 := (hq5.2.2.1 0 _ _ _ _ 3 _ _ rfl rfl)
        try dsimp only at hk5 hi5 h_5
        clear hq5
        cbv
        by_cases hc5_ : k5 < a0_Plan.length
        · have hb12 : lt v5 (llen (r_I64 a0_Plan)) = true := ltL_true_I64 hg ht hi5 hc5_
          have hs5 := stepL_I64 hg ht hi5 hc5_ hm5
          obtain ⟨z5, hz5⟩ := some_of_lt hc5_
          rw [drop_of_some hz5] at h_5
          rw [S_l7Parts_l5] at h_5
          try rw [← hg] at h_5
          try rw [← ht] at h_5
          try dsimp only at h_5
          rw [hb12]
          cbv
          refine AStep.mk (nn_L hi5) ?_
          cbv
          refine AGet.mk _ (r_getL_I64 hg ht hi5 hz5) ?_
          cbv
          obtain ⟨x6, hx6, h_5⟩ := of_lP h_5
          try dsimp only at h_5
          refine ACall.mk _ _ rfl (hF _ _ _ (c_S_l1In hg ht hx6)) (.inl rfl) (Nat.le_of_ble_eq_true rfl) ?_
          cbv
          cases hb13 : x6 with
          | true =>
            rw [br_true hb13] at h_5
            cbv
            try rw [hg] at h_5
            try rw [ht] at h_5
            refine ⟨⟨(k5 + 1, (wrap .i64 (add v5 1))), hc5_, hs5, h_5⟩, Wk.of [(0, some 0)] rfl rfl ?_ ?_, meas_L hc5_⟩
            · cbv
              all_goals exact ⟨⟨_, rfl, rfl⟩, ⟨_, rfl, rfl⟩, trivial⟩
            · cbv
              all_goals exact ⟨⟨_, rfl, _, rfl, rfl, rfl, rfl, rfl, rfl, trivial⟩, trivial⟩
          | false =>
            rw [br_false hb13] at h_5
            cbv
            subst h_5
            try dsimp only [lr, lrL, lrp, lrpL] at h
            obtain rfl := Option.some.inj h
            exact ARet.mk trivial hX.symm
        · have hb12 : lt v5 (llen (r_I64 a0_Plan)) = false := ltL_false_I64 hg ht hi5 hc5_
          rw [List.drop_of_length_le (Nat.le_of_not_lt hc5_)] at h_5
          rw [S_l7Parts_l5] at h_5
          try rw [← hg] at h_5
          try rw [← ht] at h_5
          try dsimp only at h_5
          rw [hb12]
          cbv
          refine ⟨(), Wk.of [(0, some 0)] rfl rfl ?_ ?_, h_5.symm⟩
          · cbv
            all_goals exact ⟨⟨_, rfl, rfl⟩, trivial⟩
          · cbv
            all_goals exact ⟨⟨_, rfl, _, rfl, rfl, rfl, rfl, rfl, rfl, trivial⟩, trivial⟩
      · rintro _ hy5
        replace hy5 := hy5.symm
        subst hy5
        try dsimp only [lr, lrL, lrp, lrpL] at h
        cbv
        obtain ⟨x7, hx7, h⟩ := of_lP h
        try dsimp only at h
        refine ACall.mk _ _ rfl (hF _ _ _ (c_S_l1In hg ht hx7)) (.inl rfl) (Nat.le_of_ble_eq_true rfl) ?_
        cbv
        cases hb14 : x7 with
        | true =>
          rw [br_true hb14] at h
          cbv
          try (rw [hb14]; cbv)
          try (rw [hb14]; cbv)
          try (rw [hb14]; cbv)
          obtain ⟨x8, hx8, h⟩ := of_lP h
          try dsimp only at h
          refine ACall.mk _ _ rfl (hF _ _ _ (c_S_l1In hg ht hx8)) (.inl rfl) (Nat.le_of_ble_eq_true rfl) ?_
          cbv
          try (rw [hb14]; cbv)
          cases hb15 : x8 with
          | true =>
            rw [br_true hb15] at h
            cbv
            try (rw [hb15]; cbv)
            try (rw [hb15]; cbv)
            try (rw [hb15]; cbv)
            obtain ⟨x9, hx9, h⟩ := of_lP h
            try dsimp only at h
            refine ACall.mk _ _ rfl (hF _ _ _ (c_S_l1In hg ht hx9)) (.inl rfl) (Nat.le_of_ble_eq_true rfl) ?_
            cbv
            try (rw [hb15]; cbv)
            obtain rfl := Option.some.inj h
            exact ARet.mk trivial hX.symm
          | false =>
            rw [br_false hb15] at h
            cbv
            try (rw [hb15]; cbv)
            try (rw [hb15]; cbv)
            try (rw [hb15]; cbv)
            try (rw [hb15]; cbv)
            obtain rfl := Option.some.inj h
            exact ARet.mk trivial hX.symm
        | false =>
          rw [br_false hb14] at h
          cbv
          try (rw [hb14]; cbv)
          try (rw [hb14]; cbv)
          try (rw [hb14]; cbv)
          try (rw [hb14]; cbv)
          obtain rfl := Option.some.inj h
          exact ARet.mk trivial hX.symm
end Go.Vs
namespace Go.Vs
set_option maxRecDepth 100000
def ir87 : J :=
  .seq (.reg none [⟨(some 1), none, .box (.t 0)⟩,
     ⟨(some 2), none, .mv (.k (.c (.n 2)))⟩] [1])
  (.seq (.reg none [⟨(some 7), none, .bsl 2 []⟩,
     ⟨(some 3), none, .mv (.t 7)⟩] [1, 3])
  (.seq (.seq (.reg none [⟨(some 4), none, .mv (.k (V.i 0))⟩] [1, 3, 4])
   (.bl 0 (.seq (.seq (.reg none [⟨(some 8), none, .mv (.t 4)⟩,
        ⟨(some 9), none, .fa 0 (.t 1)⟩,
        ⟨(some 10), none, .ld false 1 (.t 9)⟩,
        ⟨(some 11), none, .len false (.t 10)⟩,
        ⟨(some 12), none, .bin .lss .i (.t 8) (.t 11)⟩] [1, 3, 4, 12])
     (.cond (.t 12)
      (.skip)
      (.exit 0)))
    (.seq (.block 1 (.seq (.reg none [⟨(some 15), none, .fa 0 (.t 1)⟩,
         ⟨(some 16), none, .ld false 1 (.t 15)⟩,
         ⟨(some 17), none, .mv (.t 4)⟩,
         ⟨(some 18), none, .ia 2 (.t 16) (.t 17)⟩,
         ⟨(some 19), none, .fa 0 (.t 18)⟩,
         ⟨(some 20), none, .ld false 1 (.t 19)⟩,
         ⟨(some 21), none, .bin .neq .i (.t 20) (.k (V.i 0))⟩,
         ⟨(some 22), none, .mv (.t 21)⟩,
         ⟨(some 23), (some (22, false)), .fa 0 (.t 1)⟩,
         ⟨(some 24), (some (22, false)), .ld false 1 (.t 23)⟩,
         ⟨(some 25), (some (22, false)), .mv (.t 4)⟩,
         ⟨(some 26), (some (22, false)), .ia 2 (.t 24) (.t 25)⟩,
         ⟨(some 27), (some (22, false)), .fa 1 (.t 26)⟩,
         ⟨(some 28), (some (22, false)), .ld false 1 (.t 27)⟩,
         ⟨(some 29), (some (22, false)), .bin .neq .i (.t 28) (.k (V.i 0))⟩,
         ⟨(some 30), none, .pick (.t 22) (.k (V.b true)) (.t 29)⟩] [1, 3, 4, 30])
      (.cond (.t 30)
       (.reg none [⟨(some 31), none, .mv (.t 3)⟩,
          ⟨(some 32), none, .fa 0 (.t 1)⟩,
          ⟨(some 33), none, .ld false 1 (.t 32)⟩,
          ⟨(some 34), none, .mv (.t 4)⟩,
          ⟨(some 35), none, .ia 2 (.t 33) (.t 34)⟩,
          ⟨(some 36), none, .ld true 2 (.t 35)⟩,
          ⟨(some 37), none, .bsl 2 [(.t 36)]⟩,
          ⟨(some 38), none, .app 2 16 true (.t 31) (.t 37)⟩,
          ⟨(some 3), none, .mv (.t 38)⟩] [1, 3, 4])
       (.skip))))
    (.reg none [⟨(some 13), none, .mv (.t 4)⟩,
      ⟨(some 14), none, .bin .add .i (.t 13) (.k (V.i 1))⟩,
      ⟨(some 4), none, .mv (.t 14)⟩] [1, 3, 4])))))
  (.seq (.seq (.reg none [⟨(some 5), none, .mv (.k (V.i 0))⟩] [1, 3, 5])
   (.bl 2 (.seq (.seq (.reg none [⟨(some 39), none, .mv (.t 5)⟩,
        ⟨(some 40), none, .fa 1 (.t 1)⟩,
        ⟨(some 41), none, .ld false 1 (.t 40)⟩,
        ⟨(some 42), none, .len false (.t 41)⟩,
        ⟨(some 43), none, .bin .lss .i (.t 39) (.t 42)⟩] [1, 3, 5, 43])
     (.cond (.t 43)
      (.skip)
      (.exit 2)))
    (.seq (.block 3 (.reg none [⟨(some 46), none, .mv (.t 3)⟩,
        ⟨(some 47), none, .fa 1 (.t 1)⟩,
        ⟨(some 48), none, .ld false 1 (.t 47)⟩,
        ⟨(some 49), none, .mv (.t 5)⟩,
        ⟨(some 50), none, .ia 3 (.t 48) (.t 49)⟩,
        ⟨(some 51), none, .fa 2 (.t 50)⟩,
        ⟨(some 52), none, .ld false 1 (.t 51)⟩,
        ⟨(some 53), none, .app 2 16 false (.t 46) (.t 52)⟩,
        ⟨(some 3), none, .mv (.t 53)⟩] [1, 3, 5]))
    (.reg none [⟨(some 44), none, .mv (.t 5)⟩,
      ⟨(some 45), none, .bin .add .i (.t 44) (.k (V.i 1))⟩,
      ⟨(some 5), none, .mv (.t 45)⟩] [1, 3, 5])))))
  (.seq (.seq (.reg none [⟨(some 6), none, .mv (.k (V.i 0))⟩] [1, 3, 6])
   (.bl 4 (.seq (.seq (.reg none [⟨(some 54), none, .mv (.t 6)⟩,
        ⟨(some 55), none, .fa 2 (.t 1)⟩,
        ⟨(some 56), none, .ld false 1 (.t 55)⟩,
        ⟨(some 57), none, .len false (.t 56)⟩,
        ⟨(some 58), none, .bin .lss .i (.t 54) (.t 57)⟩] [1, 3, 6, 58])
     (.cond (.t 58)
      (.skip)
      (.exit 4)))
    (.seq (.block 5 (.reg none [⟨(some 61), none, .mv (.t 3)⟩,
        ⟨(some 62), none, .fa 2 (.t 1)⟩,
        ⟨(some 63), none, .ld false 1 (.t 62)⟩,
        ⟨(some 64), none, .mv (.t 6)⟩,
        ⟨(some 65), none, .ia 2 (.t 63) (.t 64)⟩,
        ⟨(some 66), none, .fa 1 (.t 65)⟩,
        ⟨(some 67), none, .ld false 1 (.t 66)⟩,
        ⟨(some 68), none, .app 2 16 false (.t 61) (.t 67)⟩,
        ⟨(some 3), none, .mv (.t 68)⟩] [1, 3, 6]))
    (.reg none [⟨(some 59), none, .mv (.t 6)⟩,
      ⟨(some 60), none, .bin .add .i (.t 59) (.k (V.i 1))⟩,
      ⟨(some 6), none, .mv (.t 60)⟩] [1, 3, 6])))))
  (.seq (.reg none [⟨(some 69), none, .mv (.t 3)⟩,
     ⟨(some 2), none, .mv (.t 69)⟩] [2])
  (.ret))))))
def rv87 : List RV := [.t 2]
open Go.Proofs Go.IntWalk
set_option linter.unusedVariables false
set_option maxRecDepth 100000
set_option maxHeartbeats 4000000
def S_l7All_l3 (g : G) (t : TE) : List Inlet → List Item → Option (List Item)
  | [], w3 =>
    some w3
  | z3 :: ls3, w3 =>
    gd (((w3.length + z3.Wait.length) * 16 ≤ 70368744177664)) <|
    lP (w3 ++ z3.Wait) fun (l7 : List Item) =>
    S_l7All_l3 g t ls3 l7
def S_l7All_l2 (g : G) (t : TE) : List Chute → List Item → Option (List Item)
  | [], w2 =>
    some w2
  | z2 :: ls2, w2 =>
    gd (((w2.length + z2.Held.length) * 16 ≤ 70368744177664)) <|
    lP (w2 ++ z2.Held) fun (l6 : List Item) =>
    S_l7All_l2 g t ls2 l6
def S_l7All_l1 (g : G) (t : TE) : List Item → List Item → Option (List Item)
  | [], w1 =>
    some w1
  | z1 :: ls1, w1 =>
    br (g.eq z1.Id 0)
    (
     br (g.eq z1.Dest 0)
     (
      S_l7All_l1 g t ls1 w1)
     (
      lP ([z1]) fun (l2 : List Item) =>
      gd (((w1.length + l2.length) * 16 ≤ 70368744177664)) <|
      lP (w1 ++ l2) fun (l3 : List Item) =>
      S_l7All_l1 g t ls1 l3))
    (
     lP ([z1]) fun (l4 : List Item) =>
     gd (((w1.length + l4.length) * 16 ≤ 70368744177664)) <|
     lP (w1 ++ l4) fun (l5 : List Item) =>
     S_l7All_l1 g t ls1 l5)
def S_l7All (g : G) (t : TE) (a0 : Centre) : Option (List Item) :=
  lP ([]) fun (l1 : List Item) =>
  cl (S_l7All_l1 g t a0.Belt l1) fun y1 =>
  cl (S_l7All_l2 g t a0.Chutes y1) fun y2 =>
  cl (S_l7All_l3 g t a0.Inlets y2) fun y3 =>
  some y3
theorem fit87 : codeFit Try.prog Try.f87.ntmps (Try.f87.body.getD .skip) ir87 = true := by kernel_rfl
theorem c_S_l7All {g : G} {t : TE} {a0 : Centre} {r : List Item} (hg : g = G.real) (ht : t = TE.real) (h : S_l7All g t a0 = some r) : Fn Try.prog 87 [.g (Centre.rs t a0)] (.c (.o 2 (t.d_Item r))) := by
  obtain ⟨X, hX⟩ := hide (.c (.o 2 (t.d_Item r)) : X)
  rw [← hX]
  refine fn_of (rvs := rv87) (j := ir87) Try.func87 rfl fit87 (Nat.le_of_ble_eq_true rfl) (by kernel_rfl) prog_mixed ?_
  intro g2 F hg2 hF
  obtain rfl : g2 = g := hg2.unique.trans hg.symm
  clear hg2
  obtain ⟨wrap, lt, le, eq, quo, rem, band, bor, bxor, shl, shr, nat, int, add, sub, mul, cat, seq, slt, sub3, byte, llen, nadd, nsub, dlen, dapp, dset, drep, rd, rda, up, rsub, dsub, all, sle, slen, hasI, putI, hasS, putS, imin, imax, fzc⟩ := g2
  obtain ⟨r_Item, d_Item, r_Chute, d_Chute, r_Inlet, d_Inlet, r_I64, d_I64, r_U8, d_U8, d_InletF⟩ := t
  obtain ⟨a0_Belt, a0_Chutes, a0_Inlets, a0_Plan, a0_Now⟩ := a0
  unfold S_l7All at h
  try dsimp only at h
  cbv
  obtain ⟨l1, hl1, h⟩ := of_lP h
  try dsimp only at h
  refine ANew.mk (d_Item l1) (dlen (d_Item l1)) (by rw [← hl1]; exact lit_Item hg ht []) (by rw [← hl1]; exact litn_Item hg ht []) ?_
  cbv
  obtain ⟨o1, ho1, h⟩ := of_cl h
  try dsimp only at h
  try rw [hg] at ho1
  try rw [ht] at ho1
  refine ABL.mk { p : Nat × Int × List Item // p.1 ≤ a0_Belt.length ∧ p.2.1 = ((p.1 : Nat) : Int) ∧ S_l7All_l1 G.real TE.real (List.drop p.1 a0_Belt) p.2.2 = some o1 } (fun ⟨⟨k1, v1, w1⟩, _⟩ => ({ sl := [(1, .c (.p 0 5 0 0)), (3, .c (.f 1 2 0 (dlen (d_Item w1)))), (4, .c (.r (.v (.int .i64 v1))))], tab := [(0, some (.foc 5 [] [.r (.s 2 (r_Item a0_Belt)), .r (.s 3 (r_Chute a0_Chutes)), .r (.s 2 (r_Inlet a0_Inlets)), .r (.s 1 (r_I64 a0_Plan)), .r (.v (.int .i64 a0_Now))] [])), (1, some (.arr 2 (d_Item w1)))] } : St)) 2 (fun p => a0_Belt.length - p.1.1) ⟨(0, 0, l1), Nat.zero_le _, rfl, ho1⟩ (List Item) (fun y1 => ({ sl := [(1, .c (.p 0 5 0 0)), (3, .c (.f 1 2 0 (dlen (d_Item y1))))], tab := [(0, some (.foc 5 [] [.r (.s 2 (r_Item a0_Belt)), .r (.s 3 (r_Chute a0_Chutes)), .r (.s 2 (r_Inlet a0_Inlets)), .r (.s 1 (r_I64 a0_Plan)), .r (.v (.int .i64 a0_Now))] [])), (1, some (.arr 2 (d_Item y1)))] } : St)) 2 (fun y => o1 = y) ?_ ?_ ?_
  · refine Wk.of [(0, some 0), (1, some 32)] rfl rfl ?_ ?_
    · cbv
      all_goals exact ⟨⟨_, rfl, rfl⟩, ⟨_, rfl, rfl⟩, ⟨_, rfl, rfl⟩, trivial⟩
    · cbv
      all_goals exact ⟨⟨_, rfl, _, rfl, rfl, rfl, rfl, rfl, rfl, trivial⟩, ⟨_, rfl, rfl⟩, trivial⟩
  · rintro ⟨⟨k1, v1, w1⟩, hk1, hi1, h_1⟩ hq1
    have hm1 := (hq1.2.2.1 0 _ _ _ _ 0 _ _ rfl rfl)
    try dsimp only at hk1 hi1 h_1
    clear hq1
    cbv
    by_cases hc1_ : k1 < a0_Belt.length
    · have hb1 : lt v1 (llen (r_Item a0_Belt)) = true := ltL_true_Item hg ht hi1 hc1_
      have hs1 := stepL_Item hg ht hi1 hc1_ hm1
      obtain ⟨z1, hz1⟩ := some_of_lt hc1_
      rw [drop_of_some hz1] at h_1
      rw [S_l7All_l1] at h_1
      obtain ⟨z1_Id, z1_Dest⟩ := z1
      try rw [← hg] at h_1
      try rw [← ht] at h_1
      try dsimp only at h_1
      rw [hb1]
      cbv
      refine AStep.mk (nn_L hi1) ?_
      cbv
      refine AGet.mk _ (r_getL_Item hg ht hi1 hz1) ?_
      cbv
      cases hb2 : (eq z1_Id 0) with
      | true =>
        rw [br_true hb2] at h_1
        cbv
        try (rw [hb2]; cbv)
        try (rw [hb2]; cbv)
        try (rw [hb2]; cbv)
        refine AStep.mk (nn_L hi1) ?_
        cbv
        refine AGet.mk _ (r_getL_Item hg ht hi1 hz1) ?_
        cbv
        try (rw [hb2]; cbv)
        try (rw [hb2]; cbv)
        try (rw [hb2]; cbv)
        try (rw [hb2]; cbv)
        cases hb3 : (eq z1_Dest 0) with
        | true =>
          rw [br_true hb3] at h_1
          cbv
          try rw [hg] at h_1
          try rw [ht] at h_1
          refine ⟨⟨(k1 + 1, (wrap .i64 (add v1 1)), w1), hc1_, hs1, h_1⟩, Wk.of [(0, some 0), (1, some 1)] rfl rfl ?_ ?_, meas_L hc1_⟩
          · cbv
            all_goals exact ⟨⟨_, rfl, rfl⟩, ⟨_, rfl, rfl⟩, ⟨_, rfl, rfl⟩, trivial⟩
          · cbv
            all_goals exact ⟨⟨_, rfl, _, rfl, rfl, rfl, rfl, rfl, rfl, trivial⟩, ⟨_, rfl, rfl⟩, trivial⟩
        | false =>
          rw [br_false hb3] at h_1
          cbv
          refine AStep.mk (nn_L hi1) ?_
          cbv
          refine AGet.mk _ (r_getL_Item hg ht hi1 hz1) ?_
          cbv
          obtain ⟨l2, hl2, h_1⟩ := of_lP h_1
          try dsimp only at h_1
          refine ANew.mk (d_Item l2) (dlen (d_Item l2)) (by rw [← hl2]; exact lit_Item hg ht [(Item.mk z1_Id z1_Dest)]) (by rw [← hl2]; exact litn_Item hg ht [(Item.mk z1_Id z1_Dest)]) ?_
          cbv
          obtain ⟨hc1, h_1⟩ := of_gd h_1
          refine AStep.mk ⟨⟨rfl, (dlen_Item hg ht _)⟩, (app_ok_Item hg ht (dlen_Item hg ht _) rfl hc1)⟩ ?_
          cbv
          obtain ⟨l3, hl3, h_1⟩ := of_lP h_1
          try dsimp only at h_1
          refine ANew.mk (d_Item l3) (dlen (d_Item l3)) (by rw [← hl3]; exact app_Item hg ht (dlen_Item hg ht _) rfl) (by rw [← hl3]; exact appl_Item hg ht (dlen_Item hg ht _) rfl) ?_
          cbv
          try rw [hg] at h_1
          try rw [ht] at h_1
          refine ⟨⟨(k1 + 1, (wrap .i64 (add v1 1)), l3), hc1_, hs1, h_1⟩, Wk.of [(0, some 0), (1, some 450)] rfl rfl ?_ ?_, meas_L hc1_⟩
          · cbv
            all_goals exact ⟨⟨_, rfl, rfl⟩, ⟨_, rfl, rfl⟩, ⟨_, rfl, rfl⟩, trivial⟩
          · cbv
            all_goals exact ⟨⟨_, rfl, _, rfl, rfl, rfl, rfl, rfl, rfl, trivial⟩, ⟨_, rfl, rfl⟩, trivial⟩
      | false =>
        rw [br_false hb2] at h_1
        cbv
        try (rw [hb2]; cbv)
        try (rw [hb2]; cbv)
        try (rw [hb2]; cbv)
        try (rw [hb2]; cbv)
        try (rw [hb2]; cbv)
        try (rw [hb2]; cbv)
        try (rw [hb2]; cbv)
        refine AStep.mk (nn_L hi1) ?_
        cbv
        refine AGet.mk _ (r_getL_Item hg ht hi1 hz1) ?_
        cbv
        obtain ⟨l4, hl4, h_1⟩ := of_lP h_1
        try dsimp only at h_1
        refine ANew.mk (d_Item l4) (dlen (d_Item l4)) (by rw [← hl4]; exact lit_Item hg ht [(Item.mk z1_Id z1_Dest)]) (by rw [← hl4]; exact litn_Item hg ht [(Item.mk z1_Id z1_Dest)]) ?_
        cbv
        obtain ⟨hc2, h_1⟩ := of_gd h_1
        refine AStep.mk ⟨⟨rfl, (dlen_Item hg ht _)⟩, (app_ok_Item hg ht (dlen_Item hg ht _) rfl hc2)⟩ ?_
        cbv
        obtain ⟨l5, hl5, h_1⟩ := of_lP h_1
        try dsimp only at h_1
        refine ANew.mk (d_Item l5) (dlen (d_Item l5)) (by rw [← hl5]; exact app_Item hg ht (dlen_Item hg ht _) rfl) (by rw [← hl5]; exact appl_Item hg ht (dlen_Item hg ht _) rfl) ?_
        cbv
        try rw [hg] at h_1
        try rw [ht] at h_1
        refine ⟨⟨(k1 + 1, (wrap .i64 (add v1 1)), l5), hc1_, hs1, h_1⟩, Wk.of [(0, some 0), (1, some 450)] rfl rfl ?_ ?_, meas_L hc1_⟩
        · cbv
          all_goals exact ⟨⟨_, rfl, rfl⟩, ⟨_, rfl, rfl⟩, ⟨_, rfl, rfl⟩, trivial⟩
        · cbv
          all_goals exact ⟨⟨_, rfl, _, rfl, rfl, rfl, rfl, rfl, rfl, trivial⟩, ⟨_, rfl, rfl⟩, trivial⟩
    · have hb1 : lt v1 (llen (r_Item a0_Belt)) = false := ltL_false_Item hg ht hi1 hc1_
      rw [List.drop_of_length_le (Nat.le_of_not_lt hc1_)] at h_1
      rw [S_l7All_l1] at h_1
      try rw [← hg] at h_1
      try rw [← ht] at h_1
      try dsimp only at h_1
      rw [hb1]
      cbv
      refine ⟨w1, Wk.of [(0, some 0), (1, some 1)] rfl rfl ?_ ?_, (Option.some.inj h_1).symm⟩
      · cbv
        all_goals exact ⟨⟨_, rfl, rfl⟩, ⟨_, rfl, rfl⟩, trivial⟩
      · cbv
        all_goals exact ⟨⟨_, rfl, _, rfl, rfl, rfl, rfl, rfl, rfl, trivial⟩, ⟨_, rfl, rfl⟩, trivial⟩
  · rintro y1 hy1
    replace hy1 := hy1.symm
    subst hy1
    try dsimp only [lr, lrL, lrp, lrpL] at h
    cbv
    obtain ⟨o2, ho2, h⟩ := of_cl h
    try dsimp only at h
    try rw [hg] at ho2
    try rw [ht] at ho2
    refine ABL.mk { p : Nat × Int × List Item // p.1 ≤ a0_Chutes.length ∧ p.2.1 = ((p.1 : Nat) : Int) ∧ S_l7All_l2 G.real TE.real (List.drop p.1 a0_Chutes) p.2.2 = some o2 } (fun ⟨⟨k2, v2, w2⟩, _⟩ => ({ sl := [(1, .c (.p 0 5 0 0)), (3, .c (.f 1 2 0 (dlen (d_Item w2)))), (5, .c (.r (.v (.int .i64 v2))))], tab := [(0, some (.foc 5 [] [.r (.s 2 (r_Item a0_Belt)), .r (.s 3 (r_Chute a0_Chutes)), .r (.s 2 (r_Inlet a0_Inlets)), .r (.s 1 (r_I64 a0_Plan)), .r (.v (.int .i64 a0_Now))] [])), (1, some (.arr 2 (d_Item w2)))] } : St)) 2 (fun p => a0_Chutes.length - p.1.1) ⟨(0, 0, y1), Nat.zero_le _, rfl, ho2⟩ (List Item) (fun y2 => ({ sl := [(1, .c (.p 0 5 0 0)), (3, .c (.f 1 2 0 (dlen (d_Item y2))))], tab := [(0, some (.foc 5 [] [.r (.s 2 (r_Item a0_Belt)), .r (.s 3 (r_Chute a0_Chutes)), .r (.s 2 (r_Inlet a0_Inlets)), .r (.s 1 (r_I64 a0_Plan)), .r (.v (.int .i64 a0_Now))] [])), (1, some (.arr 2 (d_Item y2)))] } : St)) 2 (fun y => o2 = y) ?_ ?_ ?_
    · refine Wk.of [(0, some 0), (1, some 1)] rfl rfl ?_ ?_
      · cbv
        all_goals exact ⟨⟨_, rfl, rfl⟩, ⟨_, rfl, rfl⟩, ⟨_, rfl, rfl⟩, trivial⟩
      · cbv
        all_goals exact ⟨⟨_, rfl, _, rfl, rfl, rfl, rfl, rfl, rfl, trivial⟩, ⟨_, rfl, rfl⟩, trivial⟩
    · rintro ⟨⟨k2, v2, w2⟩, hk2, hi2, h_2⟩ hq2
      have hm2 := (hq2.2.2.1 0 _ _ _ _ 1 _ _ rfl rfl)
      try dsimp only at hk2 hi2 h_2
      clear hq2
      cbv
      by_cases hc2_ : k2 < a0_Chutes.length
      · have hb4 : lt v2 (llen (r_Chute a0_Chutes)) = true := ltL_true_Chute hg ht hi2 hc2_
        have hs2 := stepL_Chute hg ht hi2 hc2_ hm2
        obtain ⟨z2, hz2⟩ := some_of_lt hc2_
        rw [drop_of_some hz2] at h_2
        rw [S_l7All_l2] at h_2
        obtain ⟨z2_Cell, z2_Room, z2_Held⟩ := z2
        try rw [← hg] at h_2
        try rw [← ht] at h_2
        try dsimp only at h_2
        rw [hb4]
        cbv
        refine AStep.mk (nn_L hi2) ?_
        cbv
        refine AGet.mk _ (r_getL_Chute hg ht hi2 hz2) ?_
        cbv
        obtain ⟨hc3, h_2⟩ := of_gd h_2
        refine AStep.mk (app_ok_Item hg ht (dlen_Item hg ht _) (up_Item hg ht _) hc3) ?_
        cbv
        obtain ⟨l6, hl6, h_2⟩ := of_lP h_2
        try dsimp only at h_2
        refine ANew.mk (d_Item l6) (dlen (d_Item l6)) (by rw [← hl6]; exact app_Item hg ht (dlen_Item hg ht _) (up_Item hg ht _)) (by rw [← hl6]; exact appl_Item hg ht (dlen_Item hg ht _) (up_Item hg ht _)) ?_
        cbv
        try rw [hg] at h_2
        try rw [ht] at h_2
        refine ⟨⟨(k2 + 1, (wrap .i64 (add v2 1)), l6), hc2_, hs2, h_2⟩, Wk.of [(0, some 0), (1, some 194)] rfl rfl ?_ ?_, meas_L hc2_⟩
        · cbv
          all_goals exact ⟨⟨_, rfl, rfl⟩, ⟨_, rfl, rfl⟩, ⟨_, rfl, rfl⟩, trivial⟩
        · cbv
          all_goals exact ⟨⟨_, rfl, _, rfl, rfl, rfl, rfl, rfl, rfl, trivial⟩, ⟨_, rfl, rfl⟩, trivial⟩
      · have hb4 : lt v2 (llen (r_Chute a0_Chutes)) = false := ltL_false_Chute hg ht hi2 hc2_
        rw [List.drop_of_length_le (Nat.le_of_not_lt hc2_)] at h_2
        rw [S_l7All_l2] at h_2
        try rw [← hg] at h_2
        try rw [← ht] at h_2
        try dsimp only at h_2
        rw [hb4]
        cbv
        refine ⟨w2, Wk.of [(0, some 0), (1, some 1)] rfl rfl ?_ ?_, (Option.some.inj h_2).symm⟩
        · cbv
          all_goals exact ⟨⟨_, rfl, rfl⟩, ⟨_, rfl, rfl⟩, trivial⟩
        · cbv
          all_goals exact ⟨⟨_, rfl, _, rfl, rfl, rfl, rfl, rfl, rfl, trivial⟩, ⟨_, rfl, rfl⟩, trivial⟩
    · rintro y2 hy2
      replace hy2 := hy2.symm
      subst hy2
      try dsimp only [lr, lrL, lrp, lrpL] at h
      cbv
      obtain ⟨o3, ho3, h⟩ := of_cl h
      try dsimp only at h
      try rw [hg] at ho3
      try rw [ht] at ho3
      refine ABL.mk { p : Nat × Int × List Item // p.1 ≤ a0_Inlets.length ∧ p.2.1 = ((p.1 : Nat) : Int) ∧ S_l7All_l3 G.real TE.real (List.drop p.1 a0_Inlets) p.2.2 = some o3 } (fun ⟨⟨k3, v3, w3⟩, _⟩ => ({ sl := [(1, .c (.p 0 5 0 0)), (3, .c (.f 1 2 0 (dlen (d_Item w3)))), (6, .c (.r (.v (.int .i64 v3))))], tab := [(0, some (.foc 5 [] [.r (.s 2 (r_Item a0_Belt)), .r (.s 3 (r_Chute a0_Chutes)), .r (.s 2 (r_Inlet a0_Inlets)), .r (.s 1 (r_I64 a0_Plan)), .r (.v (.int .i64 a0_Now))] [])), (1, some (.arr 2 (d_Item w3)))] } : St)) 2 (fun p => a0_Inlets.length - p.1.1) ⟨(0, 0, y2), Nat.zero_le _, rfl, ho3⟩ (List Item) (fun y3 => ({ sl := [(3, .c (.f 0 2 0 (dlen (d_Item y3))))], tab := [(0, some (.arr 2 (d_Item y3)))] } : St)) 1 (fun y => o3 = y) ?_ ?_ ?_
      · refine Wk.of [(0, some 0), (1, some 1)] rfl rfl ?_ ?_
        · cbv
          all_goals exact ⟨⟨_, rfl, rfl⟩, ⟨_, rfl, rfl⟩, ⟨_, rfl, rfl⟩, trivial⟩
        · cbv
          all_goals exact ⟨⟨_, rfl, _, rfl, rfl, rfl, rfl, rfl, rfl, trivial⟩, ⟨_, rfl, rfl⟩, trivial⟩
      · rintro ⟨⟨k3, v3, w3⟩, hk3, hi3, h_3⟩ hq3
        have hm3 := (hq3.2.2.1 0 _ _ _ _ 2 _ _ rfl rfl)
        try dsimp only at hk3 hi3 h_3
        clear hq3
        cbv
        by_cases hc3_ : k3 < a0_Inlets.length
        · have hb5 : lt v3 (llen (r_Inlet a0_Inlets)) = true := ltL_true_Inlet hg ht hi3 hc3_
          have hs3 := stepL_Inlet hg ht hi3 hc3_ hm3
          obtain ⟨z3, hz3⟩ := some_of_lt hc3_
          rw [drop_of_some hz3] at h_3
          rw [S_l7All_l3] at h_3
          obtain ⟨z3_Cell, z3_Wait⟩ := z3
          try rw [← hg] at h_3
          try rw [← ht] at h_3
          try dsimp only at h_3
          rw [hb5]
          cbv
          refine AStep.mk (nn_L hi3) ?_
          cbv
          refine AGet.mk _ (r_getL_Inlet hg ht hi3 hz3) ?_
          cbv
          obtain ⟨hc4, h_3⟩ := of_gd h_3
          refine AStep.mk (app_ok_Item hg ht (dlen_Item hg ht _) (up_Item hg ht _) hc4) ?_
          cbv
          obtain ⟨l7, hl7, h_3⟩ := of_lP h_3
          try dsimp only at h_3
          refine ANew.mk (d_Item l7) (dlen (d_Item l7)) (by rw [← hl7]; exact app_Item hg ht (dlen_Item hg ht _) (up_Item hg ht _)) (by rw [← hl7]; exact appl_Item hg ht (dlen_Item hg ht _) (up_Item hg ht _)) ?_
          cbv
          try rw [hg] at h_3
          try rw [ht] at h_3
          refine ⟨⟨(k3 + 1, (wrap .i64 (add v3 1)), l7), hc3_, hs3, h_3⟩, Wk.of [(0, some 0), (1, some 194)] rfl rfl ?_ ?_, meas_L hc3_⟩
          · cbv
            all_goals exact ⟨⟨_, rfl, rfl⟩, ⟨_, rfl, rfl⟩, ⟨_, rfl, rfl⟩, trivial⟩
          · cbv
            all_goals exact ⟨⟨_, rfl, _, rfl, rfl, rfl, rfl, rfl, rfl, trivial⟩, ⟨_, rfl, rfl⟩, trivial⟩
        · have hb5 : lt v3 (llen (r_Inlet a0_Inlets)) = false := ltL_false_Inlet hg ht hi3 hc3_
          rw [List.drop_of_length_le (Nat.le_of_not_lt hc3_)] at h_3
          rw [S_l7All_l3] at h_3
          try rw [← hg] at h_3
          try rw [← ht] at h_3
          try dsimp only at h_3
          rw [hb5]
          cbv
          refine ⟨w3, Wk.of [(0, some 1)] rfl rfl ?_ ?_, (Option.some.inj h_3).symm⟩
          · cbv
            all_goals exact ⟨⟨_, rfl, rfl⟩, trivial⟩
          · cbv
            all_goals exact ⟨⟨_, rfl, rfl⟩, trivial⟩
      · rintro y3 hy3
        replace hy3 := hy3.symm
        subst hy3
        try dsimp only [lr, lrL, lrp, lrpL] at h
        cbv
        obtain rfl := Option.some.inj h
        exact ARet.mk ⟨rfl, (dlen_Item hg ht _)⟩ hX.symm
end Go.Vs
namespace Go.Vs
set_option maxRecDepth 100000
def ir88 : J :=
  .seq (.reg none [⟨(some 2), none, .box (.t 0)⟩,
     ⟨(some 4), none, .mv (.k (V.b false))⟩] [1, 2])
  (.seq (.reg none [⟨(some 5), none, .fa 0 (.t 2)⟩,
     ⟨(some 6), none, .ld false 1 (.t 5)⟩,
     ⟨(some 7), none, .call 85 true [(.t 6), (.k (V.i 1)), (.k (V.i 9999))]⟩,
     ⟨(some 8), none, .mv (.t 7)⟩,
     ⟨(some 9), (some (8, true)), .fa 1 (.t 2)⟩,
     ⟨(some 10), (some (8, true)), .ld false 1 (.t 9)⟩,
     ⟨(some 11), (some (8, true)), .mv (.t 1)⟩,
     ⟨(some 12), (some (8, true)), .len false (.t 11)⟩,
     ⟨(some 13), (some (8, true)), .bin .sub .i (.t 12) (.k (V.i 1))⟩,
     ⟨(some 14), (some (8, true)), .call 85 true [(.t 10), (.k (V.i 0)), (.t 13)]⟩,
     ⟨(some 15), none, .pick (.t 8) (.t 14) (.k (V.b false))⟩,
     ⟨(some 4), none, .mv (.t 15)⟩] [4])
  (.ret))
def rv88 : List RV := [.t 4]
open Go.Proofs Go.IntWalk
set_option linter.unusedVariables false
set_option maxRecDepth 100000
set_option maxHeartbeats 4000000
def S_l7Item (g : G) (t : TE) (a0 : Item) (a1 : List Int) : Bool :=
  lP (S_l1In g t a0.Id 1 9999) fun x1 =>
  br x1
  (
   lP (S_l1In g t a0.Dest 0 (g.wrap .i64 (g.sub (g.llen (t.r_I64 a1)) 1))) fun x2 =>
   x2)
  (
   false)
theorem fit88 : codeFit Try.prog Try.f88.ntmps (Try.f88.body.getD .skip) ir88 = true := by kernel_rfl
theorem c_S_l7Item {g : G} {t : TE} {a0 : Item} {a1 : List Int} {r : Bool} (hg : g = G.real) (ht : t = TE.real) (h : S_l7Item g t a0 a1 = r) : Fn Try.prog 88 [.g (Item.rs t a0), .c (.s 1 (t.r_I64 a1))] (.c (.r (.v (.bool r)))) := by
  obtain ⟨X, hX⟩ := hide (.c (.r (.v (.bool r))) : X)
  rw [← hX]
  refine fn_of (rvs := rv88) (j := ir88) Try.func88 rfl fit88 (Nat.le_of_ble_eq_true rfl) (by kernel_rfl) prog_mixed ?_
  intro g2 F hg2 hF
  obtain rfl : g2 = g := hg2.unique.trans hg.symm
  clear hg2
  obtain ⟨wrap, lt, le, eq, quo, rem, band, bor, bxor, shl, shr, nat, int, add, sub, mul, cat, seq, slt, sub3, byte, llen, nadd, nsub, dlen, dapp, dset, drep, rd, rda, up, rsub, dsub, all, sle, slen, hasI, putI, hasS, putS, imin, imax, fzc⟩ := g2
  obtain ⟨r_Item, d_Item, r_Chute, d_Chute, r_Inlet, d_Inlet, r_I64, d_I64, r_U8, d_U8, d_InletF⟩ := t
  obtain ⟨a0_Id, a0_Dest⟩ := a0
  unfold S_l7Item at h
  try dsimp only at h
  cbv
  obtain ⟨x1, hx1, h⟩ := of_lP h
  try dsimp only at h
  refine ACall.mk _ _ rfl (hF _ _ _ (c_S_l1In hg ht hx1)) (.inl rfl) (Nat.le_of_ble_eq_true rfl) ?_
  cbv
  cases hb1 : x1 with
  | true =>
    rw [br_true hb1] at h
    cbv
    try (rw [hb1]; cbv)
    try (rw [hb1]; cbv)
    try (rw [hb1]; cbv)
    try (rw [hb1]; cbv)
    try (rw [hb1]; cbv)
    obtain ⟨x2, hx2, h⟩ := of_lP h
    try dsimp only at h
    refine ACall.mk _ _ rfl (hF _ _ _ (c_S_l1In hg ht hx2)) (.inl rfl) (Nat.le_of_ble_eq_true rfl) ?_
    cbv
    try (rw [hb1]; cbv)
    subst h
    exact ARet.mk trivial hX.symm
  | false =>
    rw [br_false hb1] at h
    cbv
    try (rw [hb1]; cbv)
    try (rw [hb1]; cbv)
    try (rw [hb1]; cbv)
    try (rw [hb1]; cbv)
    try (rw [hb1]; cbv)
    try (rw [hb1]; cbv)
    subst h
    exact ARet.mk trivial hX.symm
end Go.Vs
namespace Go.Vs
set_option maxRecDepth 100000
def ir31 : J :=
  .seq (.reg none [⟨(some 1), none, .box (.t 0)⟩,
     ⟨(some 2), none, .mv (.k (V.b false))⟩] [1])
  (.seq (.seq (.reg none [⟨(some 6), none, .fa 0 (.t 1)⟩,
      ⟨(some 7), none, .ld false 1 (.t 6)⟩,
      ⟨(some 8), none, .len false (.t 7)⟩,
      ⟨(some 9), none, .call 85 true [(.t 8), (.k (V.i 2)), (.k (V.i 24))]⟩,
      ⟨(some 10), none, .not (.t 9)⟩,
      ⟨(some 11), none, .mv (.t 10)⟩,
      ⟨(some 12), (some (11, false)), .ld true 5 (.t 1)⟩,
      ⟨(some 13), (some (11, false)), .call 86 true [(.t 12)]⟩,
      ⟨(some 14), (some (11, false)), .not (.t 13)⟩,
      ⟨(some 15), none, .pick (.t 11) (.k (V.b true)) (.t 14)⟩,
      ⟨(some 16), none, .mv (.t 15)⟩,
      ⟨(some 17), (some (16, false)), .fa 4 (.t 1)⟩,
      ⟨(some 18), (some (16, false)), .ld false 1 (.t 17)⟩,
      ⟨(some 19), (some (16, false)), .call 85 true [(.t 18), (.k (V.i 0)), (.k (V.i 100000))]⟩,
      ⟨(some 20), (some (16, false)), .not (.t 19)⟩,
      ⟨(some 21), none, .pick (.t 16) (.k (V.b true)) (.t 20)⟩] [1, 21])
   (.cond (.t 21)
    (.seq (.reg none [⟨(some 2), none, .mv (.k (V.b false))⟩] [2])
     (.ret))
    (.skip)))
  (.seq (.reg none [⟨(some 22), none, .ld true 5 (.t 1)⟩,
     ⟨(some 23), none, .call 87 true [(.t 22)]⟩,
     ⟨(some 3), none, .mv (.t 23)⟩] [1, 3])
  (.seq (.seq (.reg none [⟨(some 4), none, .mv (.k (V.i 0))⟩] [1, 3, 4])
   (.bl 0 (.seq (.seq (.reg none [⟨(some 24), none, .mv (.t 4)⟩,
        ⟨(some 25), none, .mv (.t 3)⟩,
        ⟨(some 26), none, .len false (.t 25)⟩,
        ⟨(some 27), none, .bin .lss .i (.t 24) (.t 26)⟩] [1, 3, 4, 27])
     (.cond (.t 27)
      (.skip)
      (.exit 0)))
    (.seq (.block 1 (.seq (.seq (.reg (some [[], [], [0, 1], [0, 1, 2], [], [4], [0, 1, 2, 3, 4, 5], [0, 1, 2, 3, 4, 5, 6]]) [⟨(some 30), none, .mv (.t 3)⟩,
          ⟨(some 31), none, .mv (.t 4)⟩,
          ⟨(some 32), none, .ia 2 (.t 30) (.t 31)⟩,
          ⟨(some 33), none, .ld true 2 (.t 32)⟩,
          ⟨(some 34), none, .fa 3 (.t 1)⟩,
          ⟨(some 35), none, .ld false 1 (.t 34)⟩,
          ⟨(some 36), none, .call 88 true [(.t 33), (.t 35)]⟩,
          ⟨(some 37), none, .not (.t 36)⟩] [1, 3, 4, 37])
       (.cond (.t 37)
        (.seq (.reg none [⟨(some 2), none, .mv (.k (V.b false))⟩] [2])
         (.ret))
        (.skip)))
      (.seq (.reg none [⟨(some 5), none, .mv (.k (V.i 0))⟩] [1, 3, 4, 5])
      (.bl 2 (.seq (.seq (.reg none [⟨(some 38), none, .mv (.t 5)⟩,
           ⟨(some 39), none, .mv (.t 4)⟩,
           ⟨(some 40), none, .bin .lss .i (.t 38) (.t 39)⟩] [1, 3, 4, 5, 40])
        (.cond (.t 40)
         (.skip)
         (.exit 2)))
       (.seq (.block 3 (.seq (.reg (some [[], [], [0, 1], [0, 1, 2], [0, 1, 2, 3], [], [], [5, 6], [5, 6, 7], [5, 6, 7, 8], [0, 1, 2, 3, 4, 5, 6, 7, 8, 9]]) [⟨(some 43), none, .mv (.t 3)⟩,
            ⟨(some 44), none, .mv (.t 5)⟩,
            ⟨(some 45), none, .ia 2 (.t 43) (.t 44)⟩,
            ⟨(some 46), none, .fa 0 (.t 45)⟩,
            ⟨(some 47), none, .ld false 1 (.t 46)⟩,
            ⟨(some 48), none, .mv (.t 3)⟩,
            ⟨(some 49), none, .mv (.t 4)⟩,
            ⟨(some 50), none, .ia 2 (.t 48) (.t 49)⟩,
            ⟨(some 51), none, .fa 0 (.t 50)⟩,
            ⟨(some 52), none, .ld false 1 (.t 51)⟩,
            ⟨(some 53), none, .bin .eql .i (.t 47) (.t 52)⟩] [1, 3, 4, 5, 53])
         (.cond (.t 53)
          (.seq (.reg none [⟨(some 2), none, .mv (.k (V.b false))⟩] [2])
           (.ret))
          (.skip))))
       (.reg none [⟨(some 41), none, .mv (.t 5)⟩,
         ⟨(some 42), none, .bin .add .i (.t 41) (.k (V.i 1))⟩,
         ⟨(some 5), none, .mv (.t 42)⟩] [1, 3, 4, 5])))))))
    (.reg none [⟨(some 28), none, .mv (.t 4)⟩,
      ⟨(some 29), none, .bin .add .i (.t 28) (.k (V.i 1))⟩,
      ⟨(some 4), none, .mv (.t 29)⟩] [1, 3, 4])))))
  (.seq (.reg none [⟨(some 2), none, .mv (.k (V.b true))⟩] [2])
  (.ret)))))
def rv31 : List RV := [.t 2]
open Go.Proofs Go.IntWalk
set_option linter.unusedVariables false
set_option maxRecDepth 100000
set_option maxHeartbeats 4000000
def S_IsCentre_l2 (g : G) (t : TE) (x4 : List Item) (x5 : Item) : Nat → Int → Option (LR Bool Unit)
  | 0, v2 =>
    some (LR.out ())
  | n2 + 1, v2 =>
    gd (((0 : Int) ≤ v2 ∧ v2 < (((g.dlen (t.d_Item x4)) : Nat) : Int))) <|
    gt x4 (g.nat v2) fun x7 =>
    br (g.eq x7.Id x5.Id)
    (
     some (LR.ret false))
    (
     S_IsCentre_l2 g t x4 x5 n2 (g.wrap .i64 (g.add v2 1)))
def S_IsCentre_l1 (g : G) (t : TE) (a0 : Centre) (x4 : List Item) : Nat → Int → Option (LR Bool Unit)
  | 0, v1 =>
    some (LR.out ())
  | n1 + 1, v1 =>
    gt x4 (g.nat v1) fun x5 =>
    lP (S_l7Item g t x5 a0.Plan) fun x6 =>
    br x6
    (
     gd ((v1 ≤ 4611686018427387904)) <|
     cl (S_IsCentre_l2 g t x4 x5 (cntLt 0 v1) 0) fun o2 => lrL o2 fun y1 =>
     S_IsCentre_l1 g t a0 x4 n1 (g.wrap .i64 (g.add v1 1)))
    (
     some (LR.ret false))
def S_IsCentre (g : G) (t : TE) (a0 : Centre) : Option Bool :=
  lP (S_l1In g t (g.llen (t.r_Item a0.Belt)) 2 24) fun x1 =>
  br x1
  (
   cl (S_l7Parts g t a0) fun x2 =>
   br x2
   (
    lP (S_l1In g t a0.Now 0 100000) fun x3 =>
    br x3
    (
     cl (S_l7All g t a0) fun x4 =>
     gd (((g.int (g.dlen (t.d_Item x4))) ≤ 4611686018427387904)) <|
     cl (S_IsCentre_l1 g t a0 x4 (cntLt 0 (g.int (g.dlen (t.d_Item x4)))) 0) fun o1 => lr o1 fun y2 =>
     some true)
    (
     some false))
   (
    some false))
  (
   some false)
theorem fit31 : codeFit Try.prog Try.f31.ntmps (Try.f31.body.getD .skip) ir31 = true := by kernel_rfl
theorem c_S_IsCentre {g : G} {t : TE} {a0 : Centre} {r : Bool} (hg : g = G.real) (ht : t = TE.real) (h : S_IsCentre g t a0 = some r) : Fn Try.prog 31 [.g (Centre.rs t a0)] (.c (.r (.v (.bool r)))) := by
  obtain ⟨X, hX⟩ := hide (.c (.r (.v (.bool r))) : X)
  rw [← hX]
  refine fn_of (rvs := rv31) (j := ir31) Try.func31 rfl fit31 (Nat.le_of_ble_eq_true rfl) (by kernel_rfl) prog_mixed ?_
  intro g2 F hg2 hF
  obtain rfl : g2 = g := hg2.unique.trans hg.symm
  clear hg2
  obtain ⟨wrap, lt, le, eq, quo, rem, band, bor, bxor, shl, shr, nat, int, add, sub, mul, cat, seq, slt, sub3, byte, llen, nadd, nsub, dlen, dapp, dset, drep, rd, rda, up, rsub, dsub, all, sle, slen, hasI, putI, hasS, putS, imin, imax, fzc⟩ := g2
  obtain ⟨r_Item, d_Item, r_Chute, d_Chute, r_Inlet, d_Inlet, r_I64, d_I64, r_U8, d_U8, d_InletF⟩ := t
  obtain ⟨a0_Belt, a0_Chutes, a0_Inlets, a0_Plan, a0_Now⟩ := a0
  unfold S_IsCentre at h
  try dsimp only at h
  cbv
  obtain ⟨x1, hx1, h⟩ := of_lP h
  try dsimp only at h
  refine ACall.mk _ _ rfl (hF _ _ _ (c_S_l1In hg ht hx1)) (.inl rfl) (Nat.le_of_ble_eq_true rfl) ?_
  cbv
  cases hb1 : x1 with
  | true =>
    rw [br_true hb1] at h
    cbv
    try (rw [hb1]; cbv)
    obtain ⟨x2, hx2, h⟩ := of_cl h
    try dsimp only at h
    refine ACall.mk _ _ rfl (hF _ _ _ (c_S_l7Parts hg ht hx2)) (.inl rfl) (Nat.le_of_ble_eq_true rfl) ?_
    cbv
    try (rw [hb1]; cbv)
    try (rw [hb1]; cbv)
    cases hb2 : x2 with
    | true =>
      rw [br_true hb2] at h
      cbv
      try (rw [hb2]; cbv)
      try (rw [hb2]; cbv)
      obtain ⟨x3, hx3, h⟩ := of_lP h
      try dsimp only at h
      refine ACall.mk _ _ rfl (hF _ _ _ (c_S_l1In hg ht hx3)) (.inl rfl) (Nat.le_of_ble_eq_true rfl) ?_
      cbv
      try (rw [hb2]; cbv)
      try (rw [hb2]; cbv)
      cases hb3 : x3 with
      | true =>
        rw [br_true hb3] at h
        cbv
        obtain ⟨x4, hx4, h⟩ := of_cl h
        try dsimp only at h
        refine ACall.mk _ _ rfl (hF _ _ _ (c_S_l7All hg ht hx4)) (.inl rfl) (Nat.le_of_ble_eq_true rfl) ?_
        cbv
        obtain ⟨hB1, h⟩ := of_gd h
        obtain ⟨o1, ho1, h⟩ := of_cl h
        try dsimp only at h
        try rw [hg] at ho1
        try rw [ht] at ho1
        refine ABL.mk { p : Nat × Int // p.1 = cntLt p.2 (int (dlen (d_Item x4))) ∧ 0 ≤ p.2 ∧ S_IsCentre_l1 G.real TE.real (Centre.mk a0_Belt a0_Chutes a0_Inlets a0_Plan a0_Now) x4 p.1 p.2 = some o1 } (fun ⟨⟨n1, v1⟩, _⟩ => ({ sl := [(1, .c (.p 0 5 0 0)), (3, .c (.f 1 2 0 (dlen (d_Item x4)))), (4, .c (.r (.v (.int .i64 v1))))], tab := [(0, some (.foc 5 [] [.r (.s 2 (r_Item a0_Belt)), .r (.s 3 (r_Chute a0_Chutes)), .r (.s 2 (r_Inlet a0_Inlets)), .r (.s 1 (r_I64 a0_Plan)), .r (.v (.int .i64 a0_Now))] [])), (1, some (.arr 2 (d_Item x4)))] } : St)) 2 (fun p => p.1.1) ⟨(cntLt 0 (int (dlen (d_Item x4))), 0), rfl, Int.le_refl _, ho1⟩ (Unit) (fun _ => ({ sl := [], tab := [] } : St)) 0 (fun y => o1 = LR.out y) ?_ ?_ ?_
        · refine Wk.of [(0, some 0), (1, some 304)] rfl rfl ?_ ?_
          · cbv
            all_goals exact ⟨⟨_, rfl, rfl⟩, ⟨_, rfl, rfl⟩, ⟨_, rfl, rfl⟩, trivial⟩
          · cbv
            all_goals exact ⟨⟨_, rfl, _, rfl, rfl, rfl, rfl, rfl, rfl, trivial⟩, ⟨_, rfl, rfl⟩, trivial⟩
        · rintro ⟨⟨n1, v1⟩, hn1, hi1, h_1⟩ hq1
          try dsimp only at hn1 hi1 h_1
          clear hq1
          cbv
          rcases n1 with _ | n1
          · have hb4 : lt v1 (int (dlen (d_Item x4))) = false := ltC_false hg hn1
            rw [S_IsCentre_l1] at h_1
            try rw [← hg] at h_1
            try rw [← ht] at h_1
            try dsimp only at h_1
            rw [hb4]
            cbv
            refine ⟨(), Wk.of [] rfl rfl ?_ ?_, (Option.some.inj h_1).symm⟩
            · cbv
              all_goals exact trivial
            · cbv
              all_goals exact trivial
          · have hb4 : lt v1 (int (dlen (d_Item x4))) = true := ltC_true hg hn1
            have hl1 := ltC_le hn1
            have hs1 := stepltC hg hn1 hi1 hB1 (by decide)
            rw [S_IsCentre_l1] at h_1
            try rw [← hg] at h_1
            try rw [← ht] at h_1
            try dsimp only at h_1
            rw [hb4]
            cbv
            refine AStep.mk (rg_int hg hi1 hl1) ?_
            cbv
            obtain ⟨x5, hx5, h_1⟩ := of_gt h_1
            obtain ⟨x5_Id, x5_Dest⟩ := x5
            try dsimp only at h_1
            refine AGet.mk _ (d_get_Item hg ht hx5) ?_
            cbv
            obtain ⟨x6, hx6, h_1⟩ := of_lP h_1
            try dsimp only at h_1
            refine ACall.mk _ _ rfl (hF _ _ _ (c_S_l7Item hg ht hx6)) (.inl rfl) (Nat.le_of_ble_eq_true rfl) ?_
            cbv
            cases hb5 : x6 with
            | true =>
              rw [br_true hb5] at h_1
              cbv
              obtain ⟨hB2, h_1⟩ := of_gd h_1
              obtain ⟨o2, ho2, h_1⟩ := of_cl h_1
              try dsimp only at h_1
              try rw [hg] at ho2
              try rw [ht] at ho2
              refine ABL.mk { p : Nat × Int // p.1 = cntLt p.2 v1 ∧ 0 ≤ p.2 ∧ S_IsCentre_l2 G.real TE.real x4 (Item.mk x5_Id x5_Dest) p.1 p.2 = some o2 } (fun ⟨⟨n2, v2⟩, _⟩ => ({ sl := [(1, .c (.p 0 5 0 0)), (3, .c (.f 1 2 0 (dlen (d_Item x4)))), (4, .c (.r (.v (.int .i64 v1)))), (5, .c (.r (.v (.int .i64 v2))))], tab := [(0, some (.foc 5 [] [.r (.s 2 (r_Item a0_Belt)), .r (.s 3 (r_Chute a0_Chutes)), .r (.s 2 (r_Inlet a0_Inlets)), .r (.s 1 (r_I64 a0_Plan)), .r (.v (.int .i64 a0_Now))] [])), (1, some (.arr 2 (d_Item x4)))] } : St)) 2 (fun p => p.1.1) ⟨(cntLt 0 v1, 0), rfl, Int.le_refl _, ho2⟩ (Unit) (fun _ => ({ sl := [(1, .c (.p 0 5 0 0)), (3, .c (.f 1 2 0 (dlen (d_Item x4)))), (4, .c (.r (.v (.int .i64 v1))))], tab := [(0, some (.foc 5 [] [.r (.s 2 (r_Item a0_Belt)), .r (.s 3 (r_Chute a0_Chutes)), .r (.s 2 (r_Inlet a0_Inlets)), .r (.s 1 (r_I64 a0_Plan)), .r (.v (.int .i64 a0_Now))] [])), (1, some (.arr 2 (d_Item x4)))] } : St)) 2 (fun y => o2 = LR.out y) ?_ ?_ ?_
              · refine Wk.of [(0, some 0), (1, some 1)] rfl rfl ?_ ?_
                · cbv
                  all_goals exact ⟨⟨_, rfl, rfl⟩, ⟨_, rfl, rfl⟩, ⟨_, rfl, rfl⟩, ⟨_, rfl, rfl⟩, trivial⟩
                · cbv
                  all_goals exact ⟨⟨_, rfl, _, rfl, rfl, rfl, rfl, rfl, rfl, trivial⟩, ⟨_, rfl, rfl⟩, trivial⟩
              · rintro ⟨⟨n2, v2⟩, hn2, hi2, h_2⟩ hq2
                try dsimp only at hn2 hi2 h_2
                clear hq2
                cbv
                rcases n2 with _ | n2
                · have hb6 : lt v2 v1 = false := ltC_false hg hn2
                  rw [S_IsCentre_l2] at h_2
                  try rw [← hg] at h_2
                  try rw [← ht] at h_2
                  try dsimp only at h_2
                  rw [hb6]
                  cbv
                  refine ⟨(), Wk.of [(0, some 0), (1, some 1)] rfl rfl ?_ ?_, (Option.some.inj h_2).symm⟩
                  · cbv
                    all_goals exact ⟨⟨_, rfl, rfl⟩, ⟨_, rfl, rfl⟩, ⟨_, rfl, rfl⟩, trivial⟩
                  · cbv
                    all_goals exact ⟨⟨_, rfl, _, rfl, rfl, rfl, rfl, rfl, rfl, trivial⟩, ⟨_, rfl, rfl⟩, trivial⟩
                · have hb6 : lt v2 v1 = true := ltC_true hg hn2
                  have hl2 := ltC_le hn2
                  have hs2 := stepltC hg hn2 hi2 hB2 (by decide)
                  rw [S_IsCentre_l2] at h_2
                  try rw [← hg] at h_2
                  try rw [← ht] at h_2
                  try dsimp only at h_2
                  rw [hb6]
                  cbv
                  obtain ⟨hc1, h_2⟩ := of_gd h_2
                  refine AStep.mk hc1 ?_
                  cbv
                  obtain ⟨x7, hx7, h_2⟩ := of_gt h_2
                  obtain ⟨x7_Id, x7_Dest⟩ := x7
                  try dsimp only at h_2
                  refine AGet.mk _ (d_get_Item hg ht hx7) ?_
                  cbv
                  refine AStep.mk (rg_int hg hi1 hl1) ?_
                  cbv
                  refine AGet.mk _ (d_get_Item hg ht hx5) ?_
                  cbv
                  cases hb7 : (eq x7_Id x5_Id) with
                  | true =>
                    rw [br_true hb7] at h_2
                    cbv
                    obtain rfl := Option.some.inj h_2
                    try dsimp only [lr, lrL, lrp, lrpL] at h_1
                    obtain rfl := Option.some.inj h_1
                    try dsimp only [lr, lrL, lrp, lrpL] at h
                    obtain rfl := Option.some.inj h
                    exact ARet.mk trivial hX.symm
                  | false =>
                    rw [br_false hb7] at h_2
                    cbv
                    try rw [hg] at h_2
                    try rw [ht] at h_2
                    refine ⟨⟨(n2, (wrap .i64 (add v2 1))), hs2.1, hs2.2, h_2⟩, Wk.of [(0, some 0), (1, some 1)] rfl rfl ?_ ?_, Nat.lt_succ_self _⟩
                    · cbv
                      all_goals exact ⟨⟨_, rfl, rfl⟩, ⟨_, rfl, rfl⟩, ⟨_, rfl, rfl⟩, ⟨_, rfl, rfl⟩, trivial⟩
                    · cbv
                      all_goals exact ⟨⟨_, rfl, _, rfl, rfl, rfl, rfl, rfl, rfl, trivial⟩, ⟨_, rfl, rfl⟩, trivial⟩
              · rintro _ hy2
                replace hy2 := hy2.symm
                subst hy2
                try dsimp only [lr, lrL, lrp, lrpL] at h_1
                cbv
                try rw [hg] at h_1
                try rw [ht] at h_1
                refine ⟨⟨(n1, (wrap .i64 (add v1 1))), hs1.1, hs1.2, h_1⟩, Wk.of [(0, some 0), (1, some 1)] rfl rfl ?_ ?_, Nat.lt_succ_self _⟩
                · cbv
                  all_goals exact ⟨⟨_, rfl, rfl⟩, ⟨_, rfl, rfl⟩, ⟨_, rfl, rfl⟩, trivial⟩
                · cbv
                  all_goals exact ⟨⟨_, rfl, _, rfl, rfl, rfl, rfl, rfl, rfl, trivial⟩, ⟨_, rfl, rfl⟩, trivial⟩
            | false =>
              rw [br_false hb5] at h_1
              cbv
              obtain rfl := Option.some.inj h_1
              try dsimp only [lr, lrL, lrp, lrpL] at h
              obtain rfl := Option.some.inj h
              exact ARet.mk trivial hX.symm
        · rintro _ hy1
          replace hy1 := hy1.symm
          subst hy1
          try dsimp only [lr, lrL, lrp, lrpL] at h
          cbv
          obtain rfl := Option.some.inj h
          exact ARet.mk trivial hX.symm
      | false =>
        rw [br_false hb3] at h
        cbv
        obtain rfl := Option.some.inj h
        exact ARet.mk trivial hX.symm
    | false =>
      rw [br_false hb2] at h
      cbv
      try (rw [hb2]; cbv)
      try (rw [hb2]; cbv)
      try (rw [hb2]; cbv)
      try (rw [hb2]; cbv)
      obtain rfl := Option.some.inj h
      exact ARet.mk trivial hX.symm
  | false =>
    rw [br_false hb1] at h
    cbv
    try (rw [hb1]; cbv)
    try (rw [hb1]; cbv)
    try (rw [hb1]; cbv)
    obtain rfl := Option.some.inj h
    exact ARet.mk trivial hX.symm
end Go.Vs
