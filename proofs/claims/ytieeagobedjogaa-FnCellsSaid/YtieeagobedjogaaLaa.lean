/- Part of the proofs of this seat's laws: Laa. No condition. -/
import Derived.Test.YtieeagobedjogaaTy
import Derived.Test.YtieeagobedjogaaTIRall
set_option linter.unusedVariables false
set_option linter.unusedSimpArgs false
set_option linter.unusedSectionVars false
namespace Go.Vs
set_option maxRecDepth 100000
def ir33 : J :=
  .seq (.reg none [⟨(some 2), none, .mv (.k (V.b false))⟩] [0])
  (.seq (.reg none [⟨(some 3), none, .mv (.t 0)⟩,
     ⟨(some 4), none, .len false (.t 3)⟩,
     ⟨(some 5), none, .bin .gtr .i (.t 4) (.k (V.i 4096))⟩,
     ⟨(some 2), none, .mv (.t 5)⟩] [2])
  (.ret))
def rv33 : List RV := [.t 2]
open Go.Proofs Go.IntWalk
set_option linter.unusedVariables false
set_option maxRecDepth 100000
set_option maxHeartbeats 4000000
def L_big (g : G) (t : TE) (a0 : List Int) : Bool :=
  (g.lt 4096 (g.llen (t.r_U8 a0)))
theorem fit33 : codeFit Try.prog Try.f33.ntmps (Try.f33.body.getD .skip) ir33 = true := by kernel_rfl
theorem c_L_big {g : G} {t : TE} {a0 : List Int} {r : Bool} (hg : g = G.real) (ht : t = TE.real) (h : L_big g t a0 = r) : Fn Try.prog 33 [.c (.s 1 (t.r_U8 a0))] (.c (.r (.v (.bool r)))) := by
  obtain ⟨X, hX⟩ := hide (.c (.r (.v (.bool r))) : X)
  rw [← hX]
  refine fn_of (rvs := rv33) (j := ir33) Try.func33 rfl fit33 (Nat.le_of_ble_eq_true rfl) (by kernel_rfl) prog_mixed ?_
  intro g2 F hg2 hF
  obtain rfl : g2 = g := hg2.unique.trans hg.symm
  clear hg2
  obtain ⟨wrap, lt, le, eq, quo, rem, band, bor, bxor, shl, shr, nat, int, add, sub, mul, cat, seq, slt, sub3, byte, llen, nadd, nsub, dlen, dapp, dset, drep, rd, rda, up, rsub, dsub, all, sle, slen, hasI, putI, hasS, putS, imin, imax, fzc⟩ := g2
  obtain ⟨r_Item, d_Item, r_Chute, d_Chute, r_Inlet, d_Inlet, r_I64, d_I64, r_U8, d_U8, d_InletF⟩ := t
  unfold L_big at h
  try dsimp only at h
  cbv
  subst h
  exact ARet.mk trivial hX.symm
end Go.Vs
namespace Go.Vs
set_option maxRecDepth 100000
def ir89 : J :=
  .seq (.reg none [⟨(some 6), none, .mv (.k (V.b false))⟩] [0, 1, 2])
  (.seq (.reg none [⟨(some 7), none, .mv (.t 1)⟩,
     ⟨(some 8), none, .mv (.t 0)⟩,
     ⟨(some 9), none, .bin .leq .i (.t 7) (.t 8)⟩,
     ⟨(some 10), none, .mv (.t 9)⟩,
     ⟨(some 11), (some (10, true)), .mv (.t 0)⟩,
     ⟨(some 12), (some (10, true)), .mv (.t 2)⟩,
     ⟨(some 13), (some (10, true)), .bin .leq .i (.t 11) (.t 12)⟩,
     ⟨(some 14), none, .pick (.t 10) (.t 13) (.k (V.b false))⟩,
     ⟨(some 6), none, .mv (.t 14)⟩] [6])
  (.ret))
def rv89 : List RV := [.t 6]
open Go.Proofs Go.IntWalk
set_option linter.unusedVariables false
set_option maxRecDepth 100000
set_option maxHeartbeats 4000000
def I_within (g : G) (t : TE) (a0 : Int) (a1 : Int) (a2 : Int) : Bool :=
  br (g.le a1 a0)
  (
   (g.le a0 a2))
  (
   false)
theorem fit89 : codeFit Try.prog Try.f89.ntmps (Try.f89.body.getD .skip) ir89 = true := by kernel_rfl
theorem c_I_within {g : G} {t : TE} {a0 : Int} {a1 : Int} {a2 : Int} {r : Bool} (hg : g = G.real) (ht : t = TE.real) (h : I_within g t a0 a1 a2 = r) : Fn Try.prog 89 [.c (.v (.int .i64 a0)), .c (.v (.int .i64 a1)), .c (.v (.int .i64 a2))] (.c (.r (.v (.bool r)))) := by
  obtain ⟨X, hX⟩ := hide (.c (.r (.v (.bool r))) : X)
  rw [← hX]
  refine fn_of (rvs := rv89) (j := ir89) Try.func89 rfl fit89 (Nat.le_of_ble_eq_true rfl) (by kernel_rfl) prog_mixed ?_
  intro g2 F hg2 hF
  obtain rfl : g2 = g := hg2.unique.trans hg.symm
  clear hg2
  obtain ⟨wrap, lt, le, eq, quo, rem, band, bor, bxor, shl, shr, nat, int, add, sub, mul, cat, seq, slt, sub3, byte, llen, nadd, nsub, dlen, dapp, dset, drep, rd, rda, up, rsub, dsub, all, sle, slen, hasI, putI, hasS, putS, imin, imax, fzc⟩ := g2
  obtain ⟨r_Item, d_Item, r_Chute, d_Chute, r_Inlet, d_Inlet, r_I64, d_I64, r_U8, d_U8, d_InletF⟩ := t
  unfold I_within at h
  try dsimp only at h
  cbv
  cases hb1 : (le a1 a0) with
  | true =>
    rw [br_true hb1] at h
    cbv
    try (rw [hb1]; cbv)
    try (rw [hb1]; cbv)
    try (rw [hb1]; cbv)
    subst h
    exact ARet.mk trivial hX.symm
  | false =>
    rw [br_false hb1] at h
    cbv
    try (rw [hb1]; cbv)
    try (rw [hb1]; cbv)
    try (rw [hb1]; cbv)
    subst h
    exact ARet.mk trivial hX.symm
end Go.Vs
namespace Go.Vs
set_option maxRecDepth 100000
def ir90 : J :=
  .seq (.reg none [⟨(some 1), none, .box (.t 0)⟩,
     ⟨(some 2), none, .mv (.k (.c (.n 2)))⟩] [1])
  (.seq (.reg none [⟨(some 10), none, .bsl 2 []⟩,
     ⟨(some 3), none, .mv (.t 10)⟩] [1, 3])
  (.seq (.seq (.reg none [⟨(some 11), none, .fa 0 (.t 1)⟩,
      ⟨(some 12), none, .ld false 1 (.t 11)⟩,
      ⟨(some 13), none, .len false (.t 12)⟩,
      ⟨(some 14), none, .mv (.k (V.i 0))⟩] [1, 3, 12, 13, 14])
   (.bl 0 (.seq (.reg none [⟨(some 15), none, .bin .lss .i (.t 14) (.t 13)⟩] [1, 3, 12, 13, 14, 15])
    (.seq (.cond (.t 15)
      (.skip)
      (.exit 0))
    (.seq (.block 1 (.seq (.reg none [⟨(some 16), none, .ia 2 (.t 12) (.t 14)⟩,
         ⟨(some 17), none, .ld true 2 (.t 16)⟩,
         ⟨(some 5), none, .alloc [.r (.v (.int .i64 0)), .r (.v (.int .i64 0))]⟩,
         ⟨none, none, .st 2 (.t 5) (.t 17)⟩] [1, 3, 5, 12, 13, 14])
      (.seq (.reg none [⟨(some 18), none, .ld true 2 (.t 5)⟩,
         ⟨(some 19), none, .bld [.r (.v (.int .i64 0)), .r (.v (.int .i64 0))] []⟩,
         ⟨(some 20), none, .eqs true [.i, .i] (.t 18) (.t 19)⟩] [1, 3, 5, 12, 13, 14, 20])
      (.cond (.t 20)
       (.reg none [⟨(some 21), none, .mv (.t 3)⟩,
          ⟨(some 22), none, .ld true 2 (.t 5)⟩,
          ⟨(some 23), none, .bsl 2 [(.t 22)]⟩,
          ⟨(some 24), none, .app 2 16 true (.t 21) (.t 23)⟩,
          ⟨(some 3), none, .mv (.t 24)⟩] [1, 3, 12, 13, 14])
       (.skip)))))
    (.reg none [⟨(some 25), none, .bin .add .i (.t 14) (.k (V.i 1))⟩,
      ⟨(some 14), none, .mv (.t 25)⟩] [1, 3, 12, 13, 14]))))))
  (.seq (.seq (.reg none [⟨(some 26), none, .fa 1 (.t 1)⟩,
      ⟨(some 27), none, .ld false 1 (.t 26)⟩,
      ⟨(some 28), none, .len false (.t 27)⟩,
      ⟨(some 29), none, .mv (.k (V.i 0))⟩] [1, 3, 27, 28, 29])
   (.bl 2 (.seq (.reg none [⟨(some 30), none, .bin .lss .i (.t 29) (.t 28)⟩] [1, 3, 27, 28, 29, 30])
    (.seq (.cond (.t 30)
      (.skip)
      (.exit 2))
    (.seq (.block 3 (.seq (.reg none [⟨(some 31), none, .ia 3 (.t 27) (.t 29)⟩,
         ⟨(some 32), none, .ld true 3 (.t 31)⟩,
         ⟨(some 7), none, .alloc [.r (.v (.int .i64 0)), .r (.v (.int .i64 0)), .n 2]⟩,
         ⟨none, none, .st 3 (.t 7) (.t 32)⟩] [1, 3, 7, 27, 28, 29])
      (.reg none [⟨(some 33), none, .mv (.t 3)⟩,
        ⟨(some 34), none, .fa 2 (.t 7)⟩,
        ⟨(some 35), none, .ld false 1 (.t 34)⟩,
        ⟨(some 36), none, .app 2 16 false (.t 33) (.t 35)⟩,
        ⟨(some 3), none, .mv (.t 36)⟩] [1, 3, 27, 28, 29])))
    (.reg none [⟨(some 37), none, .bin .add .i (.t 29) (.k (V.i 1))⟩,
      ⟨(some 29), none, .mv (.t 37)⟩] [1, 3, 27, 28, 29]))))))
  (.seq (.seq (.reg none [⟨(some 38), none, .fa 2 (.t 1)⟩,
      ⟨(some 39), none, .ld false 1 (.t 38)⟩,
      ⟨(some 40), none, .len false (.t 39)⟩,
      ⟨(some 41), none, .mv (.k (V.i 0))⟩] [3, 39, 40, 41])
   (.bl 4 (.seq (.reg none [⟨(some 42), none, .bin .lss .i (.t 41) (.t 40)⟩] [3, 39, 40, 41, 42])
    (.seq (.cond (.t 42)
      (.skip)
      (.exit 4))
    (.seq (.block 5 (.seq (.reg none [⟨(some 43), none, .ia 2 (.t 39) (.t 41)⟩,
         ⟨(some 44), none, .ld true 2 (.t 43)⟩,
         ⟨(some 9), none, .alloc [.r (.v (.int .i64 0)), .n 2]⟩,
         ⟨none, none, .st 2 (.t 9) (.t 44)⟩] [3, 9, 39, 40, 41])
      (.reg none [⟨(some 45), none, .mv (.t 3)⟩,
        ⟨(some 46), none, .fa 1 (.t 9)⟩,
        ⟨(some 47), none, .ld false 1 (.t 46)⟩,
        ⟨(some 48), none, .app 2 16 false (.t 45) (.t 47)⟩,
        ⟨(some 3), none, .mv (.t 48)⟩] [3, 39, 40, 41])))
    (.reg none [⟨(some 49), none, .bin .add .i (.t 41) (.k (V.i 1))⟩,
      ⟨(some 41), none, .mv (.t 49)⟩] [3, 39, 40, 41]))))))
  (.seq (.reg none [⟨(some 50), none, .mv (.t 3)⟩,
     ⟨(some 2), none, .mv (.t 50)⟩] [2])
  (.ret))))))
def rv90 : List RV := [.t 2]
open Go.Proofs Go.IntWalk
set_option linter.unusedVariables false
set_option maxRecDepth 100000
set_option maxHeartbeats 4000000
def I_everyItem_l3 (g : G) (t : TE) : List Inlet → List Item → Option (List Item)
  | [], w3 =>
    some w3
  | z3 :: ls3, w3 =>
    gd (((w3.length + z3.Wait.length) * 16 ≤ 70368744177664)) <|
    lP (w3 ++ z3.Wait) fun (l5 : List Item) =>
    I_everyItem_l3 g t ls3 l5
def I_everyItem_l2 (g : G) (t : TE) : List Chute → List Item → Option (List Item)
  | [], w2 =>
    some w2
  | z2 :: ls2, w2 =>
    gd (((w2.length + z2.Held.length) * 16 ≤ 70368744177664)) <|
    lP (w2 ++ z2.Held) fun (l4 : List Item) =>
    I_everyItem_l2 g t ls2 l4
def I_everyItem_l1 (g : G) (t : TE) : List Item → List Item → Option (List Item)
  | [], w1 =>
    some w1
  | z1 :: ls1, w1 =>
    br (g.all [(g.eq z1.Id 0), (g.eq z1.Dest 0)])
    (
     I_everyItem_l1 g t ls1 w1)
    (
     lP ([z1]) fun (l2 : List Item) =>
     gd (((w1.length + l2.length) * 16 ≤ 70368744177664)) <|
     lP (w1 ++ l2) fun (l3 : List Item) =>
     I_everyItem_l1 g t ls1 l3)
def I_everyItem (g : G) (t : TE) (a0 : Centre) : Option (List Item) :=
  lP ([]) fun (l1 : List Item) =>
  cl (I_everyItem_l1 g t a0.Belt l1) fun y1 =>
  cl (I_everyItem_l2 g t a0.Chutes y1) fun y2 =>
  cl (I_everyItem_l3 g t a0.Inlets y2) fun y3 =>
  some y3
theorem fit90 : codeFit Try.prog Try.f90.ntmps (Try.f90.body.getD .skip) ir90 = true := by kernel_rfl
theorem c_I_everyItem {g : G} {t : TE} {a0 : Centre} {r : List Item} (hg : g = G.real) (ht : t = TE.real) (h : I_everyItem g t a0 = some r) : Fn Try.prog 90 [.g (Centre.rs t a0)] (.c (.o 2 (t.d_Item r))) := by
  obtain ⟨X, hX⟩ := hide (.c (.o 2 (t.d_Item r)) : X)
  rw [← hX]
  refine fn_of (rvs := rv90) (j := ir90) Try.func90 rfl fit90 (Nat.le_of_ble_eq_true rfl) (by kernel_rfl) prog_mixed ?_
  intro g2 F hg2 hF
  obtain rfl : g2 = g := hg2.unique.trans hg.symm
  clear hg2
  obtain ⟨wrap, lt, le, eq, quo, rem, band, bor, bxor, shl, shr, nat, int, add, sub, mul, cat, seq, slt, sub3, byte, llen, nadd, nsub, dlen, dapp, dset, drep, rd, rda, up, rsub, dsub, all, sle, slen, hasI, putI, hasS, putS, imin, imax, fzc⟩ := g2
  obtain ⟨r_Item, d_Item, r_Chute, d_Chute, r_Inlet, d_Inlet, r_I64, d_I64, r_U8, d_U8, d_InletF⟩ := t
  obtain ⟨a0_Belt, a0_Chutes, a0_Inlets, a0_Plan, a0_Now⟩ := a0
  unfold I_everyItem at h
  try dsimp only at h
  cbv
  obtain ⟨l1, hl1, h⟩ := of_lP h
  try dsimp only at h
  refine ANew.mk (d_Item l1) (dlen (d_Item l1)) (by rw [← hl1]; exact lit_Item hg ht []) (by rw [← hl1]; exact litn_Item hg ht []) ?_
  cbv
  obtain ⟨o1, ho1, h⟩ := of_cl h
  try dsimp only at h
  try rw [hg] at ho1
  try rw [ht] at ho1
  refine ABL.mk { p : Nat × Int × List Item // p.1 ≤ a0_Belt.length ∧ p.2.1 = ((p.1 : Nat) : Int) ∧ I_everyItem_l1 G.real TE.real (List.drop p.1 a0_Belt) p.2.2 = some o1 } (fun ⟨⟨k1, v1, w1⟩, _⟩ => ({ sl := [(1, .c (.p 0 5 0 0)), (3, .c (.f 1 2 0 (dlen (d_Item w1)))), (12, .c (.r (.s 2 (r_Item a0_Belt)))), (13, .c (.r (.v (.int .i64 (llen (r_Item a0_Belt)))))), (14, .c (.r (.v (.int .i64 v1))))], tab := [(0, some (.foc 5 [] [.r (.s 2 (r_Item a0_Belt)), .r (.s 3 (r_Chute a0_Chutes)), .r (.s 2 (r_Inlet a0_Inlets)), .r (.s 1 (r_I64 a0_Plan)), .r (.v (.int .i64 a0_Now))] [])), (1, some (.arr 2 (d_Item w1)))] } : St)) 2 (fun p => a0_Belt.length - p.1.1) ⟨(0, 0, l1), Nat.zero_le _, rfl, ho1⟩ (List Item) (fun y1 => ({ sl := [(1, .c (.p 0 5 0 0)), (3, .c (.f 1 2 0 (dlen (d_Item y1))))], tab := [(0, some (.foc 5 [] [.r (.s 2 (r_Item a0_Belt)), .r (.s 3 (r_Chute a0_Chutes)), .r (.s 2 (r_Inlet a0_Inlets)), .r (.s 1 (r_I64 a0_Plan)), .r (.v (.int .i64 a0_Now))] [])), (1, some (.arr 2 (d_Item y1)))] } : St)) 2 (fun y => o1 = y) ?_ ?_ ?_
  · refine Wk.of [(0, some 0), (1, some 32)] rfl rfl ?_ ?_
    · cbv
      all_goals exact ⟨⟨_, rfl, rfl⟩, ⟨_, rfl, rfl⟩, ⟨_, rfl, rfl⟩, ⟨_, rfl, rfl⟩, ⟨_, rfl, rfl⟩, trivial⟩
    · cbv
      all_goals exact ⟨⟨_, rfl, _, rfl, rfl, rfl, rfl, rfl, rfl, trivial⟩, ⟨_, rfl, rfl⟩, trivial⟩
  · rintro ⟨⟨k1, v1, w1⟩, hk1, hi1, h_1⟩ hq1
    have hm1 := (hq1.1 12 _ _ rfl)
    try dsimp only at hk1 hi1 h_1
    clear hq1
    cbv
    by_cases hc1_ : k1 < a0_Belt.length
    · have hb1 : lt v1 (llen (r_Item a0_Belt)) = true := ltL_true_Item hg ht hi1 hc1_
      have hs1 := stepL_Item hg ht hi1 hc1_ hm1
      obtain ⟨z1, hz1⟩ := some_of_lt hc1_
      rw [drop_of_some hz1] at h_1
      rw [I_everyItem_l1] at h_1
      obtain ⟨z1_Id, z1_Dest⟩ := z1
      try rw [← hg] at h_1
      try rw [← ht] at h_1
      try dsimp only at h_1
      rw [hb1]
      cbv
      refine AStep.mk (nn_L hi1) ?_
      cbv
      refine AGet.mk _ (r_getL_Item hg ht hi1 hz1) ?_
      cbv
      cases hb2 : (all [(eq z1_Id 0), (eq z1_Dest 0)]) with
      | true =>
        rw [br_true hb2] at h_1
        cbv
        try rw [hg] at h_1
        try rw [ht] at h_1
        refine ⟨⟨(k1 + 1, (wrap .i64 (add v1 1)), w1), hc1_, hs1, h_1⟩, Wk.of [(0, some 0), (1, some 1)] rfl rfl ?_ ?_, meas_L hc1_⟩
        · cbv
          all_goals exact ⟨⟨_, rfl, rfl⟩, ⟨_, rfl, rfl⟩, ⟨_, rfl, rfl⟩, ⟨_, rfl, rfl⟩, ⟨_, rfl, rfl⟩, trivial⟩
        · cbv
          all_goals exact ⟨⟨_, rfl, _, rfl, rfl, rfl, rfl, rfl, rfl, trivial⟩, ⟨_, rfl, rfl⟩, trivial⟩
      | false =>
        rw [br_false hb2] at h_1
        cbv
        obtain ⟨l2, hl2, h_1⟩ := of_lP h_1
        try dsimp only at h_1
        refine ANew.mk (d_Item l2) (dlen (d_Item l2)) (by rw [← hl2]; exact lit_Item hg ht [(Item.mk z1_Id z1_Dest)]) (by rw [← hl2]; exact litn_Item hg ht [(Item.mk z1_Id z1_Dest)]) ?_
        cbv
        obtain ⟨hc1, h_1⟩ := of_gd h_1
        refine AStep.mk ⟨⟨rfl, (dlen_Item hg ht _)⟩, (app_ok_Item hg ht (dlen_Item hg ht _) rfl hc1)⟩ ?_
        cbv
        obtain ⟨l3, hl3, h_1⟩ := of_lP h_1
        try dsimp only at h_1
        refine ANew.mk (d_Item l3) (dlen (d_Item l3)) (by rw [← hl3]; exact app_Item hg ht (dlen_Item hg ht _) rfl) (by rw [← hl3]; exact appl_Item hg ht (dlen_Item hg ht _) rfl) ?_
        cbv
        try rw [hg] at h_1
        try rw [ht] at h_1
        refine ⟨⟨(k1 + 1, (wrap .i64 (add v1 1)), l3), hc1_, hs1, h_1⟩, Wk.of [(0, some 0), (1, some 178)] rfl rfl ?_ ?_, meas_L hc1_⟩
        · cbv
          all_goals exact ⟨⟨_, rfl, rfl⟩, ⟨_, rfl, rfl⟩, ⟨_, rfl, rfl⟩, ⟨_, rfl, rfl⟩, ⟨_, rfl, rfl⟩, trivial⟩
        · cbv
          all_goals exact ⟨⟨_, rfl, _, rfl, rfl, rfl, rfl, rfl, rfl, trivial⟩, ⟨_, rfl, rfl⟩, trivial⟩
    · have hb1 : lt v1 (llen (r_Item a0_Belt)) = false := ltL_false_Item hg ht hi1 hc1_
      rw [List.drop_of_length_le (Nat.le_of_not_lt hc1_)] at h_1
      rw [I_everyItem_l1] at h_1
      try rw [← hg] at h_1
      try rw [← ht] at h_1
      try dsimp only at h_1
      rw [hb1]
      cbv
      refine ⟨w1, Wk.of [(0, some 0), (1, some 1)] rfl rfl ?_ ?_, (Option.some.inj h_1).symm⟩
      · cbv
        all_goals exact ⟨⟨_, rfl, rfl⟩, ⟨_, rfl, rfl⟩, trivial⟩
      · cbv
        all_goals exact ⟨⟨_, rfl, _, rfl, rfl, rfl, rfl, rfl, rfl, trivial⟩, ⟨_, rfl, rfl⟩, trivial⟩
  · rintro y1 hy1
    replace hy1 := hy1.symm
    subst hy1
    try dsimp only [lr, lrL, lrp, lrpL] at h
    cbv
    obtain ⟨o2, ho2, h⟩ := of_cl h
    try dsimp only at h
    try rw [hg] at ho2
    try rw [ht] at ho2
    refine ABL.mk { p : Nat × Int × List Item // p.1 ≤ a0_Chutes.length ∧ p.2.1 = ((p.1 : Nat) : Int) ∧ I_everyItem_l2 G.real TE.real (List.drop p.1 a0_Chutes) p.2.2 = some o2 } (fun ⟨⟨k2, v2, w2⟩, _⟩ => ({ sl := [(1, .c (.p 0 5 0 0)), (3, .c (.f 1 2 0 (dlen (d_Item w2)))), (27, .c (.r (.s 3 (r_Chute a0_Chutes)))), (28, .c (.r (.v (.int .i64 (llen (r_Chute a0_Chutes)))))), (29, .c (.r (.v (.int .i64 v2))))], tab := [(0, some (.foc 5 [] [.r (.s 2 (r_Item a0_Belt)), .r (.s 3 (r_Chute a0_Chutes)), .r (.s 2 (r_Inlet a0_Inlets)), .r (.s 1 (r_I64 a0_Plan)), .r (.v (.int .i64 a0_Now))] [])), (1, some (.arr 2 (d_Item w2)))] } : St)) 2 (fun p => a0_Chutes.length - p.1.1) ⟨(0, 0, y1), Nat.zero_le _, rfl, ho2⟩ (List Item) (fun y2 => ({ sl := [(1, .c (.p 0 5 0 0)), (3, .c (.f 1 2 0 (dlen (d_Item y2))))], tab := [(0, some (.foc 5 [] [.r (.s 2 (r_Item a0_Belt)), .r (.s 3 (r_Chute a0_Chutes)), .r (.s 2 (r_Inlet a0_Inlets)), .r (.s 1 (r_I64 a0_Plan)), .r (.v (.int .i64 a0_Now))] [])), (1, some (.arr 2 (d_Item y2)))] } : St)) 2 (fun y => o2 = y) ?_ ?_ ?_
    · refine Wk.of [(0, some 0), (1, some 1)] rfl rfl ?_ ?_
      · cbv
        all_goals exact ⟨⟨_, rfl, rfl⟩, ⟨_, rfl, rfl⟩, ⟨_, rfl, rfl⟩, ⟨_, rfl, rfl⟩, ⟨_, rfl, rfl⟩, trivial⟩
      · cbv
        all_goals exact ⟨⟨_, rfl, _, rfl, rfl, rfl, rfl, rfl, rfl, trivial⟩, ⟨_, rfl, rfl⟩, trivial⟩
    · rintro ⟨⟨k2, v2, w2⟩, hk2, hi2, h_2⟩ hq2
      have hm2 := (hq2.1 27 _ _ rfl)
      try dsimp only at hk2 hi2 h_2
      clear hq2
      cbv
      by_cases hc2_ : k2 < a0_Chutes.length
      · have hb3 : lt v2 (llen (r_Chute a0_Chutes)) = true := ltL_true_Chute hg ht hi2 hc2_
        have hs2 := stepL_Chute hg ht hi2 hc2_ hm2
        obtain ⟨z2, hz2⟩ := some_of_lt hc2_
        rw [drop_of_some hz2] at h_2
        rw [I_everyItem_l2] at h_2
        obtain ⟨z2_Cell, z2_Room, z2_Held⟩ := z2
        try rw [← hg] at h_2
        try rw [← ht] at h_2
        try dsimp only at h_2
        rw [hb3]
        cbv
        refine AStep.mk (nn_L hi2) ?_
        cbv
        refine AGet.mk _ (r_getL_Chute hg ht hi2 hz2) ?_
        cbv
        obtain ⟨hc2, h_2⟩ := of_gd h_2
        refine AStep.mk (app_ok_Item hg ht (dlen_Item hg ht _) (up_Item hg ht _) hc2) ?_
        cbv
        obtain ⟨l4, hl4, h_2⟩ := of_lP h_2
        try dsimp only at h_2
        refine ANew.mk (d_Item l4) (dlen (d_Item l4)) (by rw [← hl4]; exact app_Item hg ht (dlen_Item hg ht _) (up_Item hg ht _)) (by rw [← hl4]; exact appl_Item hg ht (dlen_Item hg ht _) (up_Item hg ht _)) ?_
        cbv
        try rw [hg] at h_2
        try rw [ht] at h_2
        refine ⟨⟨(k2 + 1, (wrap .i64 (add v2 1)), l4), hc2_, hs2, h_2⟩, Wk.of [(0, some 0), (1, some 130)] rfl rfl ?_ ?_, meas_L hc2_⟩
        · cbv
          all_goals exact ⟨⟨_, rfl, rfl⟩, ⟨_, rfl, rfl⟩, ⟨_, rfl, rfl⟩, ⟨_, rfl, rfl⟩, ⟨_, rfl, rfl⟩, trivial⟩
        · cbv
          all_goals exact ⟨⟨_, rfl, _, rfl, rfl, rfl, rfl, rfl, rfl, trivial⟩, ⟨_, rfl, rfl⟩, trivial⟩
      · have hb3 : lt v2 (llen (r_Chute a0_Chutes)) = false := ltL_false_Chute hg ht hi2 hc2_
        rw [List.drop_of_length_le (Nat.le_of_not_lt hc2_)] at h_2
        rw [I_everyItem_l2] at h_2
        try rw [← hg] at h_2
        try rw [← ht] at h_2
        try dsimp only at h_2
        rw [hb3]
        cbv
        refine ⟨w2, Wk.of [(0, some 0), (1, some 1)] rfl rfl ?_ ?_, (Option.some.inj h_2).symm⟩
        · cbv
          all_goals exact ⟨⟨_, rfl, rfl⟩, ⟨_, rfl, rfl⟩, trivial⟩
        · cbv
          all_goals exact ⟨⟨_, rfl, _, rfl, rfl, rfl, rfl, rfl, rfl, trivial⟩, ⟨_, rfl, rfl⟩, trivial⟩
    · rintro y2 hy2
      replace hy2 := hy2.symm
      subst hy2
      try dsimp only [lr, lrL, lrp, lrpL] at h
      cbv
      obtain ⟨o3, ho3, h⟩ := of_cl h
      try dsimp only at h
      try rw [hg] at ho3
      try rw [ht] at ho3
      refine ABL.mk { p : Nat × Int × List Item // p.1 ≤ a0_Inlets.length ∧ p.2.1 = ((p.1 : Nat) : Int) ∧ I_everyItem_l3 G.real TE.real (List.drop p.1 a0_Inlets) p.2.2 = some o3 } (fun ⟨⟨k3, v3, w3⟩, _⟩ => ({ sl := [(3, .c (.f 0 2 0 (dlen (d_Item w3)))), (39, .c (.r (.s 2 (r_Inlet a0_Inlets)))), (40, .c (.r (.v (.int .i64 (llen (r_Inlet a0_Inlets)))))), (41, .c (.r (.v (.int .i64 v3))))], tab := [(0, some (.arr 2 (d_Item w3)))] } : St)) 1 (fun p => a0_Inlets.length - p.1.1) ⟨(0, 0, y2), Nat.zero_le _, rfl, ho3⟩ (List Item) (fun y3 => ({ sl := [(3, .c (.f 0 2 0 (dlen (d_Item y3))))], tab := [(0, some (.arr 2 (d_Item y3)))] } : St)) 1 (fun y => o3 = y) ?_ ?_ ?_
      · refine Wk.of [(0, some 1)] rfl rfl ?_ ?_
        · cbv
          all_goals exact ⟨⟨_, rfl, rfl⟩, ⟨_, rfl, rfl⟩, ⟨_, rfl, rfl⟩, ⟨_, rfl, rfl⟩, trivial⟩
        · cbv
          all_goals exact ⟨⟨_, rfl, rfl⟩, trivial⟩
      · rintro ⟨⟨k3, v3, w3⟩, hk3, hi3, h_3⟩ hq3
        have hm3 := (hq3.1 39 _ _ rfl)
        try dsimp only at hk3 hi3 h_3
        clear hq3
        cbv
        by_cases hc3_ : k3 < a0_Inlets.length
        · have hb4 : lt v3 (llen (r_Inlet a0_Inlets)) = true := ltL_true_Inlet hg ht hi3 hc3_
          have hs3 := stepL_Inlet hg ht hi3 hc3_ hm3
          obtain ⟨z3, hz3⟩ := some_of_lt hc3_
          rw [drop_of_some hz3] at h_3
          rw [I_everyItem_l3] at h_3
          obtain ⟨z3_Cell, z3_Wait⟩ := z3
          try rw [← hg] at h_3
          try rw [← ht] at h_3
          try dsimp only at h_3
          rw [hb4]
          cbv
          refine AStep.mk (nn_L hi3) ?_
          cbv
          refine AGet.mk _ (r_getL_Inlet hg ht hi3 hz3) ?_
          cbv
          obtain ⟨hc3, h_3⟩ := of_gd h_3
          refine AStep.mk (app_ok_Item hg ht (dlen_Item hg ht _) (up_Item hg ht _) hc3) ?_
          cbv
          obtain ⟨l5, hl5, h_3⟩ := of_lP h_3
          try dsimp only at h_3
          refine ANew.mk (d_Item l5) (dlen (d_Item l5)) (by rw [← hl5]; exact app_Item hg ht (dlen_Item hg ht _) (up_Item hg ht _)) (by rw [← hl5]; exact appl_Item hg ht (dlen_Item hg ht _) (up_Item hg ht _)) ?_
          cbv
          try rw [hg] at h_3
          try rw [ht] at h_3
          refine ⟨⟨(k3 + 1, (wrap .i64 (add v3 1)), l5), hc3_, hs3, h_3⟩, Wk.of [(0, some 129)] rfl rfl ?_ ?_, meas_L hc3_⟩
          · cbv
            all_goals exact ⟨⟨_, rfl, rfl⟩, ⟨_, rfl, rfl⟩, ⟨_, rfl, rfl⟩, ⟨_, rfl, rfl⟩, trivial⟩
          · cbv
            all_goals exact ⟨⟨_, rfl, rfl⟩, trivial⟩
        · have hb4 : lt v3 (llen (r_Inlet a0_Inlets)) = false := ltL_false_Inlet hg ht hi3 hc3_
          rw [List.drop_of_length_le (Nat.le_of_not_lt hc3_)] at h_3
          rw [I_everyItem_l3] at h_3
          try rw [← hg] at h_3
          try rw [← ht] at h_3
          try dsimp only at h_3
          rw [hb4]
          cbv
          refine ⟨w3, Wk.of [(0, some 0)] rfl rfl ?_ ?_, (Option.some.inj h_3).symm⟩
          · cbv
            all_goals exact ⟨⟨_, rfl, rfl⟩, trivial⟩
          · cbv
            all_goals exact ⟨⟨_, rfl, rfl⟩, trivial⟩
      · rintro y3 hy3
        replace hy3 := hy3.symm
        subst hy3
        try dsimp only [lr, lrL, lrp, lrpL] at h
        cbv
        obtain rfl := Option.some.inj h
        exact ARet.mk ⟨rfl, (dlen_Item hg ht _)⟩ hX.symm
end Go.Vs
namespace Go.Vs
set_option maxRecDepth 100000
def ir32 : J :=
  .seq (.reg none [⟨(some 1), none, .box (.t 0)⟩,
     ⟨(some 2), none, .mv (.k (V.b false))⟩] [1])
  (.seq (.seq (.reg none [⟨(some 13), none, .fa 0 (.t 1)⟩,
      ⟨(some 14), none, .ld false 1 (.t 13)⟩,
      ⟨(some 15), none, .len false (.t 14)⟩,
      ⟨(some 16), none, .call 89 true [(.t 15), (.k (V.i 2)), (.k (V.i 24))]⟩,
      ⟨(some 17), none, .not (.t 16)⟩,
      ⟨(some 18), none, .mv (.t 17)⟩,
      ⟨(some 19), (some (18, false)), .fa 1 (.t 1)⟩,
      ⟨(some 20), (some (18, false)), .ld false 1 (.t 19)⟩,
      ⟨(some 21), (some (18, false)), .len false (.t 20)⟩,
      ⟨(some 22), (some (18, false)), .call 89 true [(.t 21), (.k (V.i 1)), (.k (V.i 6))]⟩,
      ⟨(some 23), (some (18, false)), .not (.t 22)⟩,
      ⟨(some 24), none, .pick (.t 18) (.k (V.b true)) (.t 23)⟩,
      ⟨(some 25), none, .mv (.t 24)⟩,
      ⟨(some 26), (some (25, false)), .fa 2 (.t 1)⟩,
      ⟨(some 27), (some (25, false)), .ld false 1 (.t 26)⟩,
      ⟨(some 28), (some (25, false)), .len false (.t 27)⟩,
      ⟨(some 29), (some (25, false)), .call 89 true [(.t 28), (.k (V.i 1)), (.k (V.i 4))]⟩,
      ⟨(some 30), (some (25, false)), .not (.t 29)⟩,
      ⟨(some 31), none, .pick (.t 25) (.k (V.b true)) (.t 30)⟩,
      ⟨(some 32), none, .mv (.t 31)⟩,
      ⟨(some 33), (some (32, false)), .fa 3 (.t 1)⟩,
      ⟨(some 34), (some (32, false)), .ld false 1 (.t 33)⟩,
      ⟨(some 35), (some (32, false)), .len false (.t 34)⟩,
      ⟨(some 36), (some (32, false)), .call 89 true [(.t 35), (.k (V.i 1)), (.k (V.i 8))]⟩,
      ⟨(some 37), (some (32, false)), .not (.t 36)⟩,
      ⟨(some 38), none, .pick (.t 32) (.k (V.b true)) (.t 37)⟩,
      ⟨(some 39), none, .mv (.t 38)⟩,
      ⟨(some 40), (some (39, false)), .fa 4 (.t 1)⟩,
      ⟨(some 41), (some (39, false)), .ld false 1 (.t 40)⟩,
      ⟨(some 42), (some (39, false)), .call 89 true [(.t 41), (.k (V.i 0)), (.k (V.i 100000))]⟩,
      ⟨(some 43), (some (39, false)), .not (.t 42)⟩,
      ⟨(some 44), none, .pick (.t 39) (.k (V.b true)) (.t 43)⟩] [1, 44])
   (.cond (.t 44)
    (.seq (.reg none [⟨(some 2), none, .mv (.k (V.b false))⟩] [2])
     (.ret))
    (.skip)))
  (.seq (.reg none [⟨(some 45), none, .mkm false⟩,
     ⟨(some 3), none, .mv (.t 45)⟩] [1, 3])
  (.seq (.seq (.reg none [⟨(some 46), none, .fa 1 (.t 1)⟩,
      ⟨(some 47), none, .ld false 1 (.t 46)⟩,
      ⟨(some 48), none, .len false (.t 47)⟩,
      ⟨(some 49), none, .mv (.k (V.i 0))⟩] [1, 3, 47, 48, 49])
   (.bl 0 (.seq (.reg none [⟨(some 50), none, .bin .lss .i (.t 49) (.t 48)⟩] [1, 3, 47, 48, 49, 50])
    (.seq (.cond (.t 50)
      (.skip)
      (.exit 0))
    (.seq (.block 1 (.seq (.reg none [⟨(some 51), none, .ia 3 (.t 47) (.t 49)⟩,
         ⟨(some 52), none, .ld true 3 (.t 51)⟩,
         ⟨(some 5), none, .alloc [.r (.v (.int .i64 0)), .r (.v (.int .i64 0)), .n 2]⟩,
         ⟨none, none, .st 3 (.t 5) (.t 52)⟩] [1, 3, 5, 47, 48, 49])
      (.seq (.seq (.reg none [⟨(some 53), none, .fa 0 (.t 5)⟩,
          ⟨(some 54), none, .ld false 1 (.t 53)⟩,
          ⟨(some 55), none, .fa 0 (.t 1)⟩,
          ⟨(some 56), none, .ld false 1 (.t 55)⟩,
          ⟨(some 57), none, .len false (.t 56)⟩,
          ⟨(some 58), none, .bin .sub .i (.t 57) (.k (V.i 1))⟩,
          ⟨(some 59), none, .call 89 true [(.t 54), (.k (V.i 0)), (.t 58)]⟩,
          ⟨(some 60), none, .not (.t 59)⟩,
          ⟨(some 61), none, .mv (.t 60)⟩,
          ⟨(some 62), (some (61, false)), .mv (.t 3)⟩,
          ⟨(some 63), (some (61, false)), .fa 0 (.t 5)⟩,
          ⟨(some 64), (some (61, false)), .ld false 1 (.t 63)⟩,
          ⟨(some 65), (some (61, false)), .mlk false (.t 62) (.t 64)⟩,
          ⟨(some 66), none, .pick (.t 61) (.k (V.b true)) (.t 65)⟩,
          ⟨(some 67), none, .mv (.t 66)⟩,
          ⟨(some 68), (some (67, false)), .fa 1 (.t 5)⟩,
          ⟨(some 69), (some (67, false)), .ld false 1 (.t 68)⟩,
          ⟨(some 70), (some (67, false)), .call 89 true [(.t 69), (.k (V.i 1)), (.k (V.i 20))]⟩,
          ⟨(some 71), (some (67, false)), .not (.t 70)⟩,
          ⟨(some 72), none, .pick (.t 67) (.k (V.b true)) (.t 71)⟩,
          ⟨(some 73), none, .mv (.t 72)⟩,
          ⟨(some 74), (some (73, false)), .fa 2 (.t 5)⟩,
          ⟨(some 75), (some (73, false)), .ld false 1 (.t 74)⟩,
          ⟨(some 76), (some (73, false)), .len false (.t 75)⟩,
          ⟨(some 77), (some (73, false)), .fa 1 (.t 5)⟩,
          ⟨(some 78), (some (73, false)), .ld false 1 (.t 77)⟩,
          ⟨(some 79), (some (73, false)), .bin .gtr .i (.t 76) (.t 78)⟩,
          ⟨(some 80), none, .pick (.t 73) (.k (V.b true)) (.t 79)⟩] [1, 3, 5, 47, 48, 49, 80])
       (.cond (.t 80)
        (.seq (.reg none [⟨(some 2), none, .mv (.k (V.b false))⟩] [2])
         (.ret))
        (.skip)))
      (.reg none [⟨(some 81), none, .mv (.t 3)⟩,
        ⟨(some 82), none, .fa 0 (.t 5)⟩,
        ⟨(some 83), none, .ld false 1 (.t 82)⟩,
        ⟨none, none, .mup false (.t 81) (.t 83)⟩] [1, 3, 47, 48, 49]))))
    (.reg none [⟨(some 84), none, .bin .add .i (.t 49) (.k (V.i 1))⟩,
      ⟨(some 49), none, .mv (.t 84)⟩] [1, 3, 47, 48, 49]))))))
  (.seq (.reg none [⟨(some 85), none, .mkm false⟩,
     ⟨(some 3), none, .mv (.t 85)⟩] [1, 3])
  (.seq (.seq (.reg none [⟨(some 86), none, .fa 2 (.t 1)⟩,
      ⟨(some 87), none, .ld false 1 (.t 86)⟩,
      ⟨(some 88), none, .len false (.t 87)⟩,
      ⟨(some 89), none, .mv (.k (V.i 0))⟩] [1, 3, 87, 88, 89])
   (.bl 2 (.seq (.reg none [⟨(some 90), none, .bin .lss .i (.t 89) (.t 88)⟩] [1, 3, 87, 88, 89, 90])
    (.seq (.cond (.t 90)
      (.skip)
      (.exit 2))
    (.seq (.block 3 (.seq (.reg none [⟨(some 91), none, .ia 2 (.t 87) (.t 89)⟩,
         ⟨(some 92), none, .ld true 2 (.t 91)⟩,
         ⟨(some 7), none, .alloc [.r (.v (.int .i64 0)), .n 2]⟩,
         ⟨none, none, .st 2 (.t 7) (.t 92)⟩] [1, 3, 7, 87, 88, 89])
      (.seq (.seq (.reg none [⟨(some 93), none, .fa 0 (.t 7)⟩,
          ⟨(some 94), none, .ld false 1 (.t 93)⟩,
          ⟨(some 95), none, .fa 0 (.t 1)⟩,
          ⟨(some 96), none, .ld false 1 (.t 95)⟩,
          ⟨(some 97), none, .len false (.t 96)⟩,
          ⟨(some 98), none, .bin .sub .i (.t 97) (.k (V.i 1))⟩,
          ⟨(some 99), none, .call 89 true [(.t 94), (.k (V.i 0)), (.t 98)]⟩,
          ⟨(some 100), none, .not (.t 99)⟩,
          ⟨(some 101), none, .mv (.t 100)⟩,
          ⟨(some 102), (some (101, false)), .mv (.t 3)⟩,
          ⟨(some 103), (some (101, false)), .fa 0 (.t 7)⟩,
          ⟨(some 104), (some (101, false)), .ld false 1 (.t 103)⟩,
          ⟨(some 105), (some (101, false)), .mlk false (.t 102) (.t 104)⟩,
          ⟨(some 106), none, .pick (.t 101) (.k (V.b true)) (.t 105)⟩,
          ⟨(some 107), none, .mv (.t 106)⟩,
          ⟨(some 108), (some (107, false)), .fa 1 (.t 7)⟩,
          ⟨(some 109), (some (107, false)), .ld false 1 (.t 108)⟩,
          ⟨(some 110), (some (107, false)), .len false (.t 109)⟩,
          ⟨(some 111), (some (107, false)), .bin .gtr .i (.t 110) (.k (V.i 20))⟩,
          ⟨(some 112), none, .pick (.t 107) (.k (V.b true)) (.t 111)⟩] [1, 3, 7, 87, 88, 89, 112])
       (.cond (.t 112)
        (.seq (.reg none [⟨(some 2), none, .mv (.k (V.b false))⟩] [2])
         (.ret))
        (.skip)))
      (.reg none [⟨(some 113), none, .mv (.t 3)⟩,
        ⟨(some 114), none, .fa 0 (.t 7)⟩,
        ⟨(some 115), none, .ld false 1 (.t 114)⟩,
        ⟨none, none, .mup false (.t 113) (.t 115)⟩] [1, 3, 87, 88, 89]))))
    (.reg none [⟨(some 116), none, .bin .add .i (.t 89) (.k (V.i 1))⟩,
      ⟨(some 89), none, .mv (.t 116)⟩] [1, 3, 87, 88, 89]))))))
  (.seq (.seq (.reg none [⟨(some 117), none, .fa 3 (.t 1)⟩,
      ⟨(some 118), none, .ld false 1 (.t 117)⟩,
      ⟨(some 119), none, .len false (.t 118)⟩,
      ⟨(some 120), none, .mv (.k (V.i 0))⟩] [1, 118, 119, 120])
   (.bl 4 (.seq (.reg none [⟨(some 121), none, .bin .lss .i (.t 120) (.t 119)⟩] [1, 118, 119, 120, 121])
    (.seq (.cond (.t 121)
      (.skip)
      (.exit 4))
    (.seq (.block 5 (.seq (.reg none [⟨(some 122), none, .ia 1 (.t 118) (.t 120)⟩,
         ⟨(some 123), none, .ld false 1 (.t 122)⟩,
         ⟨(some 9), none, .mv (.t 123)⟩] [1, 9, 118, 119, 120])
      (.seq (.reg none [⟨(some 124), none, .mv (.t 9)⟩,
         ⟨(some 125), none, .fa 1 (.t 1)⟩,
         ⟨(some 126), none, .ld false 1 (.t 125)⟩,
         ⟨(some 127), none, .len false (.t 126)⟩,
         ⟨(some 128), none, .bin .sub .i (.t 127) (.k (V.i 1))⟩,
         ⟨(some 129), none, .call 89 true [(.t 124), (.k (V.i 0)), (.t 128)]⟩,
         ⟨(some 130), none, .not (.t 129)⟩] [1, 118, 119, 120, 130])
      (.cond (.t 130)
       (.seq (.reg none [⟨(some 2), none, .mv (.k (V.b false))⟩] [2])
        (.ret))
       (.skip)))))
    (.reg none [⟨(some 131), none, .bin .add .i (.t 120) (.k (V.i 1))⟩,
      ⟨(some 120), none, .mv (.t 131)⟩] [1, 118, 119, 120]))))))
  (.seq (.reg none [⟨(some 132), none, .mkm false⟩,
     ⟨(some 10), none, .mv (.t 132)⟩] [1, 10])
  (.seq (.seq (.reg none [⟨(some 133), none, .ld true 5 (.t 1)⟩,
      ⟨(some 134), none, .call 90 true [(.t 133)]⟩,
      ⟨(some 135), none, .len false (.t 134)⟩,
      ⟨(some 136), none, .mv (.k (V.i 0))⟩] [1, 10, 134, 135, 136])
   (.bl 6 (.seq (.reg none [⟨(some 137), none, .bin .lss .i (.t 136) (.t 135)⟩] [1, 10, 134, 135, 136, 137])
    (.seq (.cond (.t 137)
      (.skip)
      (.exit 6))
    (.seq (.block 7 (.seq (.reg none [⟨(some 138), none, .ia 2 (.t 134) (.t 136)⟩,
         ⟨(some 139), none, .ld true 2 (.t 138)⟩,
         ⟨(some 12), none, .alloc [.r (.v (.int .i64 0)), .r (.v (.int .i64 0))]⟩,
         ⟨none, none, .st 2 (.t 12) (.t 139)⟩] [1, 10, 12, 134, 135, 136])
      (.seq (.seq (.reg none [⟨(some 140), none, .fa 0 (.t 12)⟩,
          ⟨(some 141), none, .ld false 1 (.t 140)⟩,
          ⟨(some 142), none, .call 89 true [(.t 141), (.k (V.i 1)), (.k (V.i 9999))]⟩,
          ⟨(some 143), none, .not (.t 142)⟩,
          ⟨(some 144), none, .mv (.t 143)⟩,
          ⟨(some 145), (some (144, false)), .fa 1 (.t 12)⟩,
          ⟨(some 146), (some (144, false)), .ld false 1 (.t 145)⟩,
          ⟨(some 147), (some (144, false)), .fa 3 (.t 1)⟩,
          ⟨(some 148), (some (144, false)), .ld false 1 (.t 147)⟩,
          ⟨(some 149), (some (144, false)), .len false (.t 148)⟩,
          ⟨(some 150), (some (144, false)), .bin .sub .i (.t 149) (.k (V.i 1))⟩,
          ⟨(some 151), (some (144, false)), .call 89 true [(.t 146), (.k (V.i 0)), (.t 150)]⟩,
          ⟨(some 152), (some (144, false)), .not (.t 151)⟩,
          ⟨(some 153), none, .pick (.t 144) (.k (V.b true)) (.t 152)⟩,
          ⟨(some 154), none, .mv (.t 153)⟩,
          ⟨(some 155), (some (154, false)), .mv (.t 10)⟩,
          ⟨(some 156), (some (154, false)), .fa 0 (.t 12)⟩,
          ⟨(some 157), (some (154, false)), .ld false 1 (.t 156)⟩,
          ⟨(some 158), (some (154, false)), .mlk false (.t 155) (.t 157)⟩,
          ⟨(some 159), none, .pick (.t 154) (.k (V.b true)) (.t 158)⟩] [1, 10, 12, 134, 135, 136, 159])
       (.cond (.t 159)
        (.seq (.reg none [⟨(some 2), none, .mv (.k (V.b false))⟩] [2])
         (.ret))
        (.skip)))
      (.reg none [⟨(some 160), none, .mv (.t 10)⟩,
        ⟨(some 161), none, .fa 0 (.t 12)⟩,
        ⟨(some 162), none, .ld false 1 (.t 161)⟩,
        ⟨none, none, .mup false (.t 160) (.t 162)⟩] [1, 10, 134, 135, 136]))))
    (.reg none [⟨(some 163), none, .bin .add .i (.t 136) (.k (V.i 1))⟩,
      ⟨(some 136), none, .mv (.t 163)⟩] [1, 10, 134, 135, 136]))))))
  (.seq (.reg none [⟨(some 2), none, .mv (.k (V.b true))⟩] [2])
  (.ret))))))))))
def rv32 : List RV := [.t 2]
open Go.Proofs Go.IntWalk
set_option linter.unusedVariables false
set_option maxRecDepth 100000
set_option maxHeartbeats 4000000
def I_IsCentre_l4 (g : G) (t : TE) (a0 : Centre) (x10 : List Item) : Nat → Int → List Int → Option (LR Bool Unit)
  | 0, v4, w3 =>
    some (LR.out ())
  | n4 + 1, v4, w3 =>
    gt x10 (g.nat v4) fun x11 =>
    lP (I_within g t x11.Id 1 9999) fun x12 =>
    br x12
    (
     lP (I_within g t x11.Dest 0 (g.wrap .i64 (g.sub (g.llen (t.r_I64 a0.Plan)) 1))) fun x13 =>
     br x13
     (
      br (g.hasI w3 x11.Id)
      (
       some (LR.ret false))
      (
       I_IsCentre_l4 g t a0 x10 n4 (g.wrap .i64 (g.add v4 1)) (g.putI w3 x11.Id)))
     (
      some (LR.ret false)))
    (
     some (LR.ret false))
def I_IsCentre_l3 (g : G) (t : TE) (a0 : Centre) : List Int → LR Bool Unit
  | [] =>
    (LR.out ())
  | z3 :: ls3 =>
    lP (I_within g t z3 0 (g.wrap .i64 (g.sub (g.llen (t.r_Chute a0.Chutes)) 1))) fun x9 =>
    br x9
    (
     I_IsCentre_l3 g t a0 ls3)
    (
     (LR.ret false))
def I_IsCentre_l2 (g : G) (t : TE) (a0 : Centre) : List Inlet → List Int → LR Bool Unit
  | [], w2 =>
    (LR.out ())
  | z2 :: ls2, w2 =>
    lP (I_within g t z2.Cell 0 (g.wrap .i64 (g.sub (g.llen (t.r_Item a0.Belt)) 1))) fun x8 =>
    br x8
    (
     br (g.hasI w2 z2.Cell)
     (
      (LR.ret false))
     (
      br (g.lt 20 (g.llen (t.r_Item z2.Wait)))
      (
       (LR.ret false))
      (
       I_IsCentre_l2 g t a0 ls2 (g.putI w2 z2.Cell))))
    (
     (LR.ret false))
def I_IsCentre_l1 (g : G) (t : TE) (a0 : Centre) : List Chute → List Int → LR Bool Unit
  | [], w1 =>
    (LR.out ())
  | z1 :: ls1, w1 =>
    lP (I_within g t z1.Cell 0 (g.wrap .i64 (g.sub (g.llen (t.r_Item a0.Belt)) 1))) fun x6 =>
    br x6
    (
     br (g.hasI w1 z1.Cell)
     (
      (LR.ret false))
     (
      lP (I_within g t z1.Room 1 20) fun x7 =>
      br x7
      (
       br (g.lt z1.Room (g.llen (t.r_Item z1.Held)))
       (
        (LR.ret false))
       (
        I_IsCentre_l1 g t a0 ls1 (g.putI w1 z1.Cell)))
      (
       (LR.ret false))))
    (
     (LR.ret false))
def I_IsCentre (g : G) (t : TE) (a0 : Centre) : Option Bool :=
  lP (I_within g t (g.llen (t.r_Item a0.Belt)) 2 24) fun x1 =>
  br x1
  (
   lP (I_within g t (g.llen (t.r_Chute a0.Chutes)) 1 6) fun x2 =>
   br x2
   (
    lP (I_within g t (g.llen (t.r_Inlet a0.Inlets)) 1 4) fun x3 =>
    br x3
    (
     lP (I_within g t (g.llen (t.r_I64 a0.Plan)) 1 8) fun x4 =>
     br x4
     (
      lP (I_within g t a0.Now 0 100000) fun x5 =>
      br x5
      (
       lP (I_IsCentre_l1 g t a0 a0.Chutes []) fun o1 => lr o1 fun y1 =>
       lP (I_IsCentre_l2 g t a0 a0.Inlets []) fun o2 => lr o2 fun y2 =>
       lP (I_IsCentre_l3 g t a0 a0.Plan) fun o3 => lr o3 fun y3 =>
       cl (I_everyItem g t a0) fun x10 =>
       gd (((g.int (g.dlen (t.d_Item x10))) ≤ 4611686018427387904)) <|
       cl (I_IsCentre_l4 g t a0 x10 (cntLt 0 (g.int (g.dlen (t.d_Item x10)))) 0 []) fun o4 => lr o4 fun y4 =>
       some true)
      (
       some false))
     (
      some false))
    (
     some false))
   (
    some false))
  (
   some false)
theorem fit32 : codeFit Try.prog Try.f32.ntmps (Try.f32.body.getD .skip) ir32 = true := by kernel_rfl
theorem c_I_IsCentre {g : G} {t : TE} {a0 : Centre} {r : Bool} (hg : g = G.real) (ht : t = TE.real) (h : I_IsCentre g t a0 = some r) : Fn Try.prog 32 [.g (Centre.rs t a0)] (.c (.r (.v (.bool r)))) := by
  obtain ⟨X, hX⟩ := hide (.c (.r (.v (.bool r))) : X)
  rw [← hX]
  refine fn_of (rvs := rv32) (j := ir32) Try.func32 rfl fit32 (Nat.le_of_ble_eq_true rfl) (by kernel_rfl) prog_mixed ?_
  intro g2 F hg2 hF
  obtain rfl : g2 = g := hg2.unique.trans hg.symm
  clear hg2
  obtain ⟨wrap, lt, le, eq, quo, rem, band, bor, bxor, shl, shr, nat, int, add, sub, mul, cat, seq, slt, sub3, byte, llen, nadd, nsub, dlen, dapp, dset, drep, rd, rda, up, rsub, dsub, all, sle, slen, hasI, putI, hasS, putS, imin, imax, fzc⟩ := g2
  obtain ⟨r_Item, d_Item, r_Chute, d_Chute, r_Inlet, d_Inlet, r_I64, d_I64, r_U8, d_U8, d_InletF⟩ := t
  obtain ⟨a0_Belt, a0_Chutes, a0_Inlets, a0_Plan, a0_Now⟩ := a0
  unfold I_IsCentre at h
  try dsimp only at h
  cbv
  obtain ⟨x1, hx1, h⟩ := of_lP h
  try dsimp only at h
  refine ACall.mk _ _ rfl (hF _ _ _ (c_I_within hg ht hx1)) (.inl rfl) (Nat.le_of_ble_eq_true rfl) ?_
  cbv
  cases hb1 : x1 with
  | true =>
    rw [br_true hb1] at h
    cbv
    try (rw [hb1]; cbv)
    try (rw [hb1]; cbv)
    try (rw [hb1]; cbv)
    obtain ⟨x2, hx2, h⟩ := of_lP h
    try dsimp only at h
    refine ACall.mk _ _ rfl (hF _ _ _ (c_I_within hg ht hx2)) (.inl rfl) (Nat.le_of_ble_eq_true rfl) ?_
    cbv
    try (rw [hb1]; cbv)
    try (rw [hb1]; cbv)
    cases hb2 : x2 with
    | true =>
      rw [br_true hb2] at h
      cbv
      try (rw [hb2]; cbv)
      try (rw [hb2]; cbv)
      try (rw [hb2]; cbv)
      obtain ⟨x3, hx3, h⟩ := of_lP h
      try dsimp only at h
      refine ACall.mk _ _ rfl (hF _ _ _ (c_I_within hg ht hx3)) (.inl rfl) (Nat.le_of_ble_eq_true rfl) ?_
      cbv
      try (rw [hb2]; cbv)
      try (rw [hb2]; cbv)
      cases hb3 : x3 with
      | true =>
        rw [br_true hb3] at h
        cbv
        try (rw [hb3]; cbv)
        try (rw [hb3]; cbv)
        try (rw [hb3]; cbv)
        obtain ⟨x4, hx4, h⟩ := of_lP h
        try dsimp only at h
        refine ACall.mk _ _ rfl (hF _ _ _ (c_I_within hg ht hx4)) (.inl rfl) (Nat.le_of_ble_eq_true rfl) ?_
        cbv
        try (rw [hb3]; cbv)
        try (rw [hb3]; cbv)
        cases hb4 : x4 with
        | true =>
          rw [br_true hb4] at h
          cbv
          try (rw [hb4]; cbv)
          try (rw [hb4]; cbv)
          obtain ⟨x5, hx5, h⟩ := of_lP h
          try dsimp only at h
          refine ACall.mk _ _ rfl (hF _ _ _ (c_I_within hg ht hx5)) (.inl rfl) (Nat.le_of_ble_eq_true rfl) ?_
          cbv
          try (rw [hb4]; cbv)
          try (rw [hb4]; cbv)
          cases hb5 : x5 with
          | true =>
            rw [br_true hb5] at h
            cbv
            obtain ⟨o1, ho1, h⟩ := of_lP h
            try dsimp only at h
            try rw [hg] at ho1
            try rw [ht] at ho1
            refine ABL.mk { p : Nat × Int × List Int // p.1 ≤ a0_Chutes.length ∧ p.2.1 = ((p.1 : Nat) : Int) ∧ I_IsCentre_l1 G.real TE.real (Centre.mk a0_Belt a0_Chutes a0_Inlets a0_Plan a0_Now) (List.drop p.1 a0_Chutes) p.2.2 = o1 } (fun ⟨⟨k1, v1, w1⟩, _⟩ => ({ sl := [(1, .c (.p 0 5 0 0)), (3, .c (.m 1)), (47, .c (.r (.s 3 (r_Chute a0_Chutes)))), (48, .c (.r (.v (.int .i64 (llen (r_Chute a0_Chutes)))))), (49, .c (.r (.v (.int .i64 v1))))], tab := [(0, some (.foc 5 [] [.r (.s 2 (r_Item a0_Belt)), .r (.s 3 (r_Chute a0_Chutes)), .r (.s 2 (r_Inlet a0_Inlets)), .r (.s 1 (r_I64 a0_Plan)), .r (.v (.int .i64 a0_Now))] [])), (1, some (.mi w1))] } : St)) 2 (fun p => a0_Chutes.length - p.1.1) ⟨(0, 0, []), Nat.zero_le _, rfl, ho1⟩ (Unit) (fun _ => ({ sl := [(1, .c (.p 0 5 0 0))], tab := [(0, some (.foc 5 [] [.r (.s 2 (r_Item a0_Belt)), .r (.s 3 (r_Chute a0_Chutes)), .r (.s 2 (r_Inlet a0_Inlets)), .r (.s 1 (r_I64 a0_Plan)), .r (.v (.int .i64 a0_Now))] []))] } : St)) 1 (fun y => o1 = LR.out y) ?_ ?_ ?_
            · refine Wk.of [(0, some 0), (1, some 544)] rfl rfl ?_ ?_
              · cbv
                all_goals exact ⟨⟨_, rfl, rfl⟩, ⟨_, rfl, rfl⟩, ⟨_, rfl, rfl⟩, ⟨_, rfl, rfl⟩, ⟨_, rfl, rfl⟩, trivial⟩
              · cbv
                all_goals exact ⟨⟨_, rfl, _, rfl, rfl, rfl, rfl, rfl, rfl, trivial⟩, ⟨_, rfl, rfl⟩, trivial⟩
            · rintro ⟨⟨k1, v1, w1⟩, hk1, hi1, h_1⟩ hq1
              have hm1 := (hq1.1 47 _ _ rfl)
              try dsimp only at hk1 hi1 h_1
              clear hq1
              cbv
              by_cases hc1_ : k1 < a0_Chutes.length
              · have hb6 : lt v1 (llen (r_Chute a0_Chutes)) = true := ltL_true_Chute hg ht hi1 hc1_
                have hs1 := stepL_Chute hg ht hi1 hc1_ hm1
                obtain ⟨z1, hz1⟩ := some_of_lt hc1_
                rw [drop_of_some hz1] at h_1
                rw [I_IsCentre_l1] at h_1
                obtain ⟨z1_Cell, z1_Room, z1_Held⟩ := z1
                try rw [← hg] at h_1
                try rw [← ht] at h_1
                try dsimp only at h_1
                rw [hb6]
                cbv
                refine AStep.mk (nn_L hi1) ?_
                cbv
                refine AGet.mk _ (r_getL_Chute hg ht hi1 hz1) ?_
                cbv
                obtain ⟨x6, hx6, h_1⟩ := of_lP h_1
                try dsimp only at h_1
                refine ACall.mk _ _ rfl (hF _ _ _ (c_I_within hg ht hx6)) (.inl rfl) (Nat.le_of_ble_eq_true rfl) ?_
                cbv
                cases hb7 : x6 with
                | true =>
                  rw [br_true hb7] at h_1
                  cbv
                  try (rw [hb7]; cbv)
                  try (rw [hb7]; cbv)
                  try (rw [hb7]; cbv)
                  try (rw [hb7]; cbv)
                  cases hb8 : (hasI w1 z1_Cell) with
                  | true =>
                    rw [br_true hb8] at h_1
                    cbv
                    try (rw [hb8]; cbv)
                    try (rw [hb8]; cbv)
                    try (rw [hb8]; cbv)
                    try (rw [hb8]; cbv)
                    subst h_1
                    try dsimp only [lr, lrL, lrp, lrpL] at h
                    obtain rfl := Option.some.inj h
                    exact ARet.mk trivial hX.symm
                  | false =>
                    rw [br_false hb8] at h_1
                    cbv
                    try (rw [hb8]; cbv)
                    try (rw [hb8]; cbv)
                    obtain ⟨x7, hx7, h_1⟩ := of_lP h_1
                    try dsimp only at h_1
                    refine ACall.mk _ _ rfl (hF _ _ _ (c_I_within hg ht hx7)) (.inl rfl) (Nat.le_of_ble_eq_true rfl) ?_
                    cbv
                    try (rw [hb8]; cbv)
                    try (rw [hb8]; cbv)
                    cases hb9 : x7 with
                    | true =>
                      rw [br_true hb9] at h_1
                      cbv
                      try (rw [hb9]; cbv)
                      try (rw [hb9]; cbv)
                      try (rw [hb9]; cbv)
                      try (rw [hb9]; cbv)
                      try (rw [hb9]; cbv)
                      try (rw [hb9]; cbv)
                      cases hb10 : (lt z1_Room (llen (r_Item z1_Held))) with
                      | true =>
                        rw [br_true hb10] at h_1
                        cbv
                        subst h_1
                        try dsimp only [lr, lrL, lrp, lrpL] at h
                        obtain rfl := Option.some.inj h
                        exact ARet.mk trivial hX.symm
                      | false =>
                        rw [br_false hb10] at h_1
                        cbv
                        try rw [hg] at h_1
                        try rw [ht] at h_1
                        refine ⟨⟨(k1 + 1, (wrap .i64 (add v1 1)), (putI w1 z1_Cell)), hc1_, hs1, h_1⟩, Wk.of [(0, some 0), (1, some 1)] rfl rfl ?_ ?_, meas_L hc1_⟩
                        · cbv
                          all_goals exact ⟨⟨_, rfl, rfl⟩, ⟨_, rfl, rfl⟩, ⟨_, rfl, rfl⟩, ⟨_, rfl, rfl⟩, ⟨_, rfl, rfl⟩, trivial⟩
                        · cbv
                          all_goals exact ⟨⟨_, rfl, _, rfl, rfl, rfl, rfl, rfl, rfl, trivial⟩, ⟨_, rfl, rfl⟩, trivial⟩
                    | false =>
                      rw [br_false hb9] at h_1
                      cbv
                      try (rw [hb9]; cbv)
                      try (rw [hb9]; cbv)
                      try (rw [hb9]; cbv)
                      try (rw [hb9]; cbv)
                      try (rw [hb9]; cbv)
                      try (rw [hb9]; cbv)
                      subst h_1
                      try dsimp only [lr, lrL, lrp, lrpL] at h
                      obtain rfl := Option.some.inj h
                      exact ARet.mk trivial hX.symm
                | false =>
                  rw [br_false hb7] at h_1
                  cbv
                  try (rw [hb7]; cbv)
                  try (rw [hb7]; cbv)
                  try (rw [hb7]; cbv)
                  try (rw [hb7]; cbv)
                  subst h_1
                  try dsimp only [lr, lrL, lrp, lrpL] at h
                  obtain rfl := Option.some.inj h
                  exact ARet.mk trivial hX.symm
              · have hb6 : lt v1 (llen (r_Chute a0_Chutes)) = false := ltL_false_Chute hg ht hi1 hc1_
                rw [List.drop_of_length_le (Nat.le_of_not_lt hc1_)] at h_1
                rw [I_IsCentre_l1] at h_1
                try rw [← hg] at h_1
                try rw [← ht] at h_1
                try dsimp only at h_1
                rw [hb6]
                cbv
                refine ⟨(), Wk.of [(0, some 0)] rfl rfl ?_ ?_, h_1.symm⟩
                · cbv
                  all_goals exact ⟨⟨_, rfl, rfl⟩, trivial⟩
                · cbv
                  all_goals exact ⟨⟨_, rfl, _, rfl, rfl, rfl, rfl, rfl, rfl, trivial⟩, trivial⟩
            · rintro _ hy1
              replace hy1 := hy1.symm
              subst hy1
              try dsimp only [lr, lrL, lrp, lrpL] at h
              cbv
              obtain ⟨o2, ho2, h⟩ := of_lP h
              try dsimp only at h
              try rw [hg] at ho2
              try rw [ht] at ho2
              refine ABL.mk { p : Nat × Int × List Int // p.1 ≤ a0_Inlets.length ∧ p.2.1 = ((p.1 : Nat) : Int) ∧ I_IsCentre_l2 G.real TE.real (Centre.mk a0_Belt a0_Chutes a0_Inlets a0_Plan a0_Now) (List.drop p.1 a0_Inlets) p.2.2 = o2 } (fun ⟨⟨k2, v2, w2⟩, _⟩ => ({ sl := [(1, .c (.p 0 5 0 0)), (3, .c (.m 1)), (87, .c (.r (.s 2 (r_Inlet a0_Inlets)))), (88, .c (.r (.v (.int .i64 (llen (r_Inlet a0_Inlets)))))), (89, .c (.r (.v (.int .i64 v2))))], tab := [(0, some (.foc 5 [] [.r (.s 2 (r_Item a0_Belt)), .r (.s 3 (r_Chute a0_Chutes)), .r (.s 2 (r_Inlet a0_Inlets)), .r (.s 1 (r_I64 a0_Plan)), .r (.v (.int .i64 a0_Now))] [])), (1, some (.mi w2))] } : St)) 2 (fun p => a0_Inlets.length - p.1.1) ⟨(0, 0, []), Nat.zero_le _, rfl, ho2⟩ (Unit) (fun _ => ({ sl := [(1, .c (.p 0 5 0 0))], tab := [(0, some (.foc 5 [] [.r (.s 2 (r_Item a0_Belt)), .r (.s 3 (r_Chute a0_Chutes)), .r (.s 2 (r_Inlet a0_Inlets)), .r (.s 1 (r_I64 a0_Plan)), .r (.v (.int .i64 a0_Now))] []))] } : St)) 1 (fun y => o2 = LR.out y) ?_ ?_ ?_
              · refine Wk.of [(0, some 0), (1, some 1)] rfl rfl ?_ ?_
                · cbv
                  all_goals exact ⟨⟨_, rfl, rfl⟩, ⟨_, rfl, rfl⟩, ⟨_, rfl, rfl⟩, ⟨_, rfl, rfl⟩, ⟨_, rfl, rfl⟩, trivial⟩
                · cbv
                  all_goals exact ⟨⟨_, rfl, _, rfl, rfl, rfl, rfl, rfl, rfl, trivial⟩, ⟨_, rfl, rfl⟩, trivial⟩
              · rintro ⟨⟨k2, v2, w2⟩, hk2, hi2, h_2⟩ hq2
                have hm2 := (hq2.1 87 _ _ rfl)
                try dsimp only at hk2 hi2 h_2
                clear hq2
                cbv
                by_cases hc2_ : k2 < a0_Inlets.length
                · have hb11 : lt v2 (llen (r_Inlet a0_Inlets)) = true := ltL_true_Inlet hg ht hi2 hc2_
                  have hs2 := stepL_Inlet hg ht hi2 hc2_ hm2
                  obtain ⟨z2, hz2⟩ := some_of_lt hc2_
                  rw [drop_of_some hz2] at h_2
                  rw [I_IsCentre_l2] at h_2
                  obtain ⟨z2_Cell, z2_Wait⟩ := z2
                  try rw [← hg] at h_2
                  try rw [← ht] at h_2
                  try dsimp only at h_2
                  rw [hb11]
                  cbv
                  refine AStep.mk (nn_L hi2) ?_
                  cbv
                  refine AGet.mk _ (r_getL_Inlet hg ht hi2 hz2) ?_
                  cbv
                  obtain ⟨x8, hx8, h_2⟩ := of_lP h_2
                  try dsimp only at h_2
                  refine ACall.mk _ _ rfl (hF _ _ _ (c_I_within hg ht hx8)) (.inl rfl) (Nat.le_of_ble_eq_true rfl) ?_
                  cbv
                  cases hb12 : x8 with
                  | true =>
                    rw [br_true hb12] at h_2
                    cbv
                    try (rw [hb12]; cbv)
                    try (rw [hb12]; cbv)
                    try (rw [hb12]; cbv)
                    try (rw [hb12]; cbv)
                    cases hb13 : (hasI w2 z2_Cell) with
                    | true =>
                      rw [br_true hb13] at h_2
                      cbv
                      try (rw [hb13]; cbv)
                      try (rw [hb13]; cbv)
                      try (rw [hb13]; cbv)
                      try (rw [hb13]; cbv)
                      subst h_2
                      try dsimp only [lr, lrL, lrp, lrpL] at h
                      obtain rfl := Option.some.inj h
                      exact ARet.mk trivial hX.symm
                    | false =>
                      rw [br_false hb13] at h_2
                      cbv
                      try (rw [hb13]; cbv)
                      try (rw [hb13]; cbv)
                      try (rw [hb13]; cbv)
                      try (rw [hb13]; cbv)
                      cases hb14 : (lt 20 (llen (r_Item z2_Wait))) with
                      | true =>
                        rw [br_true hb14] at h_2
                        cbv
                        subst h_2
                        try dsimp only [lr, lrL, lrp, lrpL] at h
                        obtain rfl := Option.some.inj h
                        exact ARet.mk trivial hX.symm
                      | false =>
                        rw [br_false hb14] at h_2
                        cbv
                        try rw [hg] at h_2
                        try rw [ht] at h_2
                        refine ⟨⟨(k2 + 1, (wrap .i64 (add v2 1)), (putI w2 z2_Cell)), hc2_, hs2, h_2⟩, Wk.of [(0, some 0), (1, some 1)] rfl rfl ?_ ?_, meas_L hc2_⟩
                        · cbv
                          all_goals exact ⟨⟨_, rfl, rfl⟩, ⟨_, rfl, rfl⟩, ⟨_, rfl, rfl⟩, ⟨_, rfl, rfl⟩, ⟨_, rfl, rfl⟩, trivial⟩
                        · cbv
                          all_goals exact ⟨⟨_, rfl, _, rfl, rfl, rfl, rfl, rfl, rfl, trivial⟩, ⟨_, rfl, rfl⟩, trivial⟩
                  | false =>
                    rw [br_false hb12] at h_2
                    cbv
                    try (rw [hb12]; cbv)
                    try (rw [hb12]; cbv)
                    try (rw [hb12]; cbv)
                    try (rw [hb12]; cbv)
                    subst h_2
                    try dsimp only [lr, lrL, lrp, lrpL] at h
                    obtain rfl := Option.some.inj h
                    exact ARet.mk trivial hX.symm
                · have hb11 : lt v2 (llen (r_Inlet a0_Inlets)) = false := ltL_false_Inlet hg ht hi2 hc2_
                  rw [List.drop_of_length_le (Nat.le_of_not_lt hc2_)] at h_2
                  rw [I_IsCentre_l2] at h_2
                  try rw [← hg] at h_2
                  try rw [← ht] at h_2
                  try dsimp only at h_2
                  rw [hb11]
                  cbv
                  refine ⟨(), Wk.of [(0, some 0)] rfl rfl ?_ ?_, h_2.symm⟩
                  · cbv
                    all_goals exact ⟨⟨_, rfl, rfl⟩, trivial⟩
                  · cbv
                    all_goals exact ⟨⟨_, rfl, _, rfl, rfl, rfl, rfl, rfl, rfl, trivial⟩, trivial⟩
              · rintro _ hy2
                replace hy2 := hy2.symm
                subst hy2
                try dsimp only [lr, lrL, lrp, lrpL] at h
                cbv
                obtain ⟨o3, ho3, h⟩ := of_lP h
                try dsimp only at h
                try rw [hg] at ho3
                try rw [ht] at ho3
                refine ABL.mk { p : Nat × Int // p.1 ≤ a0_Plan.length ∧ p.2 = ((p.1 : Nat) : Int) ∧ I_IsCentre_l3 G.real TE.real (Centre.mk a0_Belt a0_Chutes a0_Inlets a0_Plan a0_Now) (List.drop p.1 a0_Plan) = o3 } (fun ⟨⟨k3, v3⟩, _⟩ => ({ sl := [(1, .c (.p 0 5 0 0)), (118, .c (.r (.s 1 (r_I64 a0_Plan)))), (119, .c (.r (.v (.int .i64 (llen (r_I64 a0_Plan)))))), (120, .c (.r (.v (.int .i64 v3))))], tab := [(0, some (.foc 5 [] [.r (.s 2 (r_Item a0_Belt)), .r (.s 3 (r_Chute a0_Chutes)), .r (.s 2 (r_Inlet a0_Inlets)), .r (.s 1 (r_I64 a0_Plan)), .r (.v (.int .i64 a0_Now))] []))] } : St)) 1 (fun p => a0_Plan.length - p.1.1) ⟨(0, 0), Nat.zero_le _, rfl, ho3⟩ (Unit) (fun _ => ({ sl := [(1, .c (.p 0 5 0 0))], tab := [(0, some (.foc 5 [] [.r (.s 2 (r_Item a0_Belt)), .r (.s 3 (r_Chute a0_Chutes)), .r (.s 2 (r_Inlet a0_Inlets)), .r (.s 1 (r_I64 a0_Plan)), .r (.v (.int .i64 a0_Now))] []))] } : St)) 1 (fun y => o3 = LR.out y) ?_ ?_ ?_
                · refine Wk.of [(0, some 0)] rfl rfl ?_ ?_
                  · cbv
                    all_goals exact ⟨⟨_, rfl, rfl⟩, ⟨_, rfl, rfl⟩, ⟨_, rfl, rfl⟩, ⟨_, rfl, rfl⟩, trivial⟩
                  · cbv
                    all_goals exact ⟨⟨_, rfl, _, rfl, rfl, rfl, rfl, rfl, rfl, trivial⟩, trivial⟩
                · rintro ⟨⟨k3, v3⟩, hk3, hi3, h_3⟩ hq3
                  have hm3 := (hq3.1 118 _ _ rfl)
                  try dsimp only at hk3 hi3 h_3
                  clear hq3
                  cbv
                  by_cases hc3_ : k3 < a0_Plan.length
                  · have hb15 : lt v3 (llen (r_I64 a0_Plan)) = true := ltL_true_I64 hg ht hi3 hc3_
                    have hs3 := stepL_I64 hg ht hi3 hc3_ hm3
                    obtain ⟨z3, hz3⟩ := some_of_lt hc3_
                    rw [drop_of_some hz3] at h_3
                    rw [I_IsCentre_l3] at h_3
                    try rw [← hg] at h_3
                    try rw [← ht] at h_3
                    try dsimp only at h_3
                    rw [hb15]
                    cbv
                    refine AStep.mk (nn_L hi3) ?_
                    cbv
                    refine AGet.mk _ (r_getL_I64 hg ht hi3 hz3) ?_
                    cbv
                    obtain ⟨x9, hx9, h_3⟩ := of_lP h_3
                    try dsimp only at h_3
                    refine ACall.mk _ _ rfl (hF _ _ _ (c_I_within hg ht hx9)) (.inl rfl) (Nat.le_of_ble_eq_true rfl) ?_
                    cbv
                    cases hb16 : x9 with
                    | true =>
                      rw [br_true hb16] at h_3
                      cbv
                      try rw [hg] at h_3
                      try rw [ht] at h_3
                      refine ⟨⟨(k3 + 1, (wrap .i64 (add v3 1))), hc3_, hs3, h_3⟩, Wk.of [(0, some 0)] rfl rfl ?_ ?_, meas_L hc3_⟩
                      · cbv
                        all_goals exact ⟨⟨_, rfl, rfl⟩, ⟨_, rfl, rfl⟩, ⟨_, rfl, rfl⟩, ⟨_, rfl, rfl⟩, trivial⟩
                      · cbv
                        all_goals exact ⟨⟨_, rfl, _, rfl, rfl, rfl, rfl, rfl, rfl, trivial⟩, trivial⟩
                    | false =>
                      rw [br_false hb16] at h_3
                      cbv
                      subst h_3
                      try dsimp only [lr, lrL, lrp, lrpL] at h
                      obtain rfl := Option.some.inj h
                      exact ARet.mk trivial hX.symm
                  · have hb15 : lt v3 (llen (r_I64 a0_Plan)) = false := ltL_false_I64 hg ht hi3 hc3_
                    rw [List.drop_of_length_le (Nat.le_of_not_lt hc3_)] at h_3
                    rw [I_IsCentre_l3] at h_3
                    try rw [← hg] at h_3
                    try rw [← ht] at h_3
                    try dsimp only at h_3
                    rw [hb15]
                    cbv
                    refine ⟨(), Wk.of [(0, some 0)] rfl rfl ?_ ?_, h_3.symm⟩
                    · cbv
                      all_goals exact ⟨⟨_, rfl, rfl⟩, trivial⟩
                    · cbv
                      all_goals exact ⟨⟨_, rfl, _, rfl, rfl, rfl, rfl, rfl, rfl, trivial⟩, trivial⟩
                · rintro _ hy3
                  replace hy3 := hy3.symm
                  subst hy3
                  try dsimp only [lr, lrL, lrp, lrpL] at h
                  cbv
                  obtain ⟨x10, hx10, h⟩ := of_cl h
                  try dsimp only at h
                  refine ACall.mk _ _ rfl (hF _ _ _ (c_I_everyItem hg ht hx10)) (.inl rfl) (Nat.le_of_ble_eq_true rfl) ?_
                  cbv
                  obtain ⟨hB4, h⟩ := of_gd h
                  obtain ⟨o4, ho4, h⟩ := of_cl h
                  try dsimp only at h
                  try rw [hg] at ho4
                  try rw [ht] at ho4
                  refine ABL.mk { p : Nat × Int × List Int // p.1 = cntLt p.2.1 (int (dlen (d_Item x10))) ∧ 0 ≤ p.2.1 ∧ I_IsCentre_l4 G.real TE.real (Centre.mk a0_Belt a0_Chutes a0_Inlets a0_Plan a0_Now) x10 p.1 p.2.1 p.2.2 = some o4 } (fun ⟨⟨n4, v4, w3⟩, _⟩ => ({ sl := [(1, .c (.p 0 5 0 0)), (10, .c (.m 1)), (134, .c (.f 2 2 0 (dlen (d_Item x10)))), (135, .c (.r (.v (.int .i64 (int (dlen (d_Item x10))))))), (136, .c (.r (.v (.int .i64 v4))))], tab := [(0, some (.foc 5 [] [.r (.s 2 (r_Item a0_Belt)), .r (.s 3 (r_Chute a0_Chutes)), .r (.s 2 (r_Inlet a0_Inlets)), .r (.s 1 (r_I64 a0_Plan)), .r (.v (.int .i64 a0_Now))] [])), (1, some (.mi w3)), (2, some (.arr 2 (d_Item x10)))] } : St)) 3 (fun p => p.1.1) ⟨(cntLt 0 (int (dlen (d_Item x10))), 0, []), rfl, Int.le_refl _, ho4⟩ (Unit) (fun _ => ({ sl := [], tab := [] } : St)) 0 (fun y => o4 = LR.out y) ?_ ?_ ?_
                  · refine Wk.of [(0, some 0), (1, some 1), (2, some 49)] rfl rfl ?_ ?_
                    · cbv
                      all_goals exact ⟨⟨_, rfl, rfl⟩, ⟨_, rfl, rfl⟩, ⟨_, rfl, rfl⟩, ⟨_, rfl, rfl⟩, ⟨_, rfl, rfl⟩, trivial⟩
                    · cbv
                      all_goals exact ⟨⟨_, rfl, _, rfl, rfl, rfl, rfl, rfl, rfl, trivial⟩, ⟨_, rfl, rfl⟩, ⟨_, rfl, rfl⟩, trivial⟩
                  · rintro ⟨⟨n4, v4, w3⟩, hn4, hi4, h_4⟩ hq4
                    try dsimp only at hn4 hi4 h_4
                    clear hq4
                    cbv
                    rcases n4 with _ | n4
                    · have hb17 : lt v4 (int (dlen (d_Item x10))) = false := ltC_false hg hn4
                      rw [I_IsCentre_l4] at h_4
                      try rw [← hg] at h_4
                      try rw [← ht] at h_4
                      try dsimp only at h_4
                      rw [hb17]
                      cbv
                      refine ⟨(), Wk.of [] rfl rfl ?_ ?_, (Option.some.inj h_4).symm⟩
                      · cbv
                        all_goals exact trivial
                      · cbv
                        all_goals exact trivial
                    · have hb17 : lt v4 (int (dlen (d_Item x10))) = true := ltC_true hg hn4
                      have hl4 := ltC_le hn4
                      have hs4 := stepltC hg hn4 hi4 hB4 (by decide)
                      rw [I_IsCentre_l4] at h_4
                      try rw [← hg] at h_4
                      try rw [← ht] at h_4
                      try dsimp only at h_4
                      rw [hb17]
                      cbv
                      refine AStep.mk (rg_int hg hi4 hl4) ?_
                      cbv
                      obtain ⟨x11, hx11, h_4⟩ := of_gt h_4
                      obtain ⟨x11_Id, x11_Dest⟩ := x11
                      try dsimp only at h_4
                      refine AGet.mk _ (d_get_Item hg ht hx11) ?_
                      cbv
                      obtain ⟨x12, hx12, h_4⟩ := of_lP h_4
                      try dsimp only at h_4
                      refine ACall.mk _ _ rfl (hF _ _ _ (c_I_within hg ht hx12)) (.inl rfl) (Nat.le_of_ble_eq_true rfl) ?_
                      cbv
                      cases hb18 : x12 with
                      | true =>
                        rw [br_true hb18] at h_4
                        cbv
                        try (rw [hb18]; cbv)
                        try (rw [hb18]; cbv)
                        try (rw [hb18]; cbv)
                        try (rw [hb18]; cbv)
                        try (rw [hb18]; cbv)
                        try (rw [hb18]; cbv)
                        obtain ⟨x13, hx13, h_4⟩ := of_lP h_4
                        try dsimp only at h_4
                        refine ACall.mk _ _ rfl (hF _ _ _ (c_I_within hg ht hx13)) (.inl rfl) (Nat.le_of_ble_eq_true rfl) ?_
                        cbv
                        try (rw [hb18]; cbv)
                        try (rw [hb18]; cbv)
                        cases hb19 : x13 with
                        | true =>
                          rw [br_true hb19] at h_4
                          cbv
                          try (rw [hb19]; cbv)
                          try (rw [hb19]; cbv)
                          try (rw [hb19]; cbv)
                          try (rw [hb19]; cbv)
                          cases hb20 : (hasI w3 x11_Id) with
                          | true =>
                            rw [br_true hb20] at h_4
                            cbv
                            obtain rfl := Option.some.inj h_4
                            try dsimp only [lr, lrL, lrp, lrpL] at h
                            obtain rfl := Option.some.inj h
                            exact ARet.mk trivial hX.symm
                          | false =>
                            rw [br_false hb20] at h_4
                            cbv
                            try rw [hg] at h_4
                            try rw [ht] at h_4
                            refine ⟨⟨(n4, (wrap .i64 (add v4 1)), (putI w3 x11_Id)), hs4.1, hs4.2, h_4⟩, Wk.of [(0, some 0), (1, some 1), (2, some 2)] rfl rfl ?_ ?_, Nat.lt_succ_self _⟩
                            · cbv
                              all_goals exact ⟨⟨_, rfl, rfl⟩, ⟨_, rfl, rfl⟩, ⟨_, rfl, rfl⟩, ⟨_, rfl, rfl⟩, ⟨_, rfl, rfl⟩, trivial⟩
                            · cbv
                              all_goals exact ⟨⟨_, rfl, _, rfl, rfl, rfl, rfl, rfl, rfl, trivial⟩, ⟨_, rfl, rfl⟩, ⟨_, rfl, rfl⟩, trivial⟩
                        | false =>
                          rw [br_false hb19] at h_4
                          cbv
                          try (rw [hb19]; cbv)
                          try (rw [hb19]; cbv)
                          try (rw [hb19]; cbv)
                          try (rw [hb19]; cbv)
                          obtain rfl := Option.some.inj h_4
                          try dsimp only [lr, lrL, lrp, lrpL] at h
                          obtain rfl := Option.some.inj h
                          exact ARet.mk trivial hX.symm
                      | false =>
                        rw [br_false hb18] at h_4
                        cbv
                        try (rw [hb18]; cbv)
                        try (rw [hb18]; cbv)
                        try (rw [hb18]; cbv)
                        try (rw [hb18]; cbv)
                        try (rw [hb18]; cbv)
                        try (rw [hb18]; cbv)
                        try (rw [hb18]; cbv)
                        try (rw [hb18]; cbv)
                        obtain rfl := Option.some.inj h_4
                        try dsimp only [lr, lrL, lrp, lrpL] at h
                        obtain rfl := Option.some.inj h
                        exact ARet.mk trivial hX.symm
                  · rintro _ hy4
                    replace hy4 := hy4.symm
                    subst hy4
                    try dsimp only [lr, lrL, lrp, lrpL] at h
                    cbv
                    obtain rfl := Option.some.inj h
                    exact ARet.mk trivial hX.symm
          | false =>
            rw [br_false hb5] at h
            cbv
            obtain rfl := Option.some.inj h
            exact ARet.mk trivial hX.symm
        | false =>
          rw [br_false hb4] at h
          cbv
          try (rw [hb4]; cbv)
          try (rw [hb4]; cbv)
          try (rw [hb4]; cbv)
          try (rw [hb4]; cbv)
          obtain rfl := Option.some.inj h
          exact ARet.mk trivial hX.symm
      | false =>
        rw [br_false hb3] at h
        cbv
        try (rw [hb3]; cbv)
        try (rw [hb3]; cbv)
        try (rw [hb3]; cbv)
        try (rw [hb3]; cbv)
        try (rw [hb3]; cbv)
        obtain rfl := Option.some.inj h
        exact ARet.mk trivial hX.symm
    | false =>
      rw [br_false hb2] at h
      cbv
      try (rw [hb2]; cbv)
      try (rw [hb2]; cbv)
      try (rw [hb2]; cbv)
      try (rw [hb2]; cbv)
      try (rw [hb2]; cbv)
      obtain rfl := Option.some.inj h
      exact ARet.mk trivial hX.symm
  | false =>
    rw [br_false hb1] at h
    cbv
    try (rw [hb1]; cbv)
    try (rw [hb1]; cbv)
    try (rw [hb1]; cbv)
    try (rw [hb1]; cbv)
    try (rw [hb1]; cbv)
    obtain rfl := Option.some.inj h
    exact ARet.mk trivial hX.symm
end Go.Vs
namespace Go.Vs
set_option maxRecDepth 100000
def ir109 : J :=
  .seq (.reg none [⟨(some 2), none, .mv (.k (.c (.n 2)))⟩] [0])
  (.seq (.reg none [⟨(some 3), none, .bsl 2 []⟩,
     ⟨(some 4), none, .mv (.t 0)⟩,
     ⟨(some 5), none, .app 2 16 false (.t 3) (.t 4)⟩,
     ⟨(some 2), none, .mv (.t 5)⟩] [2])
  (.ret))
def rv109 : List RV := [.t 2]
open Go.Proofs Go.IntWalk
set_option linter.unusedVariables false
set_option maxRecDepth 100000
set_option maxHeartbeats 4000000
def I_copyItems (g : G) (t : TE) (a0 : List Item) : Option (List Item) :=
  lP ([]) fun (l1 : List Item) =>
  gd (((l1.length + a0.length) * 16 ≤ 70368744177664)) <|
  lP (l1 ++ a0) fun (l2 : List Item) =>
  some l2
theorem fit109 : codeFit Try.prog Try.f109.ntmps (Try.f109.body.getD .skip) ir109 = true := by kernel_rfl
theorem c_I_copyItems {g : G} {t : TE} {a0 : List Item} {r : List Item} (hg : g = G.real) (ht : t = TE.real) (h : I_copyItems g t a0 = some r) : Fn Try.prog 109 [.c (.s 2 (t.r_Item a0))] (.c (.o 2 (t.d_Item r))) := by
  obtain ⟨X, hX⟩ := hide (.c (.o 2 (t.d_Item r)) : X)
  rw [← hX]
  refine fn_of (rvs := rv109) (j := ir109) Try.func109 rfl fit109 (Nat.le_of_ble_eq_true rfl) (by kernel_rfl) prog_mixed ?_
  intro g2 F hg2 hF
  obtain rfl : g2 = g := hg2.unique.trans hg.symm
  clear hg2
  obtain ⟨wrap, lt, le, eq, quo, rem, band, bor, bxor, shl, shr, nat, int, add, sub, mul, cat, seq, slt, sub3, byte, llen, nadd, nsub, dlen, dapp, dset, drep, rd, rda, up, rsub, dsub, all, sle, slen, hasI, putI, hasS, putS, imin, imax, fzc⟩ := g2
  obtain ⟨r_Item, d_Item, r_Chute, d_Chute, r_Inlet, d_Inlet, r_I64, d_I64, r_U8, d_U8, d_InletF⟩ := t
  unfold I_copyItems at h
  try dsimp only at h
  cbv
  obtain ⟨l1, hl1, h⟩ := of_lP h
  try dsimp only at h
  refine ANew.mk (d_Item l1) (dlen (d_Item l1)) (by rw [← hl1]; exact lit_Item hg ht []) (by rw [← hl1]; exact litn_Item hg ht []) ?_
  cbv
  obtain ⟨hc1, h⟩ := of_gd h
  refine AStep.mk (app_ok_Item hg ht (dlen_Item hg ht _) (up_Item hg ht _) hc1) ?_
  cbv
  obtain ⟨l2, hl2, h⟩ := of_lP h
  try dsimp only at h
  refine ANew.mk (d_Item l2) (dlen (d_Item l2)) (by rw [← hl2]; exact app_Item hg ht (dlen_Item hg ht _) (up_Item hg ht _)) (by rw [← hl2]; exact appl_Item hg ht (dlen_Item hg ht _) (up_Item hg ht _)) ?_
  cbv
  obtain rfl := Option.some.inj h
  exact ARet.mk ⟨rfl, (dlen_Item hg ht _)⟩ hX.symm
end Go.Vs
namespace Go.Vs
set_option maxRecDepth 100000
def ir94 : J :=
  .seq (.reg none [⟨(some 1), none, .box (.t 0)⟩,
     ⟨(some 2), none, .alloc [.n 2, .n 3, .n 2, .n 1, .r (.v (.int .i64 0))]⟩] [1, 2])
  (.seq (.reg (some [[], [0], [0, 1], [], [], [4], [0, 1, 2, 3, 4, 5], [], [7], [0, 1, 2, 3, 4, 5, 6, 7, 8], [], [0, 1, 2, 3, 4, 5, 6, 7, 8, 9, 10]]) [⟨(some 8), none, .fa 0 (.t 1)⟩,
     ⟨(some 9), none, .ld false 1 (.t 8)⟩,
     ⟨(some 10), none, .call 109 true [(.t 9)]⟩,
     ⟨(some 11), none, .bsl 1 []⟩,
     ⟨(some 12), none, .fa 3 (.t 1)⟩,
     ⟨(some 13), none, .ld false 1 (.t 12)⟩,
     ⟨(some 14), none, .app 1 8 false (.t 11) (.t 13)⟩,
     ⟨(some 15), none, .fa 4 (.t 1)⟩,
     ⟨(some 16), none, .ld false 1 (.t 15)⟩,
     ⟨(some 17), none, .bld [.n 2, .n 3, .n 2, .n 1, .r (.v (.int .i64 0))] [(0, 1, (.t 10)), (3, 1, (.t 14)), (4, 1, (.t 16))]⟩,
     ⟨(some 3), none, .alloc [.n 2, .n 3, .n 2, .n 1, .r (.v (.int .i64 0))]⟩,
     ⟨none, none, .st 5 (.t 3) (.t 17)⟩] [1, 2, 3])
  (.seq (.seq (.reg none [⟨(some 18), none, .fa 1 (.t 1)⟩,
      ⟨(some 19), none, .ld false 1 (.t 18)⟩,
      ⟨(some 20), none, .len false (.t 19)⟩,
      ⟨(some 21), none, .mv (.k (V.i 0))⟩] [1, 2, 3, 19, 20, 21])
   (.bl 0 (.seq (.reg none [⟨(some 22), none, .bin .lss .i (.t 21) (.t 20)⟩] [1, 2, 3, 19, 20, 21, 22])
    (.seq (.cond (.t 22)
      (.skip)
      (.exit 0))
    (.seq (.block 1 (.seq (.reg none [⟨(some 23), none, .ia 3 (.t 19) (.t 21)⟩,
         ⟨(some 24), none, .ld true 3 (.t 23)⟩,
         ⟨(some 5), none, .alloc [.r (.v (.int .i64 0)), .r (.v (.int .i64 0)), .n 2]⟩,
         ⟨none, none, .st 3 (.t 5) (.t 24)⟩] [1, 2, 3, 5, 19, 20, 21])
      (.reg (some [[], [0], [], [2], [], [4], [], [6], [6, 7], [2, 3, 4, 5, 6, 7, 8], [2, 3, 4, 5, 6, 7, 8, 9], [0, 1, 2, 3, 4, 5, 6, 7, 8, 9, 10], [0, 1, 2, 3, 4, 5, 6, 7, 8, 9, 10, 11], [0, 1, 2, 3, 4, 5, 6, 7, 8, 9, 10, 11, 12]]) [⟨(some 25), none, .fa 1 (.t 3)⟩,
        ⟨(some 26), none, .ld false 1 (.t 25)⟩,
        ⟨(some 27), none, .fa 0 (.t 5)⟩,
        ⟨(some 28), none, .ld false 1 (.t 27)⟩,
        ⟨(some 29), none, .fa 1 (.t 5)⟩,
        ⟨(some 30), none, .ld false 1 (.t 29)⟩,
        ⟨(some 31), none, .fa 2 (.t 5)⟩,
        ⟨(some 32), none, .ld false 1 (.t 31)⟩,
        ⟨(some 33), none, .call 109 true [(.t 32)]⟩,
        ⟨(some 34), none, .bld [.r (.v (.int .i64 0)), .r (.v (.int .i64 0)), .n 2] [(0, 1, (.t 28)), (1, 1, (.t 30)), (2, 1, (.t 33))]⟩,
        ⟨(some 35), none, .bsl 3 [(.t 34)]⟩,
        ⟨(some 36), none, .app 3 40 true (.t 26) (.t 35)⟩,
        ⟨(some 37), none, .fa 1 (.t 3)⟩,
        ⟨none, none, .st 1 (.t 37) (.t 36)⟩] [1, 2, 3, 19, 20, 21])))
    (.reg none [⟨(some 38), none, .bin .add .i (.t 21) (.k (V.i 1))⟩,
      ⟨(some 21), none, .mv (.t 38)⟩] [1, 2, 3, 19, 20, 21]))))))
  (.seq (.seq (.reg none [⟨(some 39), none, .fa 2 (.t 1)⟩,
      ⟨(some 40), none, .ld false 1 (.t 39)⟩,
      ⟨(some 41), none, .len false (.t 40)⟩,
      ⟨(some 42), none, .mv (.k (V.i 0))⟩] [2, 3, 40, 41, 42])
   (.bl 2 (.seq (.reg none [⟨(some 43), none, .bin .lss .i (.t 42) (.t 41)⟩] [2, 3, 40, 41, 42, 43])
    (.seq (.cond (.t 43)
      (.skip)
      (.exit 2))
    (.seq (.block 3 (.seq (.reg none [⟨(some 44), none, .ia 2 (.t 40) (.t 42)⟩,
         ⟨(some 45), none, .ld true 2 (.t 44)⟩,
         ⟨(some 7), none, .alloc [.r (.v (.int .i64 0)), .n 2]⟩,
         ⟨none, none, .st 2 (.t 7) (.t 45)⟩] [2, 3, 7, 40, 41, 42])
      (.reg (some [[], [0], [], [2], [], [4], [4, 5], [2, 3, 4, 5, 6], [2, 3, 4, 5, 6, 7], [0, 1, 2, 3, 4, 5, 6, 7, 8], [0, 1, 2, 3, 4, 5, 6, 7, 8, 9], [0, 1, 2, 3, 4, 5, 6, 7, 8, 9, 10]]) [⟨(some 46), none, .fa 2 (.t 3)⟩,
        ⟨(some 47), none, .ld false 1 (.t 46)⟩,
        ⟨(some 48), none, .fa 0 (.t 7)⟩,
        ⟨(some 49), none, .ld false 1 (.t 48)⟩,
        ⟨(some 50), none, .fa 1 (.t 7)⟩,
        ⟨(some 51), none, .ld false 1 (.t 50)⟩,
        ⟨(some 52), none, .call 109 true [(.t 51)]⟩,
        ⟨(some 53), none, .bld [.r (.v (.int .i64 0)), .n 2] [(0, 1, (.t 49)), (1, 1, (.t 52))]⟩,
        ⟨(some 54), none, .bsl 2 [(.t 53)]⟩,
        ⟨(some 55), none, .app 2 32 true (.t 47) (.t 54)⟩,
        ⟨(some 56), none, .fa 2 (.t 3)⟩,
        ⟨none, none, .st 1 (.t 56) (.t 55)⟩] [2, 3, 40, 41, 42])))
    (.reg none [⟨(some 57), none, .bin .add .i (.t 42) (.k (V.i 1))⟩,
      ⟨(some 42), none, .mv (.t 57)⟩] [2, 3, 40, 41, 42]))))))
  (.seq (.reg none [⟨(some 58), none, .ld true 5 (.t 3)⟩,
     ⟨none, none, .st 5 (.t 2) (.t 58)⟩] [2])
  (.ret)))))
def rv94 : List RV := [.c 2 true 5]
open Go.Proofs Go.IntWalk
set_option linter.unusedVariables false
set_option maxRecDepth 100000
set_option maxHeartbeats 4000000
def I_copyCentre_l2 (g : G) (t : TE) : List Inlet → List Inlet → Option (List Inlet)
  | [], w2 =>
    some w2
  | z2 :: ls2, w2 =>
    cl (I_copyItems g t z2.Wait) fun x3 =>
    lP ([(Inlet.mk z2.Cell x3)]) fun (l5 : List Inlet) =>
    gd (((w2.length + l5.length) * 32 ≤ 70368744177664)) <|
    lP (w2 ++ l5) fun (l6 : List Inlet) =>
    I_copyCentre_l2 g t ls2 l6
def I_copyCentre_l1 (g : G) (t : TE) : List Chute → List Chute → Option (List Chute)
  | [], w1 =>
    some w1
  | z1 :: ls1, w1 =>
    cl (I_copyItems g t z1.Held) fun x2 =>
    lP ([(Chute.mk z1.Cell z1.Room x2)]) fun (l3 : List Chute) =>
    gd (((w1.length + l3.length) * 40 ≤ 70368744177664)) <|
    lP (w1 ++ l3) fun (l4 : List Chute) =>
    I_copyCentre_l1 g t ls1 l4
def I_copyCentre (g : G) (t : TE) (a0 : Centre) : Option Centre :=
  cl (I_copyItems g t a0.Belt) fun x1 =>
  lP ([]) fun (l1 : List Int) =>
  gd (((l1.length + a0.Plan.length) * 8 ≤ 70368744177664)) <|
  lP (l1 ++ a0.Plan) fun (l2 : List Int) =>
  cl (I_copyCentre_l1 g t a0.Chutes []) fun y1 =>
  cl (I_copyCentre_l2 g t a0.Inlets []) fun y2 =>
  some (Centre.mk x1 y1 y2 l2 a0.Now)
theorem fit94 : codeFit Try.prog Try.f94.ntmps (Try.f94.body.getD .skip) ir94 = true := by kernel_rfl
theorem c_I_copyCentre {g : G} {t : TE} {a0 : Centre} {r : Centre} (hg : g = G.real) (ht : t = TE.real) (h : I_copyCentre g t a0 = some r) : Fn Try.prog 94 [.g (Centre.rs t a0)] (.g (Centre.ds t r)) := by
  obtain ⟨X, hX⟩ := hide (.g (Centre.ds t r) : X)
  rw [← hX]
  refine fn_of (rvs := rv94) (j := ir94) Try.func94 rfl fit94 (Nat.le_of_ble_eq_true rfl) (by kernel_rfl) prog_mixed ?_
  intro g2 F hg2 hF
  obtain rfl : g2 = g := hg2.unique.trans hg.symm
  clear hg2
  obtain ⟨wrap, lt, le, eq, quo, rem, band, bor, bxor, shl, shr, nat, int, add, sub, mul, cat, seq, slt, sub3, byte, llen, nadd, nsub, dlen, dapp, dset, drep, rd, rda, up, rsub, dsub, all, sle, slen, hasI, putI, hasS, putS, imin, imax, fzc⟩ := g2
  obtain ⟨r_Item, d_Item, r_Chute, d_Chute, r_Inlet, d_Inlet, r_I64, d_I64, r_U8, d_U8, d_InletF⟩ := t
  obtain ⟨a0_Belt, a0_Chutes, a0_Inlets, a0_Plan, a0_Now⟩ := a0
  have hnil_Item : d_Item [] = [] := d_nil_Item ht
  have hnil_Chute : d_Chute [] = [] := d_nil_Chute ht
  have hnil_Inlet : d_Inlet [] = [] := d_nil_Inlet ht
  have hnil_I64 : d_I64 [] = [] := d_nil_I64 ht
  have hnil_U8 : d_U8 [] = [] := d_nil_U8 ht
  unfold I_copyCentre at h
  try dsimp only at h
  cbv
  obtain ⟨x1, hx1, h⟩ := of_cl h
  try dsimp only at h
  refine ACall.mk _ _ rfl (hF _ _ _ (c_I_copyItems hg ht hx1)) (.inl rfl) (Nat.le_of_ble_eq_true rfl) ?_
  cbv
  obtain ⟨l1, hl1, h⟩ := of_lP h
  try dsimp only at h
  refine ANew.mk (d_I64 l1) (dlen (d_I64 l1)) (by rw [← hl1]; exact lit_I64 hg ht []) (by rw [← hl1]; exact litn_I64 hg ht []) ?_
  cbv
  obtain ⟨hc3, h⟩ := of_gd h
  refine AStep.mk (app_ok_I64 hg ht (dlen_I64 hg ht _) (up_I64 hg ht _) hc3) ?_
  cbv
  obtain ⟨l2, hl2, h⟩ := of_lP h
  try dsimp only at h
  refine ANew.mk (d_I64 l2) (dlen (d_I64 l2)) (by rw [← hl2]; exact app_I64 hg ht (dlen_I64 hg ht _) (up_I64 hg ht _)) (by rw [← hl2]; exact appl_I64 hg ht (dlen_I64 hg ht _) (up_I64 hg ht _)) ?_
  cbv
  obtain ⟨o1, ho1, h⟩ := of_cl h
  try dsimp only at h
  try rw [hg] at ho1
  try rw [ht] at ho1
  refine ABL.mk { p : Nat × Int × List Chute // p.1 ≤ a0_Chutes.length ∧ p.2.1 = ((p.1 : Nat) : Int) ∧ I_copyCentre_l1 G.real TE.real (List.drop p.1 a0_Chutes) p.2.2 = some o1 } (fun ⟨⟨k1, v1, w1⟩, _⟩ => ({ sl := [(1, .c (.p 0 5 0 0)), (2, .c (.p 1 5 0 0)), (3, .c (.p 2 5 0 0)), (19, .c (.r (.s 3 (r_Chute a0_Chutes)))), (20, .c (.r (.v (.int .i64 (llen (r_Chute a0_Chutes)))))), (21, .c (.r (.v (.int .i64 v1))))], tab := [(0, some (.foc 5 [] [.r (.s 2 (r_Item a0_Belt)), .r (.s 3 (r_Chute a0_Chutes)), .r (.s 2 (r_Inlet a0_Inlets)), .r (.s 1 (r_I64 a0_Plan)), .r (.v (.int .i64 a0_Now))] [])), (1, some (.foc 5 [] [.n 2, .n 3, .n 2, .n 1, .r (.v (.int .i64 0))] [])), (2, some (.foc 5 [] [.f 3 2 0 (dlen (d_Item x1)), .f 4 3 0 (dlen (d_Chute w1)), .n 2, .f 5 1 0 (dlen (d_I64 l2)), .r (.v (.int .i64 a0_Now))] [])), (3, some (.arr 2 (d_Item x1))), (4, some (.arr 3 (d_Chute w1))), (5, some (.arr 1 (d_I64 l2)))] } : St)) 6 (fun p => a0_Chutes.length - p.1.1) ⟨(0, 0, []), Nat.zero_le _, rfl, ho1⟩ (List Chute) (fun y1 => ({ sl := [(1, .c (.p 0 5 0 0)), (2, .c (.p 1 5 0 0)), (3, .c (.p 2 5 0 0))], tab := [(0, some (.foc 5 [] [.r (.s 2 (r_Item a0_Belt)), .r (.s 3 (r_Chute a0_Chutes)), .r (.s 2 (r_Inlet a0_Inlets)), .r (.s 1 (r_I64 a0_Plan)), .r (.v (.int .i64 a0_Now))] [])), (1, some (.foc 5 [] [.n 2, .n 3, .n 2, .n 1, .r (.v (.int .i64 0))] [])), (2, some (.foc 5 [] [.f 3 2 0 (dlen (d_Item x1)), .f 4 3 0 (dlen (d_Chute y1)), .n 2, .f 5 1 0 (dlen (d_I64 l2)), .r (.v (.int .i64 a0_Now))] [])), (3, some (.arr 2 (d_Item x1))), (4, some (.arr 3 (d_Chute y1))), (5, some (.arr 1 (d_I64 l2)))] } : St)) 6 (fun y => o1 = y) ?_ ?_ ?_
  · refine Wk.of [(0, some 0), (1, some 16), (2, some 192), (3, some 64), (4, none), (5, some 128)] rfl rfl ?_ ?_
    · cbv
      all_goals try rw [show dlen (d_Chute []) = 0 from dlen_nil_Chute hg ht]
      all_goals try rw [hnil_Chute]
      all_goals exact ⟨⟨_, rfl, rfl⟩, ⟨_, rfl, rfl⟩, ⟨_, rfl, rfl⟩, ⟨_, rfl, rfl⟩, ⟨_, rfl, rfl⟩, ⟨_, rfl, rfl⟩, trivial⟩
    · cbv
      all_goals try rw [show dlen (d_Chute []) = 0 from dlen_nil_Chute hg ht]
      all_goals try rw [hnil_Chute]
      all_goals exact ⟨⟨_, rfl, _, rfl, rfl, rfl, rfl, rfl, rfl, trivial⟩, ⟨_, rfl, _, rfl, rfl, rfl, rfl, rfl, rfl, trivial⟩, ⟨_, rfl, _, rfl, rfl, ⟨⟨_, rfl⟩, rfl, rfl⟩, rfl, rfl, rfl, trivial⟩, ⟨_, rfl, rfl⟩, ⟨_, rfl⟩, ⟨_, rfl, rfl⟩, trivial⟩
  · rintro ⟨⟨k1, v1, w1⟩, hk1, hi1, h_1⟩ hq1
    have hm1 := (hq1.1 19 _ _ rfl)
    try dsimp only at hk1 hi1 h_1
    clear hq1
    cbv
    by_cases hc1_ : k1 < a0_Chutes.length
    · have hb1 : lt v1 (llen (r_Chute a0_Chutes)) = true := ltL_true_Chute hg ht hi1 hc1_
      have hs1 := stepL_Chute hg ht hi1 hc1_ hm1
      obtain ⟨z1, hz1⟩ := some_of_lt hc1_
      rw [drop_of_some hz1] at h_1
      rw [I_copyCentre_l1] at h_1
      obtain ⟨z1_Cell, z1_Room, z1_Held⟩ := z1
      try rw [← hg] at h_1
      try rw [← ht] at h_1
      try dsimp only at h_1
      rw [hb1]
      cbv
      refine AStep.mk (nn_L hi1) ?_
      cbv
      refine AGet.mk _ (r_getL_Chute hg ht hi1 hz1) ?_
      cbv
      obtain ⟨x2, hx2, h_1⟩ := of_cl h_1
      try dsimp only at h_1
      refine ACall.mk _ _ rfl (hF _ _ _ (c_I_copyItems hg ht hx2)) (.inl rfl) (Nat.le_of_ble_eq_true rfl) ?_
      cbv
      refine AStep.mk ⟨rfl, (dlen_Item hg ht _)⟩ ?_
      cbv
      obtain ⟨l3, hl3, h_1⟩ := of_lP h_1
      try dsimp only at h_1
      refine ANew.mk (d_Chute l3) (dlen (d_Chute l3)) (by rw [← hl3]; have e := lit_Chute hg ht [(Chute.mk z1_Cell z1_Room x2)]; dsimp only [List.map, Chute.ds] at e; (try simp only [hnil_Item, hnil_Chute, hnil_Inlet, hnil_I64, hnil_U8] at e); exact e) (by rw [← hl3]; exact litn_Chute hg ht [(Chute.mk z1_Cell z1_Room x2)]) ?_
      cbv
      obtain ⟨hc1, h_1⟩ := of_gd h_1
      refine AStep.mk ⟨⟨rfl, (dlen_Chute hg ht _)⟩, (app_ok_Chute hg ht (dlen_Chute hg ht _) rfl hc1)⟩ ?_
      cbv
      obtain ⟨l4, hl4, h_1⟩ := of_lP h_1
      try dsimp only at h_1
      refine ANew.mk (d_Chute l4) (dlen (d_Chute l4)) (by rw [← hl4]; exact app_Chute hg ht (dlen_Chute hg ht _) rfl) (by rw [← hl4]; exact appl_Chute hg ht (dlen_Chute hg ht _) rfl) ?_
      cbv
      try rw [hg] at h_1
      try rw [ht] at h_1
      refine ⟨⟨(k1 + 1, (wrap .i64 (add v1 1)), l4), hc1_, hs1, h_1⟩, Wk.of [(0, some 0), (1, some 1), (2, some 2), (3, some 3), (4, some 262), (5, some 5)] rfl rfl ?_ ?_, meas_L hc1_⟩
      · cbv
        all_goals exact ⟨⟨_, rfl, rfl⟩, ⟨_, rfl, rfl⟩, ⟨_, rfl, rfl⟩, ⟨_, rfl, rfl⟩, ⟨_, rfl, rfl⟩, ⟨_, rfl, rfl⟩, trivial⟩
      · cbv
        all_goals exact ⟨⟨_, rfl, _, rfl, rfl, rfl, rfl, rfl, rfl, trivial⟩, ⟨_, rfl, _, rfl, rfl, rfl, rfl, rfl, rfl, trivial⟩, ⟨_, rfl, _, rfl, rfl, rfl, rfl, rfl, rfl, trivial⟩, ⟨_, rfl, rfl⟩, ⟨_, rfl, rfl⟩, ⟨_, rfl, rfl⟩, trivial⟩
    · have hb1 : lt v1 (llen (r_Chute a0_Chutes)) = false := ltL_false_Chute hg ht hi1 hc1_
      rw [List.drop_of_length_le (Nat.le_of_not_lt hc1_)] at h_1
      rw [I_copyCentre_l1] at h_1
      try rw [← hg] at h_1
      try rw [← ht] at h_1
      try dsimp only at h_1
      rw [hb1]
      cbv
      refine ⟨w1, Wk.of [(0, some 0), (1, some 1), (2, some 2), (3, some 3), (4, some 4), (5, some 5)] rfl rfl ?_ ?_, (Option.some.inj h_1).symm⟩
      · cbv
        all_goals exact ⟨⟨_, rfl, rfl⟩, ⟨_, rfl, rfl⟩, ⟨_, rfl, rfl⟩, trivial⟩
      · cbv
        all_goals exact ⟨⟨_, rfl, _, rfl, rfl, rfl, rfl, rfl, rfl, trivial⟩, ⟨_, rfl, _, rfl, rfl, rfl, rfl, rfl, rfl, trivial⟩, ⟨_, rfl, _, rfl, rfl, rfl, rfl, rfl, rfl, trivial⟩, ⟨_, rfl, rfl⟩, ⟨_, rfl, rfl⟩, ⟨_, rfl, rfl⟩, trivial⟩
  · rintro y1 hy1
    replace hy1 := hy1.symm
    subst hy1
    try dsimp only [lr, lrL, lrp, lrpL] at h
    cbv
    obtain ⟨o2, ho2, h⟩ := of_cl h
    try dsimp only at h
    try rw [hg] at ho2
    try rw [ht] at ho2
    refine ABL.mk { p : Nat × Int × List Inlet // p.1 ≤ a0_Inlets.length ∧ p.2.1 = ((p.1 : Nat) : Int) ∧ I_copyCentre_l2 G.real TE.real (List.drop p.1 a0_Inlets) p.2.2 = some o2 } (fun ⟨⟨k2, v2, w2⟩, _⟩ => ({ sl := [(2, .c (.p 0 5 0 0)), (3, .c (.p 1 5 0 0)), (40, .c (.r (.s 2 (r_Inlet a0_Inlets)))), (41, .c (.r (.v (.int .i64 (llen (r_Inlet a0_Inlets)))))), (42, .c (.r (.v (.int .i64 v2))))], tab := [(0, some (.foc 5 [] [.n 2, .n 3, .n 2, .n 1, .r (.v (.int .i64 0))] [])), (1, some (.foc 5 [] [.f 2 2 0 (dlen (d_Item x1)), .f 3 3 0 (dlen (d_Chute y1)), .f 4 2 0 (dlen (d_Inlet w2)), .f 5 1 0 (dlen (d_I64 l2)), .r (.v (.int .i64 a0_Now))] [])), (2, some (.arr 2 (d_Item x1))), (3, some (.arr 3 (d_Chute y1))), (4, some (.arr 2 (d_Inlet w2))), (5, some (.arr 1 (d_I64 l2)))] } : St)) 6 (fun p => a0_Inlets.length - p.1.1) ⟨(0, 0, []), Nat.zero_le _, rfl, ho2⟩ (List Inlet) (fun y2 => ({ sl := [(2, .c (.p 0 5 0 0)), (3, .c (.p 1 5 0 0))], tab := [(0, some (.foc 5 [] [.n 2, .n 3, .n 2, .n 1, .r (.v (.int .i64 0))] [])), (1, some (.foc 5 [] [.f 2 2 0 (dlen (d_Item x1)), .f 3 3 0 (dlen (d_Chute y1)), .f 4 2 0 (dlen (d_Inlet y2)), .f 5 1 0 (dlen (d_I64 l2)), .r (.v (.int .i64 a0_Now))] [])), (2, some (.arr 2 (d_Item x1))), (3, some (.arr 3 (d_Chute y1))), (4, some (.arr 2 (d_Inlet y2))), (5, some (.arr 1 (d_I64 l2)))] } : St)) 6 (fun y => o2 = y) ?_ ?_ ?_
    · refine Wk.of [(0, some 1), (1, some 2), (2, some 3), (3, some 4), (4, none), (5, some 5)] rfl rfl ?_ ?_
      · cbv
        all_goals try rw [show dlen (d_Inlet []) = 0 from dlen_nil_Inlet hg ht]
        all_goals try rw [hnil_Inlet]
        all_goals exact ⟨⟨_, rfl, rfl⟩, ⟨_, rfl, rfl⟩, ⟨_, rfl, rfl⟩, ⟨_, rfl, rfl⟩, ⟨_, rfl, rfl⟩, trivial⟩
      · cbv
        all_goals try rw [show dlen (d_Inlet []) = 0 from dlen_nil_Inlet hg ht]
        all_goals try rw [hnil_Inlet]
        all_goals exact ⟨⟨_, rfl, _, rfl, rfl, rfl, rfl, rfl, rfl, trivial⟩, ⟨_, rfl, _, rfl, rfl, rfl, ⟨⟨_, rfl⟩, rfl, rfl⟩, rfl, rfl, trivial⟩, ⟨_, rfl, rfl⟩, ⟨_, rfl, rfl⟩, ⟨_, rfl⟩, ⟨_, rfl, rfl⟩, trivial⟩
    · rintro ⟨⟨k2, v2, w2⟩, hk2, hi2, h_2⟩ hq2
      have hm2 := (hq2.1 40 _ _ rfl)
      try dsimp only at hk2 hi2 h_2
      clear hq2
      cbv
      by_cases hc2_ : k2 < a0_Inlets.length
      · have hb2 : lt v2 (llen (r_Inlet a0_Inlets)) = true := ltL_true_Inlet hg ht hi2 hc2_
        have hs2 := stepL_Inlet hg ht hi2 hc2_ hm2
        obtain ⟨z2, hz2⟩ := some_of_lt hc2_
        rw [drop_of_some hz2] at h_2
        rw [I_copyCentre_l2] at h_2
        obtain ⟨z2_Cell, z2_Wait⟩ := z2
        try rw [← hg] at h_2
        try rw [← ht] at h_2
        try dsimp only at h_2
        rw [hb2]
        cbv
        refine AStep.mk (nn_L hi2) ?_
        cbv
        refine AGet.mk _ (r_getL_Inlet hg ht hi2 hz2) ?_
        cbv
        obtain ⟨x3, hx3, h_2⟩ := of_cl h_2
        try dsimp only at h_2
        refine ACall.mk _ _ rfl (hF _ _ _ (c_I_copyItems hg ht hx3)) (.inl rfl) (Nat.le_of_ble_eq_true rfl) ?_
        cbv
        refine AStep.mk ⟨rfl, (dlen_Item hg ht _)⟩ ?_
        cbv
        obtain ⟨l5, hl5, h_2⟩ := of_lP h_2
        try dsimp only at h_2
        refine ANew.mk (d_Inlet l5) (dlen (d_Inlet l5)) (by rw [← hl5]; have e := lit_Inlet hg ht [(Inlet.mk z2_Cell x3)]; dsimp only [List.map, Inlet.ds] at e; (try simp only [hnil_Item, hnil_Chute, hnil_Inlet, hnil_I64, hnil_U8] at e); exact e) (by rw [← hl5]; exact litn_Inlet hg ht [(Inlet.mk z2_Cell x3)]) ?_
        cbv
        obtain ⟨hc2, h_2⟩ := of_gd h_2
        refine AStep.mk ⟨⟨rfl, (dlen_Inlet hg ht _)⟩, (app_ok_Inlet hg ht (dlen_Inlet hg ht _) rfl hc2)⟩ ?_
        cbv
        obtain ⟨l6, hl6, h_2⟩ := of_lP h_2
        try dsimp only at h_2
        refine ANew.mk (d_Inlet l6) (dlen (d_Inlet l6)) (by rw [← hl6]; exact app_Inlet hg ht (dlen_Inlet hg ht _) rfl) (by rw [← hl6]; exact appl_Inlet hg ht (dlen_Inlet hg ht _) rfl) ?_
        cbv
        try rw [hg] at h_2
        try rw [ht] at h_2
        refine ⟨⟨(k2 + 1, (wrap .i64 (add v2 1)), l6), hc2_, hs2, h_2⟩, Wk.of [(0, some 0), (1, some 1), (2, some 2), (3, some 3), (4, some 230), (5, some 5)] rfl rfl ?_ ?_, meas_L hc2_⟩
        · cbv
          all_goals exact ⟨⟨_, rfl, rfl⟩, ⟨_, rfl, rfl⟩, ⟨_, rfl, rfl⟩, ⟨_, rfl, rfl⟩, ⟨_, rfl, rfl⟩, trivial⟩
        · cbv
          all_goals exact ⟨⟨_, rfl, _, rfl, rfl, rfl, rfl, rfl, rfl, trivial⟩, ⟨_, rfl, _, rfl, rfl, rfl, rfl, rfl, rfl, trivial⟩, ⟨_, rfl, rfl⟩, ⟨_, rfl, rfl⟩, ⟨_, rfl, rfl⟩, ⟨_, rfl, rfl⟩, trivial⟩
      · have hb2 : lt v2 (llen (r_Inlet a0_Inlets)) = false := ltL_false_Inlet hg ht hi2 hc2_
        rw [List.drop_of_length_le (Nat.le_of_not_lt hc2_)] at h_2
        rw [I_copyCentre_l2] at h_2
        try rw [← hg] at h_2
        try rw [← ht] at h_2
        try dsimp only at h_2
        rw [hb2]
        cbv
        refine ⟨w2, Wk.of [(0, some 0), (1, some 1), (2, some 2), (3, some 3), (4, some 4), (5, some 5)] rfl rfl ?_ ?_, (Option.some.inj h_2).symm⟩
        · cbv
          all_goals exact ⟨⟨_, rfl, rfl⟩, ⟨_, rfl, rfl⟩, trivial⟩
        · cbv
          all_goals exact ⟨⟨_, rfl, _, rfl, rfl, rfl, rfl, rfl, rfl, trivial⟩, ⟨_, rfl, _, rfl, rfl, rfl, rfl, rfl, rfl, trivial⟩, ⟨_, rfl, rfl⟩, ⟨_, rfl, rfl⟩, ⟨_, rfl, rfl⟩, ⟨_, rfl, rfl⟩, trivial⟩
    · rintro y2 hy2
      replace hy2 := hy2.symm
      subst hy2
      try dsimp only [lr, lrL, lrp, lrpL] at h
      cbv
      obtain rfl := Option.some.inj h
      exact ARet.mk ⟨⟨rfl, (dlen_Item hg ht _)⟩, ⟨⟨rfl, (dlen_Chute hg ht _)⟩, ⟨⟨rfl, (dlen_Inlet hg ht _)⟩, ⟨rfl, (dlen_I64 hg ht _)⟩⟩⟩⟩ hX.symm
end Go.Vs
namespace Go.Vs
set_option maxRecDepth 100000
def ir95 : J :=
  .seq (.reg none [⟨(some 9), none, .mv (.t 0)⟩,
     ⟨(some 10), none, .nilc (.t 9)⟩,
     ⟨(some 11), none, .fa 0 (.t 10)⟩,
     ⟨(some 12), none, .ld false 1 (.t 11)⟩,
     ⟨(some 13), none, .len false (.t 12)⟩,
     ⟨(some 2), none, .mv (.t 13)⟩] [0, 2])
  (.seq (.reg (some [[], [0], [0, 1], [0, 1, 2], [], [4], [0, 1, 2, 3, 4, 5], [0, 1, 2, 3, 4, 5, 6], [0, 1, 2, 3, 4, 5, 6, 7], [], [9], [9, 10], [9, 10, 11], [], [13], [9, 10, 11, 12, 13, 14], [0, 1, 2, 3, 4, 5, 6, 7, 8, 9, 10, 11, 12, 13, 14, 15], [0, 1, 2, 3, 4, 5, 6, 7, 8, 9, 10, 11, 12, 13, 14, 15, 16]]) [⟨(some 14), none, .mv (.t 0)⟩,
     ⟨(some 15), none, .nilc (.t 14)⟩,
     ⟨(some 16), none, .fa 0 (.t 15)⟩,
     ⟨(some 17), none, .ld false 1 (.t 16)⟩,
     ⟨(some 18), none, .mv (.t 2)⟩,
     ⟨(some 19), none, .bin .sub .i (.t 18) (.k (V.i 1))⟩,
     ⟨(some 20), none, .ia 2 (.t 17) (.t 19)⟩,
     ⟨(some 21), none, .ld true 2 (.t 20)⟩,
     ⟨(some 22), none, .bsl 2 [(.t 21)]⟩,
     ⟨(some 23), none, .mv (.t 0)⟩,
     ⟨(some 24), none, .nilc (.t 23)⟩,
     ⟨(some 25), none, .fa 0 (.t 24)⟩,
     ⟨(some 26), none, .ld false 1 (.t 25)⟩,
     ⟨(some 27), none, .mv (.t 2)⟩,
     ⟨(some 28), none, .bin .sub .i (.t 27) (.k (V.i 1))⟩,
     ⟨(some 29), none, .sl 2 (.t 26) none (some (.t 28))⟩,
     ⟨(some 30), none, .app 2 16 false (.t 22) (.t 29)⟩,
     ⟨(some 3), none, .mv (.t 30)⟩] [0, 3])
  (.seq (.seq (.reg none [⟨(some 31), none, .mv (.t 0)⟩,
      ⟨(some 32), none, .nilc (.t 31)⟩,
      ⟨(some 33), none, .fa 1 (.t 32)⟩,
      ⟨(some 34), none, .ld false 1 (.t 33)⟩,
      ⟨(some 35), none, .len false (.t 34)⟩,
      ⟨(some 36), none, .mv (.k (V.i 0))⟩] [0, 3, 35, 36])
   (.bl 0 (.seq (.reg none [⟨(some 37), none, .bin .lss .i (.t 36) (.t 35)⟩] [0, 3, 35, 36, 37])
    (.seq (.cond (.t 37)
      (.skip)
      (.exit 0))
    (.seq (.block 1 (.seq (.reg none [⟨(some 38), none, .mv (.t 36)⟩,
         ⟨(some 4), none, .mv (.t 38)⟩] [0, 3, 4, 35, 36])
      (.seq (.reg none [⟨(some 39), none, .mv (.t 0)⟩,
         ⟨(some 40), none, .nilc (.t 39)⟩,
         ⟨(some 41), none, .fa 1 (.t 40)⟩,
         ⟨(some 42), none, .ld false 1 (.t 41)⟩,
         ⟨(some 43), none, .mv (.t 4)⟩,
         ⟨(some 44), none, .ia 3 (.t 42) (.t 43)⟩,
         ⟨(some 5), none, .mv (.t 44)⟩] [0, 3, 4, 5, 35, 36])
      (.seq (.reg none [⟨(some 45), none, .mv (.t 3)⟩,
         ⟨(some 46), none, .mv (.t 5)⟩,
         ⟨(some 47), none, .nilc (.t 46)⟩,
         ⟨(some 48), none, .fa 0 (.t 47)⟩,
         ⟨(some 49), none, .ld false 1 (.t 48)⟩,
         ⟨(some 50), none, .ia 2 (.t 45) (.t 49)⟩,
         ⟨(some 51), none, .ld true 2 (.t 50)⟩,
         ⟨(some 6), none, .alloc [.r (.v (.int .i64 0)), .r (.v (.int .i64 0))]⟩,
         ⟨none, none, .st 2 (.t 6) (.t 51)⟩] [0, 3, 4, 5, 6, 35, 36])
      (.seq (.gh (.ga (.reg (some [[], [], [0, 1], [0, 1, 2], [0, 1, 2, 3], [0, 1, 2, 3, 4], [0, 1, 2, 3, 4, 5], [0, 1, 2, 3, 4, 5, 6], [0, 1, 2, 3], [0, 1, 2, 3, 8], [0, 1, 2, 3, 4, 5, 6, 7, 8, 9], [0, 1, 2, 3, 4, 5, 6, 7, 8, 9, 10], [0, 1, 2, 3], [0, 1, 2, 3, 4, 5, 6, 7, 8, 9, 10, 11, 12], [0, 1, 2, 3, 4, 5, 6, 7, 8, 9, 10, 11, 12, 13], [0, 1, 2, 3, 4, 5, 6, 7, 8, 9, 10, 11, 12, 13, 14], [0, 1, 2, 3, 4, 5, 6, 7, 8, 9, 10, 11, 12, 13, 14, 15], [0, 1, 2, 3, 4, 5, 6, 7, 8, 9, 10, 11, 12, 13, 14, 15, 16], [0, 1, 2, 3, 4, 5, 6, 7, 8, 9, 10, 11, 12, 13, 14, 15, 16, 17], [0, 1, 2, 3, 4, 5, 6, 7, 8, 9, 10, 11, 12, 13, 14, 15, 16, 17, 18], [0, 1, 2, 3, 4, 5, 6, 7, 8, 9, 10, 11, 12, 13, 14, 15, 16, 17, 18, 19], [0, 1, 2, 3, 4, 5, 6, 7, 8, 9, 10, 11, 12, 13, 14, 15], [0, 1, 2, 3, 4, 5, 6, 7, 8, 9, 10, 11, 12, 13, 14, 15, 21], [0, 1, 2, 3, 4, 5, 6, 7, 8, 9, 10, 11, 12, 13, 14, 15, 21, 22], [0, 1, 2, 3, 4, 5, 6, 7, 8, 9, 10, 11, 12, 13, 14, 15, 21, 22, 23], [0, 1, 2, 3, 4, 5, 6, 7, 8, 9, 10, 11, 12, 13, 14, 15, 16, 17, 18, 19, 20, 21, 22, 23, 24], [0, 1, 2, 3, 4, 5, 6, 7, 8, 9, 10, 11, 12, 13, 14, 15, 16, 17, 18, 19, 20, 21, 22, 23, 24, 25]]) [⟨(some 52), none, .ld true 2 (.t 6)⟩,
          ⟨(some 53), none, .bld [.r (.v (.int .i64 0)), .r (.v (.int .i64 0))] []⟩,
          ⟨(some 54), none, .eqs true [.i, .i] (.t 52) (.t 53)⟩,
          ⟨(some 55), none, .mv (.t 54)⟩,
          ⟨(some 56), (some (55, true)), .mv (.t 0)⟩,
          ⟨(some 57), (some (55, true)), .nilc (.t 56)⟩,
          ⟨(some 58), (some (55, true)), .fa 3 (.t 57)⟩,
          ⟨(some 59), (some (55, true)), .ld false 1 (.t 58)⟩,
          ⟨(some 60), (some (55, true)), .fa 1 (.t 6)⟩,
          ⟨(some 61), (some (55, true)), .ld false 1 (.t 60)⟩,
          ⟨(some 62), (some (55, true)), .ia 1 (.t 59) (.t 61)⟩,
          ⟨(some 63), (some (55, true)), .ld false 1 (.t 62)⟩,
          ⟨(some 64), (some (55, true)), .mv (.t 4)⟩,
          ⟨(some 65), (some (55, true)), .bin .eql .i (.t 63) (.t 64)⟩,
          ⟨(some 66), none, .pick (.t 55) (.t 65) (.k (V.b false))⟩,
          ⟨(some 67), none, .mv (.t 66)⟩,
          ⟨(some 68), (some (67, true)), .mv (.t 5)⟩,
          ⟨(some 69), (some (67, true)), .nilc (.t 68)⟩,
          ⟨(some 70), (some (67, true)), .fa 2 (.t 69)⟩,
          ⟨(some 71), (some (67, true)), .ld false 1 (.t 70)⟩,
          ⟨(some 72), (some (67, true)), .len false (.t 71)⟩,
          ⟨(some 73), (some (67, true)), .mv (.t 5)⟩,
          ⟨(some 74), (some (67, true)), .nilc (.t 73)⟩,
          ⟨(some 75), (some (67, true)), .fa 1 (.t 74)⟩,
          ⟨(some 76), (some (67, true)), .ld false 1 (.t 75)⟩,
          ⟨(some 77), (some (67, true)), .bin .lss .i (.t 72) (.t 76)⟩,
          ⟨(some 78), none, .pick (.t 67) (.t 77) (.k (V.b false))⟩] [0, 3, 5, 6, 35, 36, 78])))
      (.cond (.t 78)
       (.seq (.gh (.ga (.reg (some [[], [], [1], [1, 2], [1, 2, 3], [], [5], [1, 2, 3, 4, 5, 6], [0, 1, 2, 3, 4, 5, 6, 7], [0, 1, 2, 3, 4, 5, 6, 7, 8], [0, 1, 2, 3, 4, 5, 6, 7, 8, 9]]) [⟨(some 79), none, .mv (.t 5)⟩,
            ⟨(some 80), none, .mv (.t 5)⟩,
            ⟨(some 81), none, .nilc (.t 80)⟩,
            ⟨(some 82), none, .fa 2 (.t 81)⟩,
            ⟨(some 83), none, .ld false 1 (.t 82)⟩,
            ⟨(some 84), none, .ld true 2 (.t 6)⟩,
            ⟨(some 85), none, .bsl 2 [(.t 84)]⟩,
            ⟨(some 86), none, .app 2 16 true (.t 83) (.t 85)⟩,
            ⟨(some 87), none, .nilc (.t 79)⟩,
            ⟨(some 88), none, .fa 2 (.t 87)⟩,
            ⟨none, none, .st 1 (.t 88) (.t 86)⟩] [0, 3, 5, 35, 36])))
        (.reg none [⟨(some 89), none, .mv (.t 3)⟩,
          ⟨(some 90), none, .mv (.t 5)⟩,
          ⟨(some 91), none, .nilc (.t 90)⟩,
          ⟨(some 92), none, .fa 0 (.t 91)⟩,
          ⟨(some 93), none, .ld false 1 (.t 92)⟩,
          ⟨(some 94), none, .bld [.r (.v (.int .i64 0)), .r (.v (.int .i64 0))] []⟩,
          ⟨(some 95), none, .ia 2 (.t 89) (.t 93)⟩,
          ⟨none, none, .st 2 (.t 95) (.t 94)⟩] [0, 3, 35, 36]))
       (.skip)))))))
    (.reg none [⟨(some 96), none, .bin .add .i (.t 36) (.k (V.i 1))⟩,
      ⟨(some 36), none, .mv (.t 96)⟩] [0, 3, 35, 36]))))))
  (.seq (.seq (.reg none [⟨(some 97), none, .mv (.t 0)⟩,
      ⟨(some 98), none, .nilc (.t 97)⟩,
      ⟨(some 99), none, .fa 2 (.t 98)⟩,
      ⟨(some 100), none, .ld false 1 (.t 99)⟩,
      ⟨(some 101), none, .len false (.t 100)⟩,
      ⟨(some 102), none, .mv (.k (V.i 0))⟩] [0, 3, 101, 102])
   (.bl 2 (.seq (.reg none [⟨(some 103), none, .bin .lss .i (.t 102) (.t 101)⟩] [0, 3, 101, 102, 103])
    (.seq (.cond (.t 103)
      (.skip)
      (.exit 2))
    (.seq (.block 3 (.seq (.reg none [⟨(some 104), none, .mv (.t 102)⟩,
         ⟨(some 7), none, .mv (.t 104)⟩] [0, 3, 7, 101, 102])
      (.seq (.reg none [⟨(some 105), none, .mv (.t 0)⟩,
         ⟨(some 106), none, .nilc (.t 105)⟩,
         ⟨(some 107), none, .fa 2 (.t 106)⟩,
         ⟨(some 108), none, .ld false 1 (.t 107)⟩,
         ⟨(some 109), none, .mv (.t 7)⟩,
         ⟨(some 110), none, .ia 2 (.t 108) (.t 109)⟩,
         ⟨(some 8), none, .mv (.t 110)⟩] [0, 3, 8, 101, 102])
      (.seq (.gh (.ga (.reg none [⟨(some 111), none, .mv (.t 8)⟩,
          ⟨(some 112), none, .nilc (.t 111)⟩,
          ⟨(some 113), none, .fa 1 (.t 112)⟩,
          ⟨(some 114), none, .ld false 1 (.t 113)⟩,
          ⟨(some 115), none, .len false (.t 114)⟩,
          ⟨(some 116), none, .bin .gtr .i (.t 115) (.k (V.i 0))⟩,
          ⟨(some 117), none, .mv (.t 116)⟩,
          ⟨(some 118), (some (117, true)), .mv (.t 3)⟩,
          ⟨(some 119), (some (117, true)), .mv (.t 8)⟩,
          ⟨(some 120), (some (117, true)), .nilc (.t 119)⟩,
          ⟨(some 121), (some (117, true)), .fa 0 (.t 120)⟩,
          ⟨(some 122), (some (117, true)), .ld false 1 (.t 121)⟩,
          ⟨(some 123), (some (117, true)), .ia 2 (.t 118) (.t 122)⟩,
          ⟨(some 124), (some (117, true)), .ld true 2 (.t 123)⟩,
          ⟨(some 125), (some (117, true)), .bld [.r (.v (.int .i64 0)), .r (.v (.int .i64 0))] []⟩,
          ⟨(some 126), (some (117, true)), .eqs false [.i, .i] (.t 124) (.t 125)⟩,
          ⟨(some 127), none, .pick (.t 117) (.t 126) (.k (V.b false))⟩] [0, 3, 8, 101, 102, 127])))
      (.cond (.t 127)
       (.seq (.gh (.ga (.reg (some [[], [], [1], [1, 2], [1, 2, 3], [], [5], [5, 6], [5, 6, 7], [5, 6, 7, 8], [5, 6, 7, 8, 9], [0, 1, 2, 3, 4, 5, 6, 7, 8, 9, 10], [0, 1, 2, 3, 4, 5, 6, 7, 8, 9, 10, 11]]) [⟨(some 128), none, .mv (.t 3)⟩,
            ⟨(some 129), none, .mv (.t 8)⟩,
            ⟨(some 130), none, .nilc (.t 129)⟩,
            ⟨(some 131), none, .fa 0 (.t 130)⟩,
            ⟨(some 132), none, .ld false 1 (.t 131)⟩,
            ⟨(some 133), none, .mv (.t 8)⟩,
            ⟨(some 134), none, .nilc (.t 133)⟩,
            ⟨(some 135), none, .fa 1 (.t 134)⟩,
            ⟨(some 136), none, .ld false 1 (.t 135)⟩,
            ⟨(some 137), none, .ia 2 (.t 136) (.k (V.i 0))⟩,
            ⟨(some 138), none, .ld true 2 (.t 137)⟩,
            ⟨(some 139), none, .ia 2 (.t 128) (.t 132)⟩,
            ⟨none, none, .st 2 (.t 139) (.t 138)⟩] [0, 3, 8, 101, 102])))
        (.gh (.ga (.reg none [⟨(some 140), none, .mv (.t 8)⟩,
           ⟨(some 141), none, .mv (.t 8)⟩,
           ⟨(some 142), none, .nilc (.t 141)⟩,
           ⟨(some 143), none, .fa 1 (.t 142)⟩,
           ⟨(some 144), none, .ld false 1 (.t 143)⟩,
           ⟨(some 145), none, .sl 2 (.t 144) (some (.k (V.i 1))) none⟩,
           ⟨(some 146), none, .call 109 true [(.t 145)]⟩,
           ⟨(some 147), none, .nilc (.t 140)⟩,
           ⟨(some 148), none, .fa 1 (.t 147)⟩,
           ⟨none, none, .st 1 (.t 148) (.t 146)⟩] [0, 3, 101, 102]))))
       (.skip))))))
    (.reg none [⟨(some 149), none, .bin .add .i (.t 102) (.k (V.i 1))⟩,
      ⟨(some 102), none, .mv (.t 149)⟩] [0, 3, 101, 102]))))))
  (.seq (.reg none [⟨(some 150), none, .mv (.t 0)⟩,
     ⟨(some 151), none, .mv (.t 3)⟩,
     ⟨(some 152), none, .nilc (.t 150)⟩,
     ⟨(some 153), none, .fa 0 (.t 152)⟩,
     ⟨none, none, .st 1 (.t 153) (.t 151)⟩] [0])
  (.reg none [⟨(some 154), none, .mv (.t 0)⟩,
    ⟨(some 155), none, .nilc (.t 154)⟩,
    ⟨(some 156), none, .fa 4 (.t 155)⟩,
    ⟨(some 157), none, .ld false 1 (.t 156)⟩,
    ⟨(some 158), none, .bin .add .i (.t 157) (.k (V.i 1))⟩,
    ⟨(some 159), none, .nilc (.t 154)⟩,
    ⟨(some 160), none, .fa 4 (.t 159)⟩,
    ⟨none, none, .st 1 (.t 160) (.t 158)⟩] [])))))
def rv95 : List RV := []
open Go.Proofs Go.IntWalk
set_option linter.unusedVariables false
set_option maxRecDepth 100000
set_option maxHeartbeats 4000000
def I_tick_l2 (g : G) (t : TE) : Nat → Int → List Inlet → List Item → Option ((List Inlet) × List Item)
  | 0, v2, w3, w4 =>
    some (w3, w4)
  | n2 + 1, v2, w3, w4 =>
    gd (((0 : Int) ≤ v2 ∧ v2 < (((g.dlen (t.d_Inlet w3)) : Nat) : Int))) <|
    gt w3 (g.nat v2) fun x7 =>
    br (g.lt 0 (g.int (g.dlen (t.d_Item x7.Wait))))
    (
     gd (((0 : Int) ≤ x7.Cell ∧ x7.Cell < (((g.dlen (t.d_Item w4)) : Nat) : Int))) <|
     gt w4 (g.nat x7.Cell) fun x8 =>
     br (g.all [(g.eq x8.Id 0), (g.eq x8.Dest 0)])
     (
      gd (((0 : Int) ≤ 0 ∧ 0 < (((g.dlen (t.d_Item x7.Wait)) : Nat) : Int))) <|
      gt x7.Wait (g.nat 0) fun x9 =>
      gd (((0 : Int) ≤ x7.Cell ∧ x7.Cell < (((g.dlen (t.d_Item w4)) : Nat) : Int))) <|
      lP (List.set w4 (g.nat x7.Cell) (Item.mk x9.Id x9.Dest)) fun (l7 : List Item) =>
      gd (((0 : Int) ≤ 1 ∧ 1 ≤ (g.int (g.dlen (t.d_Item x7.Wait))) ∧ (g.int (g.dlen (t.d_Item x7.Wait))) ≤ (((g.dlen (t.d_Item x7.Wait)) : Nat) : Int))) <|
      gd (((g.nat 1) + (g.nsub (g.nat (g.int (g.dlen (t.d_Item x7.Wait)))) (g.nat 1)) ≤ x7.Wait.length)) <|
      cl (I_copyItems g t (List.take (g.nsub (g.nat (g.int (g.dlen (t.d_Item x7.Wait)))) (g.nat 1)) (List.drop (g.nat 1) x7.Wait))) fun x10 =>
      lP (List.set w3 (g.nat v2) (Inlet.mk x7.Cell x10)) fun (l8 : List Inlet) =>
      I_tick_l2 g t n2 (g.wrap .i64 (g.add v2 1)) l8 l7)
     (
      I_tick_l2 g t n2 (g.wrap .i64 (g.add v2 1)) w3 w4))
    (
     I_tick_l2 g t n2 (g.wrap .i64 (g.add v2 1)) w3 w4)
def I_tick_l1 (g : G) (t : TE) (a0 : Centre) : Nat → Int → List Chute → List Item → Option ((List Chute) × List Item)
  | 0, v1, w1, w2 =>
    some (w1, w2)
  | n1 + 1, v1, w1, w2 =>
    gd (((0 : Int) ≤ v1 ∧ v1 < (((g.dlen (t.d_Chute w1)) : Nat) : Int))) <|
    gt w1 (g.nat v1) fun x2 =>
    gd (((0 : Int) ≤ x2.Cell ∧ x2.Cell < (((g.dlen (t.d_Item w2)) : Nat) : Int))) <|
    gt w2 (g.nat x2.Cell) fun x3 =>
    br (g.all [(g.eq x3.Id 0), (g.eq x3.Dest 0)])
    (
     I_tick_l1 g t a0 n1 (g.wrap .i64 (g.add v1 1)) w1 w2)
    (
     gd (((0 : Int) ≤ x3.Dest ∧ x3.Dest < (((g.dlen (t.d_I64 a0.Plan)) : Nat) : Int))) <|
     gt a0.Plan (g.nat x3.Dest) fun x4 =>
     br (g.eq x4 v1)
     (
      br (g.lt (g.int (g.dlen (t.d_Item x2.Held))) x2.Room)
      (
       lP ([x3]) fun (l3 : List Item) =>
       gd (((x2.Held.length + l3.length) * 16 ≤ 70368744177664)) <|
       lP (x2.Held ++ l3) fun (l4 : List Item) =>
       lP (List.set w1 (g.nat v1) (Chute.mk x2.Cell x2.Room l4)) fun (l5 : List Chute) =>
       gt l5 (g.nat v1) fun x5 =>
       gd (((0 : Int) ≤ x5.Cell ∧ x5.Cell < (((g.dlen (t.d_Item w2)) : Nat) : Int))) <|
       gt w2 (g.nat x5.Cell) fun x6 =>
       lP (List.set w2 (g.nat x5.Cell) (Item.mk 0 0)) fun (l6 : List Item) =>
       I_tick_l1 g t a0 n1 (g.wrap .i64 (g.add v1 1)) l5 l6)
      (
       I_tick_l1 g t a0 n1 (g.wrap .i64 (g.add v1 1)) w1 w2))
     (
      I_tick_l1 g t a0 n1 (g.wrap .i64 (g.add v1 1)) w1 w2))
def I_tick (g : G) (t : TE) (a0 : Centre) : Option Centre :=
  gd (((0 : Int) ≤ (g.wrap .i64 (g.sub (g.int (g.dlen (t.d_Item a0.Belt))) 1)) ∧ (g.wrap .i64 (g.sub (g.int (g.dlen (t.d_Item a0.Belt))) 1)) < (((g.dlen (t.d_Item a0.Belt)) : Nat) : Int))) <|
  gt a0.Belt (g.nat (g.wrap .i64 (g.sub (g.int (g.dlen (t.d_Item a0.Belt))) 1))) fun x1 =>
  lP ([x1]) fun (l1 : List Item) =>
  gd (((0 : Int) ≤ 0 ∧ 0 ≤ (g.wrap .i64 (g.sub (g.int (g.dlen (t.d_Item a0.Belt))) 1)) ∧ (g.wrap .i64 (g.sub (g.int (g.dlen (t.d_Item a0.Belt))) 1)) ≤ (((g.dlen (t.d_Item a0.Belt)) : Nat) : Int))) <|
  gd (((g.nat 0) + (g.nsub (g.nat (g.wrap .i64 (g.sub (g.int (g.dlen (t.d_Item a0.Belt))) 1))) (g.nat 0)) ≤ a0.Belt.length)) <|
  gd (((l1.length + (List.take (g.nsub (g.nat (g.wrap .i64 (g.sub (g.int (g.dlen (t.d_Item a0.Belt))) 1))) (g.nat 0)) (List.drop (g.nat 0) a0.Belt)).length) * 16 ≤ 70368744177664)) <|
  lP (l1 ++ (List.take (g.nsub (g.nat (g.wrap .i64 (g.sub (g.int (g.dlen (t.d_Item a0.Belt))) 1))) (g.nat 0)) (List.drop (g.nat 0) a0.Belt))) fun (l2 : List Item) =>
  gd (((g.int (g.dlen (t.d_Chute a0.Chutes))) ≤ 4611686018427387904)) <|
  cl (I_tick_l1 g t a0 (cntLt 0 (g.int (g.dlen (t.d_Chute a0.Chutes)))) 0 a0.Chutes l2) fun y1 =>
  gd (((g.int (g.dlen (t.d_Inlet a0.Inlets))) ≤ 4611686018427387904)) <|
  cl (I_tick_l2 g t (cntLt 0 (g.int (g.dlen (t.d_Inlet a0.Inlets)))) 0 a0.Inlets y1.2) fun y2 =>
  some (Centre.mk y2.2 y1.1 y2.1 a0.Plan (g.wrap .i64 (g.add a0.Now 1)))
theorem fit95 : codeFit Try.prog Try.f95.ntmps (Try.f95.body.getD .skip) ir95 = true := by kernel_rfl
theorem c_I_tick {g : G} {t : TE} {a0 : Centre} {r : Centre} (hg : g = G.real) (ht : t = TE.real) (h : I_tick g t a0 = some r) : FnM Try.prog 95 (.p (Centre.ds t a0)) [] (.u []) (.p (Centre.ds t r)) := by
  obtain ⟨X, hX⟩ := hide (.u [] : X)
  obtain ⟨Y, hY⟩ := hide (.p (Centre.ds t r) : AM)
  rw [← hX, ← hY]
  refine fnM_of (rvs := rv95) (j := ir95) Try.func95 rfl fit95 (Nat.le_of_ble_eq_true rfl) (by kernel_rfl) prog_mixed ?_
  intro g2 F hg2 hF
  obtain rfl : g2 = g := hg2.unique.trans hg.symm
  clear hg2
  obtain ⟨wrap, lt, le, eq, quo, rem, band, bor, bxor, shl, shr, nat, int, add, sub, mul, cat, seq, slt, sub3, byte, llen, nadd, nsub, dlen, dapp, dset, drep, rd, rda, up, rsub, dsub, all, sle, slen, hasI, putI, hasS, putS, imin, imax, fzc⟩ := g2
  obtain ⟨r_Item, d_Item, r_Chute, d_Chute, r_Inlet, d_Inlet, r_I64, d_I64, r_U8, d_U8, d_InletF⟩ := t
  obtain ⟨a0_Belt, a0_Chutes, a0_Inlets, a0_Plan, a0_Now⟩ := a0
  have hfr_Item : ∀ l, freshDss (d_Item l) = true := fresh_Item ht
  unfold I_tick at h
  try dsimp only at h
  cbv
  obtain ⟨hc1, h⟩ := of_gd h
  refine AStep.mk hc1 ?_
  cbv
  obtain ⟨x1, hx1, h⟩ := of_gt h
  obtain ⟨x1_Id, x1_Dest⟩ := x1
  try dsimp only at h
  refine AGet.mk _ (d_get_Item hg ht hx1) ?_
  cbv
  obtain ⟨l1, hl1, h⟩ := of_lP h
  try dsimp only at h
  refine ANew.mk (d_Item l1) (dlen (d_Item l1)) (by rw [← hl1]; exact lit_Item hg ht [(Item.mk x1_Id x1_Dest)]) (by rw [← hl1]; exact litn_Item hg ht [(Item.mk x1_Id x1_Dest)]) ?_
  cbv
  obtain ⟨hc2, h⟩ := of_gd h
  refine AStep.mk hc2 ?_
  cbv
  obtain ⟨hc14, h⟩ := of_gd h
  obtain ⟨hc15, h⟩ := of_gd h
  refine AStep.mk ⟨(subp_ok_Item hg ht hc14), (app_ok_Item hg ht (dlen_Item hg ht _) (dsub_Item hg ht _ _ _) hc15)⟩ ?_
  cbv
  obtain ⟨l2, hl2, h⟩ := of_lP h
  try dsimp only at h
  refine ANew.mk (d_Item l2) (dlen (d_Item l2)) (by rw [← hl2]; exact app_Item hg ht (dlen_Item hg ht _) (dsub_Item hg ht _ _ _)) (by rw [← hl2]; exact appl_Item hg ht (dlen_Item hg ht _) (dsub_Item hg ht _ _ _)) ?_
  cbv
  obtain ⟨hB1, h⟩ := of_gd h
  obtain ⟨o1, ho1, h⟩ := of_cl h
  try dsimp only at h
  try rw [hg] at ho1
  try rw [ht] at ho1
  refine ABL.mk { p : Nat × Int × (List Chute) × List Item // p.1 = cntLt p.2.1 (int (dlen (d_Chute a0_Chutes))) ∧ 0 ≤ p.2.1 ∧ I_tick_l1 G.real TE.real (Centre.mk a0_Belt a0_Chutes a0_Inlets a0_Plan a0_Now) p.1 p.2.1 p.2.2.1 p.2.2.2 = some o1 } (fun ⟨⟨n1, v1, w1, w2⟩, _⟩ => ({ sl := [(0, .c (.p 5 5 0 0)), (3, .c (.f 4 2 0 (dlen (d_Item w2)))), (35, .c (.r (.v (.int .i64 (int (dlen (d_Chute a0_Chutes))))))), (36, .c (.r (.v (.int .i64 v1))))], tab := [(0, some (.arr 2 (d_Item a0_Belt))), (1, some (.arr 3 (d_Chute w1))), (2, some (.arr 2 (d_Inlet a0_Inlets))), (3, some (.arr 1 (d_I64 a0_Plan))), (4, some (.arr 2 (d_Item w2))), (5, some (.foc 5 [] [.f 0 2 0 (dlen (d_Item a0_Belt)), .f 1 3 0 (dlen (d_Chute w1)), .f 2 2 0 (dlen (d_Inlet a0_Inlets)), .f 3 1 0 (dlen (d_I64 a0_Plan)), .r (.v (.int .i64 a0_Now))] []))] } : St)) 6 (fun p => p.1.1) ⟨(cntLt 0 (int (dlen (d_Chute a0_Chutes))), 0, a0_Chutes, l2), rfl, Int.le_refl _, ho1⟩ ((List Chute) × List Item) (fun ⟨y1_1, y1_2⟩ => ({ sl := [(0, .c (.p 5 5 0 0)), (3, .c (.f 4 2 0 (dlen (d_Item y1_2))))], tab := [(0, some (.arr 2 (d_Item a0_Belt))), (1, some (.arr 3 (d_Chute y1_1))), (2, some (.arr 2 (d_Inlet a0_Inlets))), (3, some (.arr 1 (d_I64 a0_Plan))), (4, some (.arr 2 (d_Item y1_2))), (5, some (.foc 5 [] [.f 0 2 0 (dlen (d_Item a0_Belt)), .f 1 3 0 (dlen (d_Chute y1_1)), .f 2 2 0 (dlen (d_Inlet a0_Inlets)), .f 3 1 0 (dlen (d_I64 a0_Plan)), .r (.v (.int .i64 a0_Now))] []))] } : St)) 6 (fun y => o1 = y) ?_ ?_ ?_
  · refine Wk.of [(0, some 0), (1, some 1), (2, some 2), (3, some 3), (4, some 358), (5, some 5)] rfl rfl ?_ ?_
    · cbv
      all_goals exact ⟨⟨_, rfl, rfl⟩, ⟨_, rfl, rfl⟩, ⟨_, rfl, rfl⟩, ⟨_, rfl, rfl⟩, trivial⟩
    · cbv
      all_goals exact ⟨⟨_, rfl, rfl⟩, ⟨_, rfl, rfl⟩, ⟨_, rfl, rfl⟩, ⟨_, rfl, rfl⟩, ⟨_, rfl, rfl⟩, ⟨_, rfl, _, rfl, rfl, rfl, rfl, rfl, rfl, trivial⟩, trivial⟩
  · rintro ⟨⟨n1, v1, w1, w2⟩, hn1, hi1, h_1⟩ hq1
    try dsimp only at hn1 hi1 h_1
    clear hq1
    cbv
    rcases n1 with _ | n1
    · have hb1 : lt v1 (int (dlen (d_Chute a0_Chutes))) = false := ltC_false hg hn1
      rw [I_tick_l1] at h_1
      try rw [← hg] at h_1
      try rw [← ht] at h_1
      try dsimp only at h_1
      rw [hb1]
      cbv
      refine ⟨(w1, w2), Wk.of [(0, some 0), (1, some 1), (2, some 2), (3, some 3), (4, some 4), (5, some 5)] rfl rfl ?_ ?_, (Option.some.inj h_1).symm⟩
      · cbv
        all_goals exact ⟨⟨_, rfl, rfl⟩, ⟨_, rfl, rfl⟩, trivial⟩
      · cbv
        all_goals exact ⟨⟨_, rfl, rfl⟩, ⟨_, rfl, rfl⟩, ⟨_, rfl, rfl⟩, ⟨_, rfl, rfl⟩, ⟨_, rfl, rfl⟩, ⟨_, rfl, _, rfl, rfl, rfl, rfl, rfl, rfl, trivial⟩, trivial⟩
    · have hb1 : lt v1 (int (dlen (d_Chute a0_Chutes))) = true := ltC_true hg hn1
      have hl1 := ltC_le hn1
      have hs1 := stepltC hg hn1 hi1 hB1 (by decide)
      rw [I_tick_l1] at h_1
      try rw [← hg] at h_1
      try rw [← ht] at h_1
      try dsimp only at h_1
      rw [hb1]
      cbv
      obtain ⟨hc3, h_1⟩ := of_gd h_1
      refine AStep.mk hc3 ?_
      cbv
      obtain ⟨x2, hx2, h_1⟩ := of_gt h_1
      obtain ⟨x2_Cell, x2_Room, x2_Held⟩ := x2
      try dsimp only at h_1
      refine AGet.mk _ (d_get_Chute hg ht hx2) ?_
      cbv
      obtain ⟨hc4, h_1⟩ := of_gd h_1
      refine AStep.mk hc4 ?_
      cbv
      obtain ⟨x3, hx3, h_1⟩ := of_gt h_1
      obtain ⟨x3_Id, x3_Dest⟩ := x3
      try dsimp only at h_1
      refine AGet.mk _ (d_get_Item hg ht hx3) ?_
      cbv
      refine AGh.opn 1 3 (nat v1) (d_Chute w1) _ rfl (d_get_Chute hg ht hx2) rfl ?_
      cbv
      refine AGh.nil ?_
      cbv
      cases hb2 : (all [(eq x3_Id 0), (eq x3_Dest 0)]) with
      | true =>
        rw [br_true hb2] at h_1
        cbv
        try (rw [hb2]; cbv)
        try (rw [hb2]; cbv)
        try (rw [hb2]; cbv)
        try (rw [hb2]; cbv)
        try (rw [hb2]; cbv)
        try (rw [hb2]; cbv)
        try (rw [hb2]; cbv)
        try (rw [hb2]; cbv)
        try (rw [hb2]; cbv)
        try (rw [hb2]; cbv)
        refine AGh.cls 1 3 (nat v1) (d_Chute w1) _ _ _ _ (d_Chute w1) rfl rfl ⟨rfl, (dlen_Item hg ht _)⟩ (dsets_Chute hg ht hx2) ?_
        cbv
        refine AGh.nil ?_
        cbv
        try rw [hg] at h_1
        try rw [ht] at h_1
        refine ⟨⟨(n1, (wrap .i64 (add v1 1)), w1, w2), hs1.1, hs1.2, h_1⟩, Wk.of [(0, some 0), (1, some 1), (2, some 2), (3, some 3), (4, some 4), (5, some 5)] rfl rfl ?_ ?_, Nat.lt_succ_self _⟩
        · cbv
          all_goals exact ⟨⟨_, rfl, rfl⟩, ⟨_, rfl, rfl⟩, ⟨_, rfl, rfl⟩, ⟨_, rfl, rfl⟩, trivial⟩
        · cbv
          all_goals exact ⟨⟨_, rfl, rfl⟩, ⟨_, rfl, rfl⟩, ⟨_, rfl, rfl⟩, ⟨_, rfl, rfl⟩, ⟨_, rfl, rfl⟩, ⟨_, rfl, _, rfl, rfl, rfl, rfl, rfl, rfl, trivial⟩, trivial⟩
      | false =>
        rw [br_false hb2] at h_1
        cbv
        try (rw [hb2]; cbv)
        try (rw [hb2]; cbv)
        try (rw [hb2]; cbv)
        try (rw [hb2]; cbv)
        try (rw [hb2]; cbv)
        try (rw [hb2]; cbv)
        obtain ⟨hc5, h_1⟩ := of_gd h_1
        refine AStep.mk hc5 ?_
        cbv
        try (rw [hb2]; cbv)
        obtain ⟨x4, hx4, h_1⟩ := of_gt h_1
        try dsimp only at h_1
        refine AGet.mk _ (d_get_I64 hg ht hx4) ?_
        cbv
        try (rw [hb2]; cbv)
        try (rw [hb2]; cbv)
        try (rw [hb2]; cbv)
        cases hb3 : (eq x4 v1) with
        | true =>
          rw [br_true hb3] at h_1
          cbv
          try (rw [hb3]; cbv)
          try (rw [hb3]; cbv)
          try (rw [hb3]; cbv)
          refine AStep.mk rfl ?_
          cbv
          try (rw [hb3]; cbv)
          try (rw [hb3]; cbv)
          try (rw [hb3]; cbv)
          try (rw [hb3]; cbv)
          try (rw [hb3]; cbv)
          refine AStep.mk rfl ?_
          cbv
          try (rw [hb3]; cbv)
          try (rw [hb3]; cbv)
          refine AGh.cls 1 3 (nat v1) (d_Chute w1) _ _ _ _ (d_Chute w1) rfl rfl ⟨rfl, (dlen_Item hg ht _)⟩ (dsets_Chute hg ht hx2) ?_
          cbv
          refine AGh.nil ?_
          cbv
          cases hb4 : (lt (int (dlen (d_Item x2_Held))) x2_Room) with
          | true =>
            rw [br_true hb4] at h_1
            cbv
            refine AGh.opn 1 3 (nat v1) (d_Chute w1) _ rfl (d_get_Chute hg ht hx2) rfl ?_
            cbv
            refine AGh.nil ?_
            cbv
            refine AStep.mk rfl ?_
            cbv
            obtain ⟨l3, hl3, h_1⟩ := of_lP h_1
            try dsimp only at h_1
            refine ANew.mk (d_Item l3) (dlen (d_Item l3)) (by rw [← hl3]; exact lit_Item hg ht [(Item.mk x3_Id x3_Dest)]) (by rw [← hl3]; exact litn_Item hg ht [(Item.mk x3_Id x3_Dest)]) ?_
            cbv
            obtain ⟨hc7, h_1⟩ := of_gd h_1
            refine AStep.mk ⟨⟨rfl, (dlen_Item hg ht _)⟩, (app_ok_Item hg ht (dlen_Item hg ht _) rfl hc7)⟩ ?_
            cbv
            obtain ⟨l4, hl4, h_1⟩ := of_lP h_1
            try dsimp only at h_1
            refine ANew.mk (d_Item l4) (dlen (d_Item l4)) (by rw [← hl4]; exact app_Item hg ht (dlen_Item hg ht _) rfl) (by rw [← hl4]; exact appl_Item hg ht (dlen_Item hg ht _) rfl) ?_
            cbv
            refine AStep.mk rfl ?_
            cbv
            obtain ⟨l5, hl5, h_1⟩ := of_lP h_1
            try dsimp only at h_1
            refine AGh.cls 1 3 (nat v1) (d_Chute w1) _ _ _ _ (d_Chute l5) rfl rfl ⟨rfl, (dlen_Item hg ht _)⟩ (by rw [← hl5]; exact dset_Chute hg ht _ _ (Chute.mk x2_Cell x2_Room l4)) ?_
            have hnl5 : (dlen (d_Chute w1)) = (d_Chute l5).length := (by rw [← hl5, dsetl_Chute ht]; exact (dlen_Chute hg ht _))
            cbv
            refine AGh.nil ?_
            cbv
            obtain ⟨x5, hx5, h_1⟩ := of_gt h_1
            obtain ⟨x5_Cell, x5_Room, x5_Held⟩ := x5
            try dsimp only at h_1
            refine AGet.mk _ (d_get_Chute hg ht hx5) ?_
            cbv
            obtain ⟨hc6, h_1⟩ := of_gd h_1
            refine AStep.mk hc6 ?_
            cbv
            obtain ⟨x6, hx6, h_1⟩ := of_gt h_1
            obtain ⟨x6_Id, x6_Dest⟩ := x6
            try dsimp only at h_1
            refine AGet.mk _ (d_get_Item hg ht hx6) ?_
            cbv
            obtain ⟨l6, hl6, h_1⟩ := of_lP h_1
            try dsimp only at h_1
            refine ANew.mk (d_Item l6) _ (by rw [← hl6]; exact dset_Item hg ht _ _ (Item.mk 0 0)) rfl ?_
            have hnl6 : (dlen (d_Item w2)) = (d_Item l6).length := (by rw [← hl6, dsetl_Item ht]; exact (dlen_Item hg ht _))
            cbv
            try rw [hg] at h_1
            try rw [ht] at h_1
            refine ⟨⟨(n1, (wrap .i64 (add v1 1)), l5, l6), hs1.1, hs1.2, h_1⟩, Wk.of [(0, some 0), (1, some 1), (2, some 2), (3, some 3), (4, some 4), (5, some 5)] rfl rfl ?_ ?_, Nat.lt_succ_self _⟩
            · cbv
              all_goals try rw [show (dlen (d_Chute w1)) = (dlen (d_Chute l5)) from (hnl5).trans (dlen_Chute hg ht _).symm]
              all_goals try rw [show (dlen (d_Item w2)) = (dlen (d_Item l6)) from (hnl6).trans (dlen_Item hg ht _).symm]
              all_goals exact ⟨⟨_, rfl, rfl⟩, ⟨_, rfl, rfl⟩, ⟨_, rfl, rfl⟩, ⟨_, rfl, rfl⟩, trivial⟩
            · cbv
              all_goals try rw [show (dlen (d_Chute w1)) = (dlen (d_Chute l5)) from (hnl5).trans (dlen_Chute hg ht _).symm]
              all_goals try rw [show (dlen (d_Item w2)) = (dlen (d_Item l6)) from (hnl6).trans (dlen_Item hg ht _).symm]
              all_goals exact ⟨⟨_, rfl, rfl⟩, ⟨_, rfl, rfl⟩, ⟨_, rfl, rfl⟩, ⟨_, rfl, rfl⟩, ⟨_, rfl, rfl⟩, ⟨_, rfl, _, rfl, rfl, rfl, rfl, rfl, rfl, trivial⟩, trivial⟩
          | false =>
            rw [br_false hb4] at h_1
            cbv
            try rw [hg] at h_1
            try rw [ht] at h_1
            refine ⟨⟨(n1, (wrap .i64 (add v1 1)), w1, w2), hs1.1, hs1.2, h_1⟩, Wk.of [(0, some 0), (1, some 1), (2, some 2), (3, some 3), (4, some 4), (5, some 5)] rfl rfl ?_ ?_, Nat.lt_succ_self _⟩
            · cbv
              all_goals exact ⟨⟨_, rfl, rfl⟩, ⟨_, rfl, rfl⟩, ⟨_, rfl, rfl⟩, ⟨_, rfl, rfl⟩, trivial⟩
            · cbv
              all_goals exact ⟨⟨_, rfl, rfl⟩, ⟨_, rfl, rfl⟩, ⟨_, rfl, rfl⟩, ⟨_, rfl, rfl⟩, ⟨_, rfl, rfl⟩, ⟨_, rfl, _, rfl, rfl, rfl, rfl, rfl, rfl, trivial⟩, trivial⟩
        | false =>
          rw [br_false hb3] at h_1
          cbv
          try (rw [hb3]; cbv)
          try (rw [hb3]; cbv)
          try (rw [hb3]; cbv)
          try (rw [hb3]; cbv)
          try (rw [hb3]; cbv)
          try (rw [hb3]; cbv)
          try (rw [hb3]; cbv)
          try (rw [hb3]; cbv)
          try (rw [hb3]; cbv)
          try (rw [hb3]; cbv)
          refine AGh.cls 1 3 (nat v1) (d_Chute w1) _ _ _ _ (d_Chute w1) rfl rfl ⟨rfl, (dlen_Item hg ht _)⟩ (dsets_Chute hg ht hx2) ?_
          cbv
          refine AGh.nil ?_
          cbv
          try rw [hg] at h_1
          try rw [ht] at h_1
          refine ⟨⟨(n1, (wrap .i64 (add v1 1)), w1, w2), hs1.1, hs1.2, h_1⟩, Wk.of [(0, some 0), (1, some 1), (2, some 2), (3, some 3), (4, some 4), (5, some 5)] rfl rfl ?_ ?_, Nat.lt_succ_self _⟩
          · cbv
            all_goals exact ⟨⟨_, rfl, rfl⟩, ⟨_, rfl, rfl⟩, ⟨_, rfl, rfl⟩, ⟨_, rfl, rfl⟩, trivial⟩
          · cbv
            all_goals exact ⟨⟨_, rfl, rfl⟩, ⟨_, rfl, rfl⟩, ⟨_, rfl, rfl⟩, ⟨_, rfl, rfl⟩, ⟨_, rfl, rfl⟩, ⟨_, rfl, _, rfl, rfl, rfl, rfl, rfl, rfl, trivial⟩, trivial⟩
  · rintro ⟨y1_1, y1_2⟩ hy1
    replace hy1 := hy1.symm
    subst hy1
    try dsimp only [lr, lrL, lrp, lrpL] at h
    cbv
    obtain ⟨hB2, h⟩ := of_gd h
    obtain ⟨o2, ho2, h⟩ := of_cl h
    try dsimp only at h
    try rw [hg] at ho2
    try rw [ht] at ho2
    refine ABL.mk { p : Nat × Int × (List Inlet) × List Item // p.1 = cntLt p.2.1 (int (dlen (d_Inlet a0_Inlets))) ∧ 0 ≤ p.2.1 ∧ I_tick_l2 G.real TE.real p.1 p.2.1 p.2.2.1 p.2.2.2 = some o2 } (fun ⟨⟨n2, v2, w3, w4⟩, _⟩ => ({ sl := [(0, .c (.p 5 5 0 0)), (3, .c (.f 4 2 0 (dlen (d_Item w4)))), (101, .c (.r (.v (.int .i64 (int (dlen (d_Inlet a0_Inlets))))))), (102, .c (.r (.v (.int .i64 v2))))], tab := [(0, some (.arr 2 (d_Item a0_Belt))), (1, some (.arr 3 (d_Chute y1_1))), (2, some (.arr 2 (d_Inlet w3))), (3, some (.arr 1 (d_I64 a0_Plan))), (4, some (.arr 2 (d_Item w4))), (5, some (.foc 5 [] [.f 0 2 0 (dlen (d_Item a0_Belt)), .f 1 3 0 (dlen (d_Chute y1_1)), .f 2 2 0 (dlen (d_Inlet w3)), .f 3 1 0 (dlen (d_I64 a0_Plan)), .r (.v (.int .i64 a0_Now))] []))] } : St)) 6 (fun p => p.1.1) ⟨(cntLt 0 (int (dlen (d_Inlet a0_Inlets))), 0, a0_Inlets, y1_2), rfl, Int.le_refl _, ho2⟩ ((List Inlet) × List Item) (fun ⟨y2_1, y2_2⟩ => ({ sl := [(0, .c (.p 5 5 0 0)), (3, .c (.f 4 2 0 (dlen (d_Item y2_2))))], tab := [(0, some (.arr 2 (d_Item a0_Belt))), (1, some (.arr 3 (d_Chute y1_1))), (2, some (.arr 2 (d_Inlet y2_1))), (3, some (.arr 1 (d_I64 a0_Plan))), (4, some (.arr 2 (d_Item y2_2))), (5, some (.foc 5 [] [.f 0 2 0 (dlen (d_Item a0_Belt)), .f 1 3 0 (dlen (d_Chute y1_1)), .f 2 2 0 (dlen (d_Inlet y2_1)), .f 3 1 0 (dlen (d_I64 a0_Plan)), .r (.v (.int .i64 a0_Now))] []))] } : St)) 6 (fun y => o2 = y) ?_ ?_ ?_
    · refine Wk.of [(0, some 0), (1, some 1), (2, some 2), (3, some 3), (4, some 4), (5, some 5)] rfl rfl ?_ ?_
      · cbv
        all_goals exact ⟨⟨_, rfl, rfl⟩, ⟨_, rfl, rfl⟩, ⟨_, rfl, rfl⟩, ⟨_, rfl, rfl⟩, trivial⟩
      · cbv
        all_goals exact ⟨⟨_, rfl, rfl⟩, ⟨_, rfl, rfl⟩, ⟨_, rfl, rfl⟩, ⟨_, rfl, rfl⟩, ⟨_, rfl, rfl⟩, ⟨_, rfl, _, rfl, rfl, rfl, rfl, rfl, rfl, trivial⟩, trivial⟩
    · rintro ⟨⟨n2, v2, w3, w4⟩, hn2, hi2, h_2⟩ hq2
      try dsimp only at hn2 hi2 h_2
      clear hq2
      cbv
      rcases n2 with _ | n2
      · have hb5 : lt v2 (int (dlen (d_Inlet a0_Inlets))) = false := ltC_false hg hn2
        rw [I_tick_l2] at h_2
        try rw [← hg] at h_2
        try rw [← ht] at h_2
        try dsimp only at h_2
        rw [hb5]
        cbv
        refine ⟨(w3, w4), Wk.of [(0, some 0), (1, some 1), (2, some 2), (3, some 3), (4, some 4), (5, some 5)] rfl rfl ?_ ?_, (Option.some.inj h_2).symm⟩
        · cbv
          all_goals exact ⟨⟨_, rfl, rfl⟩, ⟨_, rfl, rfl⟩, trivial⟩
        · cbv
          all_goals exact ⟨⟨_, rfl, rfl⟩, ⟨_, rfl, rfl⟩, ⟨_, rfl, rfl⟩, ⟨_, rfl, rfl⟩, ⟨_, rfl, rfl⟩, ⟨_, rfl, _, rfl, rfl, rfl, rfl, rfl, rfl, trivial⟩, trivial⟩
      · have hb5 : lt v2 (int (dlen (d_Inlet a0_Inlets))) = true := ltC_true hg hn2
        have hl2 := ltC_le hn2
        have hs2 := stepltC hg hn2 hi2 hB2 (by decide)
        rw [I_tick_l2] at h_2
        try rw [← hg] at h_2
        try rw [← ht] at h_2
        try dsimp only at h_2
        rw [hb5]
        cbv
        obtain ⟨hc8, h_2⟩ := of_gd h_2
        refine AStep.mk hc8 ?_
        cbv
        obtain ⟨x7, hx7, h_2⟩ := of_gt h_2
        obtain ⟨x7_Cell, x7_Wait⟩ := x7
        try dsimp only at h_2
        refine AGh.opn 2 2 (nat v2) (d_Inlet w3) _ rfl (d_get_Inlet hg ht hx7) rfl ?_
        cbv
        refine AGh.nil ?_
        cbv
        refine AStep.mk rfl ?_
        cbv
        cases hb6 : (lt 0 (int (dlen (d_Item x7_Wait)))) with
        | true =>
          rw [br_true hb6] at h_2
          cbv
          try (rw [hb6]; cbv)
          try (rw [hb6]; cbv)
          try (rw [hb6]; cbv)
          try (rw [hb6]; cbv)
          refine AStep.mk rfl ?_
          cbv
          try (rw [hb6]; cbv)
          obtain ⟨hc9, h_2⟩ := of_gd h_2
          refine AStep.mk hc9 ?_
          cbv
          try (rw [hb6]; cbv)
          obtain ⟨x8, hx8, h_2⟩ := of_gt h_2
          obtain ⟨x8_Id, x8_Dest⟩ := x8
          try dsimp only at h_2
          refine AGet.mk _ (d_get_Item hg ht hx8) ?_
          cbv
          try (rw [hb6]; cbv)
          try (rw [hb6]; cbv)
          try (rw [hb6]; cbv)
          refine AGh.cls 2 2 (nat v2) (d_Inlet w3) _ _ _ _ (d_Inlet w3) rfl rfl ⟨rfl, (dlen_Item hg ht _)⟩ (dsets_Inlet hg ht hx7) ?_
          cbv
          refine AGh.nil ?_
          cbv
          cases hb7 : (all [(eq x8_Id 0), (eq x8_Dest 0)]) with
          | true =>
            rw [br_true hb7] at h_2
            cbv
            refine AGh.opn 2 2 (nat v2) (d_Inlet w3) _ rfl (d_get_Inlet hg ht hx7) rfl ?_
            cbv
            refine AGh.nil ?_
            cbv
            refine AStep.mk rfl ?_
            cbv
            refine AStep.mk rfl ?_
            cbv
            obtain ⟨hc10, h_2⟩ := of_gd h_2
            refine AStep.mk hc10 ?_
            cbv
            obtain ⟨x9, hx9, h_2⟩ := of_gt h_2
            obtain ⟨x9_Id, x9_Dest⟩ := x9
            try dsimp only at h_2
            refine AGet.mk _ (d_get_Item hg ht hx9) ?_
            cbv
            obtain ⟨hc11, h_2⟩ := of_gd h_2
            refine AStep.mk hc11 ?_
            cbv
            refine AGet.mk _ (d_get_Item hg ht hx8) ?_
            cbv
            obtain ⟨l7, hl7, h_2⟩ := of_lP h_2
            try dsimp only at h_2
            refine ANew.mk (d_Item l7) _ (by rw [← hl7]; exact dset_Item hg ht _ _ (Item.mk x9_Id x9_Dest)) rfl ?_
            have hnl7 : (dlen (d_Item w4)) = (d_Item l7).length := (by rw [← hl7, dsetl_Item ht]; exact (dlen_Item hg ht _))
            cbv
            refine AGh.cls 2 2 (nat v2) (d_Inlet w3) _ _ _ _ (d_Inlet w3) rfl rfl ⟨rfl, (dlen_Item hg ht _)⟩ (dsets_Inlet hg ht hx7) ?_
            cbv
            refine AGh.nil ?_
            cbv
            refine AGh.opn 2 2 (nat v2) (d_Inlet w3) _ rfl (d_get_Inlet hg ht hx7) rfl ?_
            cbv
            refine AGh.nil ?_
            cbv
            refine AStep.mk rfl ?_
            cbv
            obtain ⟨hc12, h_2⟩ := of_gd h_2
            refine AStep.mk hc12 ?_
            cbv
            obtain ⟨hc13, h_2⟩ := of_gd h_2
            refine AStep.mk (lendp_Item ht hc13) ?_
            cbv
            obtain ⟨x10, hx10, h_2⟩ := of_cl h_2
            try dsimp only at h_2
            refine ACall.mk _ _ (by rw [show rd (d_Item x7_Wait) (nat 1) (nsub (nat (int (dlen (d_Item x7_Wait)))) (nat 1)) = r_Item (List.take (nsub (nat (int (dlen (d_Item x7_Wait)))) (nat 1)) (List.drop (nat 1) x7_Wait)) from rd_Item hg ht _ _ _]; try rfl) (hF _ _ _ (c_I_copyItems hg ht hx10)) (.inr (by simp only [Go.Vs.X.fresh, Go.Vs.X.freshs, freshD, freshDs, Bool.and_self, hfr_Item])) (Nat.le_of_ble_eq_true rfl) ?_
            cbv
            refine AStep.mk rfl ?_
            cbv
            obtain ⟨l8, hl8, h_2⟩ := of_lP h_2
            try dsimp only at h_2
            refine AGh.cls 2 2 (nat v2) (d_Inlet w3) _ _ _ _ (d_Inlet l8) rfl rfl ⟨rfl, (dlen_Item hg ht _)⟩ (by rw [← hl8]; exact dset_Inlet hg ht _ _ (Inlet.mk x7_Cell x10)) ?_
            have hnl8 : (dlen (d_Inlet w3)) = (d_Inlet l8).length := (by rw [← hl8, dsetl_Inlet ht]; exact (dlen_Inlet hg ht _))
            cbv
            refine AGh.nil ?_
            cbv
            try rw [hg] at h_2
            try rw [ht] at h_2
            refine ⟨⟨(n2, (wrap .i64 (add v2 1)), l8, l7), hs2.1, hs2.2, h_2⟩, Wk.of [(0, some 0), (1, some 1), (2, some 2), (3, some 3), (4, some 4), (5, some 5)] rfl rfl ?_ ?_, Nat.lt_succ_self _⟩
            · cbv
              all_goals try rw [show (dlen (d_Inlet w3)) = (dlen (d_Inlet l8)) from (hnl8).trans (dlen_Inlet hg ht _).symm]
              all_goals try rw [show (dlen (d_Item w4)) = (dlen (d_Item l7)) from (hnl7).trans (dlen_Item hg ht _).symm]
              all_goals exact ⟨⟨_, rfl, rfl⟩, ⟨_, rfl, rfl⟩, ⟨_, rfl, rfl⟩, ⟨_, rfl, rfl⟩, trivial⟩
            · cbv
              all_goals try rw [show (dlen (d_Inlet w3)) = (dlen (d_Inlet l8)) from (hnl8).trans (dlen_Inlet hg ht _).symm]
              all_goals try rw [show (dlen (d_Item w4)) = (dlen (d_Item l7)) from (hnl7).trans (dlen_Item hg ht _).symm]
              all_goals exact ⟨⟨_, rfl, rfl⟩, ⟨_, rfl, rfl⟩, ⟨_, rfl, rfl⟩, ⟨_, rfl, rfl⟩, ⟨_, rfl, rfl⟩, ⟨_, rfl, _, rfl, rfl, rfl, rfl, rfl, rfl, trivial⟩, trivial⟩
          | false =>
            rw [br_false hb7] at h_2
            cbv
            try rw [hg] at h_2
            try rw [ht] at h_2
            refine ⟨⟨(n2, (wrap .i64 (add v2 1)), w3, w4), hs2.1, hs2.2, h_2⟩, Wk.of [(0, some 0), (1, some 1), (2, some 2), (3, some 3), (4, some 4), (5, some 5)] rfl rfl ?_ ?_, Nat.lt_succ_self _⟩
            · cbv
              all_goals exact ⟨⟨_, rfl, rfl⟩, ⟨_, rfl, rfl⟩, ⟨_, rfl, rfl⟩, ⟨_, rfl, rfl⟩, trivial⟩
            · cbv
              all_goals exact ⟨⟨_, rfl, rfl⟩, ⟨_, rfl, rfl⟩, ⟨_, rfl, rfl⟩, ⟨_, rfl, rfl⟩, ⟨_, rfl, rfl⟩, ⟨_, rfl, _, rfl, rfl, rfl, rfl, rfl, rfl, trivial⟩, trivial⟩
        | false =>
          rw [br_false hb6] at h_2
          cbv
          try (rw [hb6]; cbv)
          try (rw [hb6]; cbv)
          try (rw [hb6]; cbv)
          try (rw [hb6]; cbv)
          try (rw [hb6]; cbv)
          try (rw [hb6]; cbv)
          try (rw [hb6]; cbv)
          try (rw [hb6]; cbv)
          try (rw [hb6]; cbv)
          refine AGh.cls 2 2 (nat v2) (d_Inlet w3) _ _ _ _ (d_Inlet w3) rfl rfl ⟨rfl, (dlen_Item hg ht _)⟩ (dsets_Inlet hg ht hx7) ?_
          cbv
          refine AGh.nil ?_
          cbv
          try rw [hg] at h_2
          try rw [ht] at h_2
          refine ⟨⟨(n2, (wrap .i64 (add v2 1)), w3, w4), hs2.1, hs2.2, h_2⟩, Wk.of [(0, some 0), (1, some 1), (2, some 2), (3, some 3), (4, some 4), (5, some 5)] rfl rfl ?_ ?_, Nat.lt_succ_self _⟩
          · cbv
            all_goals exact ⟨⟨_, rfl, rfl⟩, ⟨_, rfl, rfl⟩, ⟨_, rfl, rfl⟩, ⟨_, rfl, rfl⟩, trivial⟩
          · cbv
            all_goals exact ⟨⟨_, rfl, rfl⟩, ⟨_, rfl, rfl⟩, ⟨_, rfl, rfl⟩, ⟨_, rfl, rfl⟩, ⟨_, rfl, rfl⟩, ⟨_, rfl, _, rfl, rfl, rfl, rfl, rfl, rfl, trivial⟩, trivial⟩
    · rintro ⟨y2_1, y2_2⟩ hy2
      replace hy2 := hy2.symm
      subst hy2
      try dsimp only [lr, lrL, lrp, lrpL] at h
      cbv
      obtain rfl := Option.some.inj h
      exact ARetM.mk ⟨⟨rfl, (dlen_Item hg ht _)⟩, ⟨⟨rfl, (dlen_Chute hg ht _)⟩, ⟨⟨rfl, (dlen_Inlet hg ht _)⟩, ⟨rfl, (dlen_I64 hg ht _)⟩⟩⟩⟩ hX.symm hY.symm
end Go.Vs
namespace Go.Vs
set_option maxRecDepth 100000
def ir36 : J :=
  .seq (.reg none [⟨(some 2), none, .box (.t 0)⟩,
     ⟨(some 4), none, .alloc [.n 2, .n 3, .n 2, .n 1, .r (.v (.int .i64 0))]⟩] [1, 2, 4])
  (.seq (.reg none [⟨(some 7), none, .ld true 5 (.t 2)⟩,
     ⟨(some 8), none, .call 94 true [(.t 7)]⟩,
     ⟨(some 5), none, .alloc [.n 2, .n 3, .n 2, .n 1, .r (.v (.int .i64 0))]⟩,
     ⟨none, none, .st 5 (.t 5) (.t 8)⟩] [1, 2, 4, 5])
  (.seq (.seq (.reg none [⟨(some 9), none, .ld true 5 (.t 2)⟩,
      ⟨(some 10), none, .call 32 true [(.t 9)]⟩,
      ⟨(some 11), none, .not (.t 10)⟩,
      ⟨(some 12), none, .mv (.t 11)⟩,
      ⟨(some 13), (some (12, false)), .mv (.t 1)⟩,
      ⟨(some 14), (some (12, false)), .call 89 true [(.t 13), (.k (V.i 0)), (.k (V.i 1000))]⟩,
      ⟨(some 15), (some (12, false)), .not (.t 14)⟩,
      ⟨(some 16), none, .pick (.t 12) (.k (V.b true)) (.t 15)⟩,
      ⟨(some 17), none, .mv (.t 16)⟩,
      ⟨(some 18), (some (17, false)), .fa 4 (.t 2)⟩,
      ⟨(some 19), (some (17, false)), .ld false 1 (.t 18)⟩,
      ⟨(some 20), (some (17, false)), .mv (.t 1)⟩,
      ⟨(some 21), (some (17, false)), .bin .add .i (.t 19) (.t 20)⟩,
      ⟨(some 22), (some (17, false)), .bin .gtr .i (.t 21) (.k (V.i 100000))⟩,
      ⟨(some 23), none, .pick (.t 17) (.k (V.b true)) (.t 22)⟩] [1, 4, 5, 23])
   (.cond (.t 23)
    (.seq (.reg none [⟨(some 24), none, .ld true 5 (.t 5)⟩,
        ⟨none, none, .st 5 (.t 4) (.t 24)⟩] [4])
     (.ret))
    (.skip)))
  (.seq (.seq (.reg none [⟨(some 6), none, .mv (.k (V.i 0))⟩] [1, 4, 5, 6])
   (.bl 0 (.seq (.seq (.reg none [⟨(some 25), none, .mv (.t 6)⟩,
        ⟨(some 26), none, .mv (.t 1)⟩,
        ⟨(some 27), none, .bin .lss .i (.t 25) (.t 26)⟩] [1, 4, 5, 6, 27])
     (.cond (.t 27)
      (.skip)
      (.exit 0)))
    (.seq (.block 1 (.reg none [⟨(some 30), none, .callm 95 (.t 5) []⟩] [1, 4, 5, 6]))
    (.reg none [⟨(some 28), none, .mv (.t 6)⟩,
      ⟨(some 29), none, .bin .add .i (.t 28) (.k (V.i 1))⟩,
      ⟨(some 6), none, .mv (.t 29)⟩] [1, 4, 5, 6])))))
  (.seq (.reg none [⟨(some 31), none, .ld true 5 (.t 5)⟩,
     ⟨none, none, .st 5 (.t 4) (.t 31)⟩] [4])
  (.ret)))))
def rv36 : List RV := [.c 4 true 5]
open Go.Proofs Go.IntWalk
set_option linter.unusedVariables false
set_option maxRecDepth 100000
set_option maxHeartbeats 4000000
def I_RunCentre_l1 (g : G) (t : TE) : Nat → List Item → List Chute → List Inlet → List Int → Int → Option ((List Item) × (List Chute) × (List Inlet) × (List Int) × Int)
  | 0, w1, w2, w3, w4, v1 =>
    some (w1, w2, w3, w4, v1)
  | n1 + 1, w1, w2, w3, w4, v1 =>
    cl (I_tick g t (Centre.mk w1 w2 w3 w4 v1)) fun x4 =>
    I_RunCentre_l1 g t n1 x4.Belt x4.Chutes x4.Inlets x4.Plan x4.Now
def I_RunCentre (g : G) (t : TE) (a0 : Centre) (a1 : Int) : Option Centre :=
  cl (I_copyCentre g t a0) fun x1 =>
  cl (I_IsCentre g t a0) fun x2 =>
  br x2
  (
   lP (I_within g t a1 0 1000) fun x3 =>
   br x3
   (
    br (g.lt 100000 (g.wrap .i64 (g.add a0.Now a1)))
    (
     some x1)
    (
     gd ((a1 ≤ 4611686018427387904)) <|
     cl (I_RunCentre_l1 g t (cntLt 0 a1) x1.Belt x1.Chutes x1.Inlets x1.Plan x1.Now) fun y1 =>
     some (Centre.mk y1.1 y1.2.1 y1.2.2.1 y1.2.2.2.1 y1.2.2.2.2)))
   (
    some x1))
  (
   some x1)
theorem fit36 : codeFit Try.prog Try.f36.ntmps (Try.f36.body.getD .skip) ir36 = true := by kernel_rfl
theorem c_I_RunCentre {g : G} {t : TE} {a0 : Centre} {a1 : Int} {r : Centre} (hg : g = G.real) (ht : t = TE.real) (h : I_RunCentre g t a0 a1 = some r) : Fn Try.prog 36 [.g (Centre.rs t a0), .c (.v (.int .i64 a1))] (.g (Centre.ds t r)) := by
  obtain ⟨X, hX⟩ := hide (.g (Centre.ds t r) : X)
  rw [← hX]
  refine fn_of (rvs := rv36) (j := ir36) Try.func36 rfl fit36 (Nat.le_of_ble_eq_true rfl) (by kernel_rfl) prog_mixed ?_
  intro g2 F hg2 hF
  obtain rfl : g2 = g := hg2.unique.trans hg.symm
  clear hg2
  obtain ⟨wrap, lt, le, eq, quo, rem, band, bor, bxor, shl, shr, nat, int, add, sub, mul, cat, seq, slt, sub3, byte, llen, nadd, nsub, dlen, dapp, dset, drep, rd, rda, up, rsub, dsub, all, sle, slen, hasI, putI, hasS, putS, imin, imax, fzc⟩ := g2
  obtain ⟨r_Item, d_Item, r_Chute, d_Chute, r_Inlet, d_Inlet, r_I64, d_I64, r_U8, d_U8, d_InletF⟩ := t
  obtain ⟨a0_Belt, a0_Chutes, a0_Inlets, a0_Plan, a0_Now⟩ := a0
  unfold I_RunCentre at h
  try dsimp only at h
  cbv
  obtain ⟨x1, hx1, h⟩ := of_cl h
  obtain ⟨x1_Belt, x1_Chutes, x1_Inlets, x1_Plan, x1_Now⟩ := x1
  try dsimp only at h
  refine ACall.mk _ _ rfl (hF _ _ _ (c_I_copyCentre hg ht hx1)) (.inl rfl) (Nat.le_of_ble_eq_true rfl) ?_
  cbv
  obtain ⟨x2, hx2, h⟩ := of_cl h
  try dsimp only at h
  refine ACall.mk _ _ rfl (hF _ _ _ (c_I_IsCentre hg ht hx2)) (.inl rfl) (Nat.le_of_ble_eq_true rfl) ?_
  cbv
  cases hb1 : x2 with
  | true =>
    rw [br_true hb1] at h
    cbv
    try (rw [hb1]; cbv)
    obtain ⟨x3, hx3, h⟩ := of_lP h
    try dsimp only at h
    refine ACall.mk _ _ rfl (hF _ _ _ (c_I_within hg ht hx3)) (.inl rfl) (Nat.le_of_ble_eq_true rfl) ?_
    cbv
    try (rw [hb1]; cbv)
    try (rw [hb1]; cbv)
    cases hb2 : x3 with
    | true =>
      rw [br_true hb2] at h
      cbv
      try (rw [hb2]; cbv)
      try (rw [hb2]; cbv)
      try (rw [hb2]; cbv)
      try (rw [hb2]; cbv)
      try (rw [hb2]; cbv)
      cases hb3 : (lt 100000 (wrap .i64 (add a0_Now a1))) with
      | true =>
        rw [br_true hb3] at h
        cbv
        obtain rfl := Option.some.inj h
        exact ARet.mk ⟨⟨rfl, (dlen_Item hg ht _)⟩, ⟨⟨rfl, (dlen_Chute hg ht _)⟩, ⟨⟨rfl, (dlen_Inlet hg ht _)⟩, ⟨rfl, (dlen_I64 hg ht _)⟩⟩⟩⟩ hX.symm
      | false =>
        rw [br_false hb3] at h
        cbv
        obtain ⟨hB1, h⟩ := of_gd h
        obtain ⟨o1, ho1, h⟩ := of_cl h
        try dsimp only at h
        try rw [hg] at ho1
        try rw [ht] at ho1
        refine ABL.mk { p : Nat × Int × (List Item) × (List Chute) × (List Inlet) × (List Int) × Int // p.1 = cntLt p.2.1 a1 ∧ 0 ≤ p.2.1 ∧ I_RunCentre_l1 G.real TE.real p.1 p.2.2.1 p.2.2.2.1 p.2.2.2.2.1 p.2.2.2.2.2.1 p.2.2.2.2.2.2 = some o1 } (fun ⟨⟨n1, v2, w1, w2, w3, w4, v1⟩, _⟩ => ({ sl := [(1, .c (.r (.v (.int .i64 a1)))), (4, .c (.p 0 5 0 0)), (5, .c (.p 1 5 0 0)), (6, .c (.r (.v (.int .i64 v2))))], tab := [(0, some (.foc 5 [] [.n 2, .n 3, .n 2, .n 1, .r (.v (.int .i64 0))] [])), (1, some (.foc 5 [] [.f 2 2 0 (dlen (d_Item w1)), .f 3 3 0 (dlen (d_Chute w2)), .f 4 2 0 (dlen (d_Inlet w3)), .f 5 1 0 (dlen (d_I64 w4)), .r (.v (.int .i64 v1))] [])), (2, some (.arr 2 (d_Item w1))), (3, some (.arr 3 (d_Chute w2))), (4, some (.arr 2 (d_Inlet w3))), (5, some (.arr 1 (d_I64 w4)))] } : St)) 6 (fun p => p.1.1) ⟨(cntLt 0 a1, 0, x1_Belt, x1_Chutes, x1_Inlets, x1_Plan, x1_Now), rfl, Int.le_refl _, ho1⟩ ((List Item) × (List Chute) × (List Inlet) × (List Int) × Int) (fun ⟨y1_1, y1_2_1, y1_2_2_1, y1_2_2_2_1, y1_2_2_2_2⟩ => ({ sl := [(4, .c (.p 0 5 0 0)), (5, .c (.p 1 5 0 0))], tab := [(0, some (.foc 5 [] [.n 2, .n 3, .n 2, .n 1, .r (.v (.int .i64 0))] [])), (1, some (.foc 5 [] [.f 2 2 0 (dlen (d_Item y1_1)), .f 3 3 0 (dlen (d_Chute y1_2_1)), .f 4 2 0 (dlen (d_Inlet y1_2_2_1)), .f 5 1 0 (dlen (d_I64 y1_2_2_2_1)), .r (.v (.int .i64 y1_2_2_2_2))] [])), (2, some (.arr 2 (d_Item y1_1))), (3, some (.arr 3 (d_Chute y1_2_1))), (4, some (.arr 2 (d_Inlet y1_2_2_1))), (5, some (.arr 1 (d_I64 y1_2_2_2_1)))] } : St)) 6 (fun y => o1 = y) ?_ ?_ ?_
        · refine Wk.of [(0, some 16), (1, some 64), (2, some 48), (3, some 49), (4, some 50), (5, some 51)] rfl rfl ?_ ?_
          · cbv
            all_goals exact ⟨⟨_, rfl, rfl⟩, ⟨_, rfl, rfl⟩, ⟨_, rfl, rfl⟩, ⟨_, rfl, rfl⟩, trivial⟩
          · cbv
            all_goals exact ⟨⟨_, rfl, _, rfl, rfl, rfl, rfl, rfl, rfl, trivial⟩, ⟨_, rfl, _, rfl, rfl, rfl, rfl, rfl, rfl, trivial⟩, ⟨_, rfl, rfl⟩, ⟨_, rfl, rfl⟩, ⟨_, rfl, rfl⟩, ⟨_, rfl, rfl⟩, trivial⟩
        · rintro ⟨⟨n1, v2, w1, w2, w3, w4, v1⟩, hn1, hi1, h_1⟩ hq1
          try dsimp only at hn1 hi1 h_1
          clear hq1
          cbv
          rcases n1 with _ | n1
          · have hb4 : lt v2 a1 = false := ltC_false hg hn1
            rw [I_RunCentre_l1] at h_1
            try rw [← hg] at h_1
            try rw [← ht] at h_1
            try dsimp only at h_1
            rw [hb4]
            cbv
            refine ⟨(w1, w2, w3, w4, v1), Wk.of [(0, some 0), (1, some 1), (2, some 2), (3, some 3), (4, some 4), (5, some 5)] rfl rfl ?_ ?_, (Option.some.inj h_1).symm⟩
            · cbv
              all_goals exact ⟨⟨_, rfl, rfl⟩, ⟨_, rfl, rfl⟩, trivial⟩
            · cbv
              all_goals exact ⟨⟨_, rfl, _, rfl, rfl, rfl, rfl, rfl, rfl, trivial⟩, ⟨_, rfl, _, rfl, rfl, rfl, rfl, rfl, rfl, trivial⟩, ⟨_, rfl, rfl⟩, ⟨_, rfl, rfl⟩, ⟨_, rfl, rfl⟩, ⟨_, rfl, rfl⟩, trivial⟩
          · have hb4 : lt v2 a1 = true := ltC_true hg hn1
            have hl1 := ltC_le hn1
            have hs1 := stepltC hg hn1 hi1 hB1 (by decide)
            rw [I_RunCentre_l1] at h_1
            try rw [← hg] at h_1
            try rw [← ht] at h_1
            try dsimp only at h_1
            rw [hb4]
            cbv
            refine AStep.mk ⟨⟨rfl, (dlen_Item hg ht _)⟩, ⟨⟨rfl, (dlen_Chute hg ht _)⟩, ⟨⟨rfl, (dlen_Inlet hg ht _)⟩, ⟨rfl, (dlen_I64 hg ht _)⟩⟩⟩⟩ ?_
            cbv
            obtain ⟨x4, hx4, h_1⟩ := of_cl h_1
            obtain ⟨x4_Belt, x4_Chutes, x4_Inlets, x4_Plan, x4_Now⟩ := x4
            try dsimp only at h_1
            refine ACallM.mk _ _ _ _ rfl rfl (hF _ _ _ (c_I_tick hg ht hx4)) rfl (Nat.le_of_ble_eq_true rfl) (Nat.le_of_ble_eq_true rfl) ?_
            cbv
            try rw [hg] at h_1
            try rw [ht] at h_1
            refine ⟨⟨(n1, (wrap .i64 (add v2 1)), x4_Belt, x4_Chutes, x4_Inlets, x4_Plan, x4_Now), hs1.1, hs1.2, h_1⟩, Wk.of [(0, some 0), (1, some 1), (2, some 62), (3, some 63), (4, some 64), (5, some 65)] rfl rfl ?_ ?_, Nat.lt_succ_self _⟩
            · cbv
              all_goals exact ⟨⟨_, rfl, rfl⟩, ⟨_, rfl, rfl⟩, ⟨_, rfl, rfl⟩, ⟨_, rfl, rfl⟩, trivial⟩
            · cbv
              all_goals exact ⟨⟨_, rfl, _, rfl, rfl, rfl, rfl, rfl, rfl, trivial⟩, ⟨_, rfl, _, rfl, rfl, rfl, rfl, rfl, rfl, trivial⟩, ⟨_, rfl, rfl⟩, ⟨_, rfl, rfl⟩, ⟨_, rfl, rfl⟩, ⟨_, rfl, rfl⟩, trivial⟩
        · rintro ⟨y1_1, y1_2_1, y1_2_2_1, y1_2_2_2_1, y1_2_2_2_2⟩ hy1
          replace hy1 := hy1.symm
          subst hy1
          try dsimp only [lr, lrL, lrp, lrpL] at h
          cbv
          obtain rfl := Option.some.inj h
          exact ARet.mk ⟨⟨rfl, (dlen_Item hg ht _)⟩, ⟨⟨rfl, (dlen_Chute hg ht _)⟩, ⟨⟨rfl, (dlen_Inlet hg ht _)⟩, ⟨rfl, (dlen_I64 hg ht _)⟩⟩⟩⟩ hX.symm
    | false =>
      rw [br_false hb2] at h
      cbv
      try (rw [hb2]; cbv)
      try (rw [hb2]; cbv)
      try (rw [hb2]; cbv)
      try (rw [hb2]; cbv)
      try (rw [hb2]; cbv)
      obtain rfl := Option.some.inj h
      exact ARet.mk ⟨⟨rfl, (dlen_Item hg ht _)⟩, ⟨⟨rfl, (dlen_Chute hg ht _)⟩, ⟨⟨rfl, (dlen_Inlet hg ht _)⟩, ⟨rfl, (dlen_I64 hg ht _)⟩⟩⟩⟩ hX.symm
  | false =>
    rw [br_false hb1] at h
    cbv
    try (rw [hb1]; cbv)
    try (rw [hb1]; cbv)
    try (rw [hb1]; cbv)
    obtain rfl := Option.some.inj h
    exact ARet.mk ⟨⟨rfl, (dlen_Item hg ht _)⟩, ⟨⟨rfl, (dlen_Chute hg ht _)⟩, ⟨⟨rfl, (dlen_Inlet hg ht _)⟩, ⟨rfl, (dlen_I64 hg ht _)⟩⟩⟩⟩ hX.symm
end Go.Vs
namespace Go.Vs
set_option maxRecDepth 100000
def ir46 : J :=
  .seq (.reg none [⟨(some 10), none, .alloc [.n 2, .n 3, .n 2, .n 1, .r (.v (.int .i64 0))]⟩,
     ⟨(some 11), none, .mv (.k (V.b false))⟩] [0, 1, 2, 3, 4, 10])
  (.seq (.seq (.reg none [⟨(some 17), none, .mv (.t 0)⟩,
      ⟨(some 18), none, .call 89 true [(.t 17), (.k (V.i 2)), (.k (V.i 24))]⟩,
      ⟨(some 19), none, .not (.t 18)⟩] [0, 1, 2, 3, 4, 10, 19])
   (.cond (.t 19)
    (.seq (.reg none [⟨(some 20), none, .bld [.n 2, .n 3, .n 2, .n 1, .r (.v (.int .i64 0))] []⟩,
        ⟨none, none, .st 5 (.t 10) (.t 20)⟩,
        ⟨(some 11), none, .mv (.k (V.b false))⟩] [10, 11])
     (.ret))
    (.skip)))
  (.seq (.reg (some [[], [0], [], [], [2, 3], [0, 1, 2, 3, 4], [], [0, 1, 2, 3, 4, 5, 6]]) [⟨(some 21), none, .mv (.t 0)⟩,
     ⟨(some 22), none, .mk 2 16 [.r (.v (.int .i64 0)), .r (.v (.int .i64 0))] (.t 21)⟩,
     ⟨(some 23), none, .bsl 1 []⟩,
     ⟨(some 24), none, .mv (.t 4)⟩,
     ⟨(some 25), none, .app 1 8 false (.t 23) (.t 24)⟩,
     ⟨(some 26), none, .bld [.n 2, .n 3, .n 2, .n 1, .r (.v (.int .i64 0))] [(0, 1, (.t 22)), (3, 1, (.t 25))]⟩,
     ⟨(some 12), none, .alloc [.n 2, .n 3, .n 2, .n 1, .r (.v (.int .i64 0))]⟩,
     ⟨none, none, .st 5 (.t 12) (.t 26)⟩] [1, 2, 3, 10, 12])
  (.seq (.seq (.reg none [⟨(some 27), none, .mv (.t 1)⟩,
      ⟨(some 28), none, .len false (.t 27)⟩,
      ⟨(some 29), none, .mv (.k (V.i 0))⟩] [2, 3, 10, 12, 27, 28, 29])
   (.bl 0 (.seq (.reg none [⟨(some 30), none, .bin .lss .i (.t 29) (.t 28)⟩] [2, 3, 10, 12, 27, 28, 29, 30])
    (.seq (.cond (.t 30)
      (.skip)
      (.exit 0))
    (.seq (.block 1 (.seq (.reg none [⟨(some 31), none, .ia 1 (.t 27) (.t 29)⟩,
         ⟨(some 32), none, .ld false 1 (.t 31)⟩,
         ⟨(some 14), none, .mv (.t 32)⟩] [2, 3, 10, 12, 14, 27, 28, 29])
      (.reg none [⟨(some 33), none, .fa 1 (.t 12)⟩,
        ⟨(some 34), none, .ld false 1 (.t 33)⟩,
        ⟨(some 35), none, .mv (.t 14)⟩,
        ⟨(some 36), none, .mv (.t 2)⟩,
        ⟨(some 37), none, .bld [.r (.v (.int .i64 0)), .r (.v (.int .i64 0)), .n 2] [(0, 1, (.t 35)), (1, 1, (.t 36))]⟩,
        ⟨(some 38), none, .bsl 3 [(.t 37)]⟩,
        ⟨(some 39), none, .app 3 40 true (.t 34) (.t 38)⟩,
        ⟨(some 40), none, .fa 1 (.t 12)⟩,
        ⟨none, none, .st 1 (.t 40) (.t 39)⟩] [2, 3, 10, 12, 27, 28, 29])))
    (.reg none [⟨(some 41), none, .bin .add .i (.t 29) (.k (V.i 1))⟩,
      ⟨(some 29), none, .mv (.t 41)⟩] [2, 3, 10, 12, 27, 28, 29]))))))
  (.seq (.seq (.reg none [⟨(some 42), none, .mv (.t 3)⟩,
      ⟨(some 43), none, .len false (.t 42)⟩,
      ⟨(some 44), none, .mv (.k (V.i 0))⟩] [10, 12, 42, 43, 44])
   (.bl 2 (.seq (.reg none [⟨(some 45), none, .bin .lss .i (.t 44) (.t 43)⟩] [10, 12, 42, 43, 44, 45])
    (.seq (.cond (.t 45)
      (.skip)
      (.exit 2))
    (.seq (.block 3 (.seq (.reg none [⟨(some 46), none, .ia 1 (.t 42) (.t 44)⟩,
         ⟨(some 47), none, .ld false 1 (.t 46)⟩,
         ⟨(some 16), none, .mv (.t 47)⟩] [10, 12, 16, 42, 43, 44])
      (.reg none [⟨(some 48), none, .fa 2 (.t 12)⟩,
        ⟨(some 49), none, .ld false 1 (.t 48)⟩,
        ⟨(some 50), none, .mv (.t 16)⟩,
        ⟨(some 51), none, .bld [.r (.v (.int .i64 0)), .n 2] [(0, 1, (.t 50))]⟩,
        ⟨(some 52), none, .bsl 2 [(.t 51)]⟩,
        ⟨(some 53), none, .app 2 32 true (.t 49) (.t 52)⟩,
        ⟨(some 54), none, .fa 2 (.t 12)⟩,
        ⟨none, none, .st 1 (.t 54) (.t 53)⟩] [10, 12, 42, 43, 44])))
    (.reg none [⟨(some 55), none, .bin .add .i (.t 44) (.k (V.i 1))⟩,
      ⟨(some 44), none, .mv (.t 55)⟩] [10, 12, 42, 43, 44]))))))
  (.seq (.seq (.reg none [⟨(some 56), none, .ld true 5 (.t 12)⟩,
      ⟨(some 57), none, .call 32 true [(.t 56)]⟩,
      ⟨(some 58), none, .not (.t 57)⟩] [10, 12, 58])
   (.cond (.t 58)
    (.seq (.reg none [⟨(some 59), none, .bld [.n 2, .n 3, .n 2, .n 1, .r (.v (.int .i64 0))] []⟩,
        ⟨none, none, .st 5 (.t 10) (.t 59)⟩,
        ⟨(some 11), none, .mv (.k (V.b false))⟩] [10, 11])
     (.ret))
    (.skip)))
  (.seq (.reg none [⟨(some 60), none, .ld true 5 (.t 12)⟩,
     ⟨none, none, .st 5 (.t 10) (.t 60)⟩,
     ⟨(some 11), none, .mv (.k (V.b true))⟩] [10, 11])
  (.ret)))))))
def rv46 : List RV := [.c 10 true 5, .t 11]
open Go.Proofs Go.IntWalk
set_option linter.unusedVariables false
set_option maxRecDepth 100000
set_option maxHeartbeats 4000000
def I_NewCentre_l2 (g : G) (t : TE) : List Int → List Inlet → Option (List Inlet)
  | [], w2 =>
    some w2
  | z2 :: ls2, w2 =>
    lP ([(Inlet.mk z2 [])]) fun (l6 : List Inlet) =>
    gd (((w2.length + l6.length) * 32 ≤ 70368744177664)) <|
    lP (w2 ++ l6) fun (l7 : List Inlet) =>
    I_NewCentre_l2 g t ls2 l7
def I_NewCentre_l1 (g : G) (t : TE) (a2 : Int) : List Int → List Chute → Option (List Chute)
  | [], w1 =>
    some w1
  | z1 :: ls1, w1 =>
    lP ([(Chute.mk z1 a2 [])]) fun (l4 : List Chute) =>
    gd (((w1.length + l4.length) * 40 ≤ 70368744177664)) <|
    lP (w1 ++ l4) fun (l5 : List Chute) =>
    I_NewCentre_l1 g t a2 ls1 l5
def I_NewCentre (g : G) (t : TE) (a0 : Int) (a1 : List Int) (a2 : Int) (a3 : List Int) (a4 : List Int) : Option (Centre × Bool) :=
  lP (I_within g t a0 2 24) fun x1 =>
  br x1
  (
   gd (((0 : Int) ≤ a0 ∧ 16 * a0 ≤ 70368744177664 ∧ a0 ≤ 4611686018427387904)) <|
   lP (List.replicate (g.nat a0) (Item.mk 0 0)) fun (l1 : List Item) =>
   lP ([]) fun (l2 : List Int) =>
   gd (((l2.length + a4.length) * 8 ≤ 70368744177664)) <|
   lP (l2 ++ a4) fun (l3 : List Int) =>
   cl (I_NewCentre_l1 g t a2 a1 []) fun y1 =>
   cl (I_NewCentre_l2 g t a3 []) fun y2 =>
   cl (I_IsCentre g t (Centre.mk l1 y1 y2 l3 0)) fun x2 =>
   br x2
   (
    some (((Centre.mk l1 y1 y2 l3 0), true)))
   (
    some (((Centre.mk [] [] [] [] 0), false))))
  (
   some (((Centre.mk [] [] [] [] 0), false)))
theorem fit46 : codeFit Try.prog Try.f46.ntmps (Try.f46.body.getD .skip) ir46 = true := by kernel_rfl
theorem c_I_NewCentre {g : G} {t : TE} {a0 : Int} {a1 : List Int} {a2 : Int} {a3 : List Int} {a4 : List Int} {r : Centre × Bool} (hg : g = G.real) (ht : t = TE.real) (h : I_NewCentre g t a0 a1 a2 a3 a4 = some r) : Fn Try.prog 46 [.c (.v (.int .i64 a0)), .c (.s 1 (t.r_I64 a1)), .c (.v (.int .i64 a2)), .c (.s 1 (t.r_I64 a3)), .c (.s 1 (t.r_I64 a4))] (.u [.g (Centre.ds t r.1), .c (.r (.v (.bool r.2)))]) := by
  obtain ⟨X, hX⟩ := hide (.u [.g (Centre.ds t r.1), .c (.r (.v (.bool r.2)))] : X)
  rw [← hX]
  refine fn_of (rvs := rv46) (j := ir46) Try.func46 rfl fit46 (Nat.le_of_ble_eq_true rfl) (by kernel_rfl) prog_mixed ?_
  intro g2 F hg2 hF
  obtain rfl : g2 = g := hg2.unique.trans hg.symm
  clear hg2
  obtain ⟨wrap, lt, le, eq, quo, rem, band, bor, bxor, shl, shr, nat, int, add, sub, mul, cat, seq, slt, sub3, byte, llen, nadd, nsub, dlen, dapp, dset, drep, rd, rda, up, rsub, dsub, all, sle, slen, hasI, putI, hasS, putS, imin, imax, fzc⟩ := g2
  obtain ⟨r_Item, d_Item, r_Chute, d_Chute, r_Inlet, d_Inlet, r_I64, d_I64, r_U8, d_U8, d_InletF⟩ := t
  have hnil_Item : d_Item [] = [] := d_nil_Item ht
  have hnil_Chute : d_Chute [] = [] := d_nil_Chute ht
  have hnil_Inlet : d_Inlet [] = [] := d_nil_Inlet ht
  have hnil_I64 : d_I64 [] = [] := d_nil_I64 ht
  have hnil_U8 : d_U8 [] = [] := d_nil_U8 ht
  unfold I_NewCentre at h
  try dsimp only at h
  cbv
  obtain ⟨x1, hx1, h⟩ := of_lP h
  try dsimp only at h
  refine ACall.mk _ _ rfl (hF _ _ _ (c_I_within hg ht hx1)) (.inl rfl) (Nat.le_of_ble_eq_true rfl) ?_
  cbv
  cases hb1 : x1 with
  | true =>
    rw [br_true hb1] at h
    cbv
    obtain ⟨hc4, h⟩ := of_gd h
    refine AStep.mk (mk_ok hc4) ?_
    cbv
    obtain ⟨l1, hl1, h⟩ := of_lP h
    try dsimp only at h
    refine ANew.mk (d_Item l1) (dlen (d_Item l1)) (by rw [← hl1]; exact drep_Item hg ht _ (Item.mk 0 0)) (by rw [← hl1]; exact drepn_Item hg ht _ (Item.mk 0 0)) ?_
    cbv
    obtain ⟨l2, hl2, h⟩ := of_lP h
    try dsimp only at h
    refine ANew.mk (d_I64 l2) (dlen (d_I64 l2)) (by rw [← hl2]; exact lit_I64 hg ht []) (by rw [← hl2]; exact litn_I64 hg ht []) ?_
    cbv
    obtain ⟨hc3, h⟩ := of_gd h
    refine AStep.mk (app_ok_I64 hg ht (dlen_I64 hg ht _) (up_I64 hg ht _) hc3) ?_
    cbv
    obtain ⟨l3, hl3, h⟩ := of_lP h
    try dsimp only at h
    refine ANew.mk (d_I64 l3) (dlen (d_I64 l3)) (by rw [← hl3]; exact app_I64 hg ht (dlen_I64 hg ht _) (up_I64 hg ht _)) (by rw [← hl3]; exact appl_I64 hg ht (dlen_I64 hg ht _) (up_I64 hg ht _)) ?_
    cbv
    obtain ⟨o1, ho1, h⟩ := of_cl h
    try dsimp only at h
    try rw [hg] at ho1
    try rw [ht] at ho1
    refine ABL.mk { p : Nat × Int × List Chute // p.1 ≤ a1.length ∧ p.2.1 = ((p.1 : Nat) : Int) ∧ I_NewCentre_l1 G.real TE.real a2 (List.drop p.1 a1) p.2.2 = some o1 } (fun ⟨⟨k1, v1, w1⟩, _⟩ => ({ sl := [(2, .c (.r (.v (.int .i64 a2)))), (3, .c (.r (.s 1 (r_I64 a3)))), (10, .c (.p 0 5 0 0)), (12, .c (.p 1 5 0 0)), (27, .c (.r (.s 1 (r_I64 a1)))), (28, .c (.r (.v (.int .i64 (llen (r_I64 a1)))))), (29, .c (.r (.v (.int .i64 v1))))], tab := [(0, some (.foc 5 [] [.n 2, .n 3, .n 2, .n 1, .r (.v (.int .i64 0))] [])), (1, some (.foc 5 [] [.f 2 2 0 (dlen (d_Item l1)), .f 3 3 0 (dlen (d_Chute w1)), .n 2, .f 4 1 0 (dlen (d_I64 l3)), .r (.v (.int .i64 0))] [])), (2, some (.arr 2 (d_Item l1))), (3, some (.arr 3 (d_Chute w1))), (4, some (.arr 1 (d_I64 l3)))] } : St)) 5 (fun p => a1.length - p.1.1) ⟨(0, 0, []), Nat.zero_le _, rfl, ho1⟩ (List Chute) (fun y1 => ({ sl := [(3, .c (.r (.s 1 (r_I64 a3)))), (10, .c (.p 0 5 0 0)), (12, .c (.p 1 5 0 0))], tab := [(0, some (.foc 5 [] [.n 2, .n 3, .n 2, .n 1, .r (.v (.int .i64 0))] [])), (1, some (.foc 5 [] [.f 2 2 0 (dlen (d_Item l1)), .f 3 3 0 (dlen (d_Chute y1)), .n 2, .f 4 1 0 (dlen (d_I64 l3)), .r (.v (.int .i64 0))] [])), (2, some (.arr 2 (d_Item l1))), (3, some (.arr 3 (d_Chute y1))), (4, some (.arr 1 (d_I64 l3)))] } : St)) 5 (fun y => o1 = y) ?_ ?_ ?_
    · refine Wk.of [(0, some 0), (1, some 176), (2, some 96), (3, none), (4, some 144)] rfl rfl ?_ ?_
      · cbv
        all_goals try rw [show dlen (d_Chute []) = 0 from dlen_nil_Chute hg ht]
        all_goals try rw [hnil_Chute]
        all_goals exact ⟨⟨_, rfl, rfl⟩, ⟨_, rfl, rfl⟩, ⟨_, rfl, rfl⟩, ⟨_, rfl, rfl⟩, ⟨_, rfl, rfl⟩, ⟨_, rfl, rfl⟩, ⟨_, rfl, rfl⟩, trivial⟩
      · cbv
        all_goals try rw [show dlen (d_Chute []) = 0 from dlen_nil_Chute hg ht]
        all_goals try rw [hnil_Chute]
        all_goals exact ⟨⟨_, rfl, _, rfl, rfl, rfl, rfl, rfl, rfl, trivial⟩, ⟨_, rfl, _, rfl, rfl, ⟨⟨_, rfl⟩, rfl, rfl⟩, rfl, rfl, rfl, trivial⟩, ⟨_, rfl, rfl⟩, ⟨_, rfl⟩, ⟨_, rfl, rfl⟩, trivial⟩
    · rintro ⟨⟨k1, v1, w1⟩, hk1, hi1, h_1⟩ hq1
      have hm1 := (hq1.1 27 _ _ rfl)
      try dsimp only at hk1 hi1 h_1
      clear hq1
      cbv
      by_cases hc1_ : k1 < a1.length
      · have hb2 : lt v1 (llen (r_I64 a1)) = true := ltL_true_I64 hg ht hi1 hc1_
        have hs1 := stepL_I64 hg ht hi1 hc1_ hm1
        obtain ⟨z1, hz1⟩ := some_of_lt hc1_
        rw [drop_of_some hz1] at h_1
        rw [I_NewCentre_l1] at h_1
        try rw [← hg] at h_1
        try rw [← ht] at h_1
        try dsimp only at h_1
        rw [hb2]
        cbv
        refine AStep.mk (nn_L hi1) ?_
        cbv
        refine AGet.mk _ (r_getL_I64 hg ht hi1 hz1) ?_
        cbv
        obtain ⟨l4, hl4, h_1⟩ := of_lP h_1
        try dsimp only at h_1
        refine ANew.mk (d_Chute l4) (dlen (d_Chute l4)) (by rw [← hl4]; have e := lit_Chute hg ht [(Chute.mk z1 a2 [])]; dsimp only [List.map, Chute.ds] at e; (try simp only [hnil_Item, hnil_Chute, hnil_Inlet, hnil_I64, hnil_U8] at e); exact e) (by rw [← hl4]; exact litn_Chute hg ht [(Chute.mk z1 a2 [])]) ?_
        cbv
        obtain ⟨hc1, h_1⟩ := of_gd h_1
        refine AStep.mk ⟨⟨rfl, (dlen_Chute hg ht _)⟩, (app_ok_Chute hg ht (dlen_Chute hg ht _) rfl hc1)⟩ ?_
        cbv
        obtain ⟨l5, hl5, h_1⟩ := of_lP h_1
        try dsimp only at h_1
        refine ANew.mk (d_Chute l5) (dlen (d_Chute l5)) (by rw [← hl5]; exact app_Chute hg ht (dlen_Chute hg ht _) rfl) (by rw [← hl5]; exact appl_Chute hg ht (dlen_Chute hg ht _) rfl) ?_
        cbv
        try rw [hg] at h_1
        try rw [ht] at h_1
        refine ⟨⟨(k1 + 1, (wrap .i64 (add v1 1)), l5), hc1_, hs1, h_1⟩, Wk.of [(0, some 0), (1, some 1), (2, some 2), (3, some 165), (4, some 4)] rfl rfl ?_ ?_, meas_L hc1_⟩
        · cbv
          all_goals exact ⟨⟨_, rfl, rfl⟩, ⟨_, rfl, rfl⟩, ⟨_, rfl, rfl⟩, ⟨_, rfl, rfl⟩, ⟨_, rfl, rfl⟩, ⟨_, rfl, rfl⟩, ⟨_, rfl, rfl⟩, trivial⟩
        · cbv
          all_goals exact ⟨⟨_, rfl, _, rfl, rfl, rfl, rfl, rfl, rfl, trivial⟩, ⟨_, rfl, _, rfl, rfl, rfl, rfl, rfl, rfl, trivial⟩, ⟨_, rfl, rfl⟩, ⟨_, rfl, rfl⟩, ⟨_, rfl, rfl⟩, trivial⟩
      · have hb2 : lt v1 (llen (r_I64 a1)) = false := ltL_false_I64 hg ht hi1 hc1_
        rw [List.drop_of_length_le (Nat.le_of_not_lt hc1_)] at h_1
        rw [I_NewCentre_l1] at h_1
        try rw [← hg] at h_1
        try rw [← ht] at h_1
        try dsimp only at h_1
        rw [hb2]
        cbv
        refine ⟨w1, Wk.of [(0, some 0), (1, some 1), (2, some 2), (3, some 3), (4, some 4)] rfl rfl ?_ ?_, (Option.some.inj h_1).symm⟩
        · cbv
          all_goals exact ⟨⟨_, rfl, rfl⟩, ⟨_, rfl, rfl⟩, ⟨_, rfl, rfl⟩, trivial⟩
        · cbv
          all_goals exact ⟨⟨_, rfl, _, rfl, rfl, rfl, rfl, rfl, rfl, trivial⟩, ⟨_, rfl, _, rfl, rfl, rfl, rfl, rfl, rfl, trivial⟩, ⟨_, rfl, rfl⟩, ⟨_, rfl, rfl⟩, ⟨_, rfl, rfl⟩, trivial⟩
    · rintro y1 hy1
      replace hy1 := hy1.symm
      subst hy1
      try dsimp only [lr, lrL, lrp, lrpL] at h
      cbv
      obtain ⟨o2, ho2, h⟩ := of_cl h
      try dsimp only at h
      try rw [hg] at ho2
      try rw [ht] at ho2
      refine ABL.mk { p : Nat × Int × List Inlet // p.1 ≤ a3.length ∧ p.2.1 = ((p.1 : Nat) : Int) ∧ I_NewCentre_l2 G.real TE.real (List.drop p.1 a3) p.2.2 = some o2 } (fun ⟨⟨k2, v2, w2⟩, _⟩ => ({ sl := [(10, .c (.p 0 5 0 0)), (12, .c (.p 1 5 0 0)), (42, .c (.r (.s 1 (r_I64 a3)))), (43, .c (.r (.v (.int .i64 (llen (r_I64 a3)))))), (44, .c (.r (.v (.int .i64 v2))))], tab := [(0, some (.foc 5 [] [.n 2, .n 3, .n 2, .n 1, .r (.v (.int .i64 0))] [])), (1, some (.foc 5 [] [.f 2 2 0 (dlen (d_Item l1)), .f 3 3 0 (dlen (d_Chute y1)), .f 4 2 0 (dlen (d_Inlet w2)), .f 5 1 0 (dlen (d_I64 l3)), .r (.v (.int .i64 0))] [])), (2, some (.arr 2 (d_Item l1))), (3, some (.arr 3 (d_Chute y1))), (4, some (.arr 2 (d_Inlet w2))), (5, some (.arr 1 (d_I64 l3)))] } : St)) 6 (fun p => a3.length - p.1.1) ⟨(0, 0, []), Nat.zero_le _, rfl, ho2⟩ (List Inlet) (fun y2 => ({ sl := [(10, .c (.p 0 5 0 0)), (12, .c (.p 1 5 0 0))], tab := [(0, some (.foc 5 [] [.n 2, .n 3, .n 2, .n 1, .r (.v (.int .i64 0))] [])), (1, some (.foc 5 [] [.f 2 2 0 (dlen (d_Item l1)), .f 3 3 0 (dlen (d_Chute y1)), .f 4 2 0 (dlen (d_Inlet y2)), .f 5 1 0 (dlen (d_I64 l3)), .r (.v (.int .i64 0))] [])), (2, some (.arr 2 (d_Item l1))), (3, some (.arr 3 (d_Chute y1))), (4, some (.arr 2 (d_Inlet y2))), (5, some (.arr 1 (d_I64 l3)))] } : St)) 6 (fun y => o2 = y) ?_ ?_ ?_
      · refine Wk.of [(0, some 0), (1, some 1), (2, some 2), (3, some 3), (4, none), (5, some 4)] rfl rfl ?_ ?_
        · cbv
          all_goals try rw [show dlen (d_Inlet []) = 0 from dlen_nil_Inlet hg ht]
          all_goals try rw [hnil_Inlet]
          all_goals exact ⟨⟨_, rfl, rfl⟩, ⟨_, rfl, rfl⟩, ⟨_, rfl, rfl⟩, ⟨_, rfl, rfl⟩, ⟨_, rfl, rfl⟩, trivial⟩
        · cbv
          all_goals try rw [show dlen (d_Inlet []) = 0 from dlen_nil_Inlet hg ht]
          all_goals try rw [hnil_Inlet]
          all_goals exact ⟨⟨_, rfl, _, rfl, rfl, rfl, rfl, rfl, rfl, trivial⟩, ⟨_, rfl, _, rfl, rfl, rfl, ⟨⟨_, rfl⟩, rfl, rfl⟩, rfl, rfl, trivial⟩, ⟨_, rfl, rfl⟩, ⟨_, rfl, rfl⟩, ⟨_, rfl⟩, ⟨_, rfl, rfl⟩, trivial⟩
      · rintro ⟨⟨k2, v2, w2⟩, hk2, hi2, h_2⟩ hq2
        have hm2 := (hq2.1 42 _ _ rfl)
        try dsimp only at hk2 hi2 h_2
        clear hq2
        cbv
        by_cases hc2_ : k2 < a3.length
        · have hb3 : lt v2 (llen (r_I64 a3)) = true := ltL_true_I64 hg ht hi2 hc2_
          have hs2 := stepL_I64 hg ht hi2 hc2_ hm2
          obtain ⟨z2, hz2⟩ := some_of_lt hc2_
          rw [drop_of_some hz2] at h_2
          rw [I_NewCentre_l2] at h_2
          try rw [← hg] at h_2
          try rw [← ht] at h_2
          try dsimp only at h_2
          rw [hb3]
          cbv
          refine AStep.mk (nn_L hi2) ?_
          cbv
          refine AGet.mk _ (r_getL_I64 hg ht hi2 hz2) ?_
          cbv
          obtain ⟨l6, hl6, h_2⟩ := of_lP h_2
          try dsimp only at h_2
          refine ANew.mk (d_Inlet l6) (dlen (d_Inlet l6)) (by rw [← hl6]; have e := lit_Inlet hg ht [(Inlet.mk z2 [])]; dsimp only [List.map, Inlet.ds] at e; (try simp only [hnil_Item, hnil_Chute, hnil_Inlet, hnil_I64, hnil_U8] at e); exact e) (by rw [← hl6]; exact litn_Inlet hg ht [(Inlet.mk z2 [])]) ?_
          cbv
          obtain ⟨hc2, h_2⟩ := of_gd h_2
          refine AStep.mk ⟨⟨rfl, (dlen_Inlet hg ht _)⟩, (app_ok_Inlet hg ht (dlen_Inlet hg ht _) rfl hc2)⟩ ?_
          cbv
          obtain ⟨l7, hl7, h_2⟩ := of_lP h_2
          try dsimp only at h_2
          refine ANew.mk (d_Inlet l7) (dlen (d_Inlet l7)) (by rw [← hl7]; exact app_Inlet hg ht (dlen_Inlet hg ht _) rfl) (by rw [← hl7]; exact appl_Inlet hg ht (dlen_Inlet hg ht _) rfl) ?_
          cbv
          try rw [hg] at h_2
          try rw [ht] at h_2
          refine ⟨⟨(k2 + 1, (wrap .i64 (add v2 1)), l7), hc2_, hs2, h_2⟩, Wk.of [(0, some 0), (1, some 1), (2, some 2), (3, some 3), (4, some 150), (5, some 5)] rfl rfl ?_ ?_, meas_L hc2_⟩
          · cbv
            all_goals exact ⟨⟨_, rfl, rfl⟩, ⟨_, rfl, rfl⟩, ⟨_, rfl, rfl⟩, ⟨_, rfl, rfl⟩, ⟨_, rfl, rfl⟩, trivial⟩
          · cbv
            all_goals exact ⟨⟨_, rfl, _, rfl, rfl, rfl, rfl, rfl, rfl, trivial⟩, ⟨_, rfl, _, rfl, rfl, rfl, rfl, rfl, rfl, trivial⟩, ⟨_, rfl, rfl⟩, ⟨_, rfl, rfl⟩, ⟨_, rfl, rfl⟩, ⟨_, rfl, rfl⟩, trivial⟩
        · have hb3 : lt v2 (llen (r_I64 a3)) = false := ltL_false_I64 hg ht hi2 hc2_
          rw [List.drop_of_length_le (Nat.le_of_not_lt hc2_)] at h_2
          rw [I_NewCentre_l2] at h_2
          try rw [← hg] at h_2
          try rw [← ht] at h_2
          try dsimp only at h_2
          rw [hb3]
          cbv
          refine ⟨w2, Wk.of [(0, some 0), (1, some 1), (2, some 2), (3, some 3), (4, some 4), (5, some 5)] rfl rfl ?_ ?_, (Option.some.inj h_2).symm⟩
          · cbv
            all_goals exact ⟨⟨_, rfl, rfl⟩, ⟨_, rfl, rfl⟩, trivial⟩
          · cbv
            all_goals exact ⟨⟨_, rfl, _, rfl, rfl, rfl, rfl, rfl, rfl, trivial⟩, ⟨_, rfl, _, rfl, rfl, rfl, rfl, rfl, rfl, trivial⟩, ⟨_, rfl, rfl⟩, ⟨_, rfl, rfl⟩, ⟨_, rfl, rfl⟩, ⟨_, rfl, rfl⟩, trivial⟩
      · rintro y2 hy2
        replace hy2 := hy2.symm
        subst hy2
        try dsimp only [lr, lrL, lrp, lrpL] at h
        cbv
        refine AStep.mk ⟨(lend_Item ht (dlen_Item hg ht _)), ⟨(lend_Chute ht (dlen_Chute hg ht _)), ⟨(lend_Inlet ht (dlen_Inlet hg ht _)), (lend_I64 ht (dlen_I64 hg ht _))⟩⟩⟩ ?_
        cbv
        obtain ⟨x2, hx2, h⟩ := of_cl h
        try dsimp only at h
        refine ACall.mk _ _ (by rw [show rd (d_Item l1) 0 (dlen (d_Item l1)) = r_Item l1 from rdw_Item hg ht (dlen_Item hg ht _), show rd (d_Chute y1) 0 (dlen (d_Chute y1)) = r_Chute y1 from rdw_Chute hg ht (dlen_Chute hg ht _), show rd (d_Inlet y2) 0 (dlen (d_Inlet y2)) = r_Inlet y2 from rdw_Inlet hg ht (dlen_Inlet hg ht _), show rd (d_I64 l3) 0 (dlen (d_I64 l3)) = r_I64 l3 from rdw_I64 hg ht (dlen_I64 hg ht _)]; try rfl) (hF _ _ _ (c_I_IsCentre hg ht hx2)) (.inr rfl) (Nat.le_of_ble_eq_true rfl) ?_
        cbv
        cases hb4 : x2 with
        | true =>
          rw [br_true hb4] at h
          cbv
          obtain rfl := Option.some.inj h
          exact ARet.mk ⟨⟨rfl, (dlen_Item hg ht _)⟩, ⟨⟨rfl, (dlen_Chute hg ht _)⟩, ⟨⟨rfl, (dlen_Inlet hg ht _)⟩, ⟨rfl, (dlen_I64 hg ht _)⟩⟩⟩⟩ hX.symm
        | false =>
          rw [br_false hb4] at h
          cbv
          obtain rfl := Option.some.inj h
          exact ARet.mk trivial (by rw [hX]; first | rfl | (simp only [Item.ds, Inlet.ds, Chute.ds, Centre.ds, Cur.ds, CentreF.ds, InletF.ds, hnil_Chute, hnil_I64, hnil_Inlet, hnil_Item]; try rfl))
  | false =>
    rw [br_false hb1] at h
    cbv
    obtain rfl := Option.some.inj h
    exact ARet.mk trivial (by rw [hX]; first | rfl | (simp only [Item.ds, Inlet.ds, Chute.ds, Centre.ds, Cur.ds, CentreF.ds, InletF.ds, hnil_Chute, hnil_I64, hnil_Inlet, hnil_Item]; try rfl))
end Go.Vs
