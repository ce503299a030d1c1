/- Part of the proofs of this seat's laws: Lag. No condition. -/
import Derived.Test.YtieeagobedjogaaTy
import Derived.Test.YtieeagobedjogaaTIRall
import Derived.Test.YtieeagobedjogaaLab
import Derived.Test.YtieeagobedjogaaLaa
import Derived.Test.YtieeagobedjogaaLac
set_option linter.unusedVariables false
set_option linter.unusedSimpArgs false
set_option linter.unusedSectionVars false
namespace Go.Vs
set_option maxRecDepth 100000
def ir44 : J :=
  .seq (.reg none [⟨(some 10), none, .alloc [.n 2, .n 3, .n 2, .n 1, .r (.v (.int .i64 0))]⟩,
     ⟨(some 11), none, .mv (.k (V.b false))⟩] [0, 1, 2, 3, 4, 10])
  (.seq (.seq (.reg none [⟨(some 15), none, .mv (.t 0)⟩,
      ⟨(some 16), none, .call 85 true [(.t 15), (.k (V.i 2)), (.k (V.i 24))]⟩,
      ⟨(some 17), none, .not (.t 16)⟩] [0, 1, 2, 3, 4, 10, 17])
   (.cond (.t 17)
    (.seq (.reg none [⟨(some 18), none, .bld [.n 2, .n 3, .n 2, .n 1, .r (.v (.int .i64 0))] []⟩,
        ⟨none, none, .st 5 (.t 10) (.t 18)⟩,
        ⟨(some 11), none, .mv (.k (V.b false))⟩] [10, 11])
     (.ret))
    (.skip)))
  (.seq (.reg (some [[], [0], [], [2], [0, 1, 2, 3], [], [0, 1, 2, 3, 4, 5]]) [⟨(some 19), none, .mv (.t 0)⟩,
     ⟨(some 20), none, .mk 2 16 [.r (.v (.int .i64 0)), .r (.v (.int .i64 0))] (.t 19)⟩,
     ⟨(some 21), none, .mv (.t 4)⟩,
     ⟨(some 22), none, .call 96 true [(.t 21)]⟩,
     ⟨(some 23), none, .bld [.n 2, .n 3, .n 2, .n 1, .r (.v (.int .i64 0))] [(0, 1, (.t 20)), (3, 1, (.t 22))]⟩,
     ⟨(some 12), none, .alloc [.n 2, .n 3, .n 2, .n 1, .r (.v (.int .i64 0))]⟩,
     ⟨none, none, .st 5 (.t 12) (.t 23)⟩] [1, 2, 3, 10, 12])
  (.seq (.seq (.reg none [⟨(some 13), none, .mv (.k (V.i 0))⟩] [1, 2, 3, 10, 12, 13])
   (.bl 0 (.seq (.seq (.reg none [⟨(some 24), none, .mv (.t 13)⟩,
        ⟨(some 25), none, .mv (.t 1)⟩,
        ⟨(some 26), none, .len false (.t 25)⟩,
        ⟨(some 27), none, .bin .lss .i (.t 24) (.t 26)⟩] [1, 2, 3, 10, 12, 13, 27])
     (.cond (.t 27)
      (.skip)
      (.exit 0)))
    (.seq (.block 1 (.reg (some [[], [0], [], [], [2, 3], [2, 3, 4], [], [2, 3, 4, 5, 6], [2, 3, 4, 5, 6, 7], [0, 1, 2, 3, 4, 5, 6, 7, 8], [0, 1, 2, 3, 4, 5, 6, 7, 8, 9], [0, 1, 2, 3, 4, 5, 6, 7, 8, 9, 10]]) [⟨(some 30), none, .fa 1 (.t 12)⟩,
        ⟨(some 31), none, .ld false 1 (.t 30)⟩,
        ⟨(some 32), none, .mv (.t 1)⟩,
        ⟨(some 33), none, .mv (.t 13)⟩,
        ⟨(some 34), none, .ia 1 (.t 32) (.t 33)⟩,
        ⟨(some 35), none, .ld false 1 (.t 34)⟩,
        ⟨(some 36), none, .mv (.t 2)⟩,
        ⟨(some 37), none, .bld [.r (.v (.int .i64 0)), .r (.v (.int .i64 0)), .n 2] [(0, 1, (.t 35)), (1, 1, (.t 36))]⟩,
        ⟨(some 38), none, .bsl 3 [(.t 37)]⟩,
        ⟨(some 39), none, .app 3 40 true (.t 31) (.t 38)⟩,
        ⟨(some 40), none, .fa 1 (.t 12)⟩,
        ⟨none, none, .st 1 (.t 40) (.t 39)⟩] [1, 2, 3, 10, 12, 13]))
    (.reg none [⟨(some 28), none, .mv (.t 13)⟩,
      ⟨(some 29), none, .bin .add .i (.t 28) (.k (V.i 1))⟩,
      ⟨(some 13), none, .mv (.t 29)⟩] [1, 2, 3, 10, 12, 13])))))
  (.seq (.seq (.reg none [⟨(some 14), none, .mv (.k (V.i 0))⟩] [3, 10, 12, 14])
   (.bl 2 (.seq (.seq (.reg none [⟨(some 41), none, .mv (.t 14)⟩,
        ⟨(some 42), none, .mv (.t 3)⟩,
        ⟨(some 43), none, .len false (.t 42)⟩,
        ⟨(some 44), none, .bin .lss .i (.t 41) (.t 43)⟩] [3, 10, 12, 14, 44])
     (.cond (.t 44)
      (.skip)
      (.exit 2)))
    (.seq (.block 3 (.reg (some [[], [0], [], [], [2, 3], [2, 3, 4], [2, 3, 4, 5], [2, 3, 4, 5, 6], [0, 1, 2, 3, 4, 5, 6, 7], [0, 1, 2, 3, 4, 5, 6, 7, 8], [0, 1, 2, 3, 4, 5, 6, 7, 8, 9]]) [⟨(some 47), none, .fa 2 (.t 12)⟩,
        ⟨(some 48), none, .ld false 1 (.t 47)⟩,
        ⟨(some 49), none, .mv (.t 3)⟩,
        ⟨(some 50), none, .mv (.t 14)⟩,
        ⟨(some 51), none, .ia 1 (.t 49) (.t 50)⟩,
        ⟨(some 52), none, .ld false 1 (.t 51)⟩,
        ⟨(some 53), none, .bld [.r (.v (.int .i64 0)), .n 2] [(0, 1, (.t 52))]⟩,
        ⟨(some 54), none, .bsl 2 [(.t 53)]⟩,
        ⟨(some 55), none, .app 2 32 true (.t 48) (.t 54)⟩,
        ⟨(some 56), none, .fa 2 (.t 12)⟩,
        ⟨none, none, .st 1 (.t 56) (.t 55)⟩] [3, 10, 12, 14]))
    (.reg none [⟨(some 45), none, .mv (.t 14)⟩,
      ⟨(some 46), none, .bin .add .i (.t 45) (.k (V.i 1))⟩,
      ⟨(some 14), none, .mv (.t 46)⟩] [3, 10, 12, 14])))))
  (.seq (.seq (.reg none [⟨(some 57), none, .ld true 5 (.t 12)⟩,
      ⟨(some 58), none, .call 31 true [(.t 57)]⟩,
      ⟨(some 59), none, .not (.t 58)⟩] [10, 12, 59])
   (.cond (.t 59)
    (.seq (.reg none [⟨(some 60), none, .bld [.n 2, .n 3, .n 2, .n 1, .r (.v (.int .i64 0))] []⟩,
        ⟨none, none, .st 5 (.t 10) (.t 60)⟩,
        ⟨(some 11), none, .mv (.k (V.b false))⟩] [10, 11])
     (.ret))
    (.skip)))
  (.seq (.reg none [⟨(some 61), none, .ld true 5 (.t 12)⟩,
     ⟨none, none, .st 5 (.t 10) (.t 61)⟩,
     ⟨(some 11), none, .mv (.k (V.b true))⟩] [10, 11])
  (.ret)))))))
def rv44 : List RV := [.c 10 true 5, .t 11]
open Go.Proofs Go.IntWalk
set_option linter.unusedVariables false
set_option maxRecDepth 100000
set_option maxHeartbeats 4000000
def S_NewCentre_l2 (g : G) (t : TE) : List Int → List Inlet → Option (List Inlet)
  | [], w2 =>
    some w2
  | z2 :: ls2, w2 =>
    lP ([(Inlet.mk z2 [])]) fun (l4 : List Inlet) =>
    gd (((w2.length + l4.length) * 32 ≤ 70368744177664)) <|
    lP (w2 ++ l4) fun (l5 : List Inlet) =>
    S_NewCentre_l2 g t ls2 l5
def S_NewCentre_l1 (g : G) (t : TE) (a2 : Int) : List Int → List Chute → Option (List Chute)
  | [], w1 =>
    some w1
  | z1 :: ls1, w1 =>
    lP ([(Chute.mk z1 a2 [])]) fun (l2 : List Chute) =>
    gd (((w1.length + l2.length) * 40 ≤ 70368744177664)) <|
    lP (w1 ++ l2) fun (l3 : List Chute) =>
    S_NewCentre_l1 g t a2 ls1 l3
def S_NewCentre (g : G) (t : TE) (a0 : Int) (a1 : List Int) (a2 : Int) (a3 : List Int) (a4 : List Int) : Option (Centre × Bool) :=
  lP (S_l1In g t a0 2 24) fun x1 =>
  br x1
  (
   gd (((0 : Int) ≤ a0 ∧ 16 * a0 ≤ 70368744177664 ∧ a0 ≤ 4611686018427387904)) <|
   lP (List.replicate (g.nat a0) (Item.mk 0 0)) fun (l1 : List Item) =>
   cl (S_l1Ints g t a4) fun x2 =>
   cl (S_NewCentre_l1 g t a2 a1 []) fun y1 =>
   cl (S_NewCentre_l2 g t a3 []) fun y2 =>
   cl (S_IsCentre g t (Centre.mk l1 y1 y2 x2 0)) fun x3 =>
   br x3
   (
    some (((Centre.mk l1 y1 y2 x2 0), true)))
   (
    some (((Centre.mk [] [] [] [] 0), false))))
  (
   some (((Centre.mk [] [] [] [] 0), false)))
theorem fit44 : codeFit Try.prog Try.f44.ntmps (Try.f44.body.getD .skip) ir44 = true := by kernel_rfl
theorem c_S_NewCentre {g : G} {t : TE} {a0 : Int} {a1 : List Int} {a2 : Int} {a3 : List Int} {a4 : List Int} {r : Centre × Bool} (hg : g = G.real) (ht : t = TE.real) (h : S_NewCentre g t a0 a1 a2 a3 a4 = some r) : Fn Try.prog 44 [.c (.v (.int .i64 a0)), .c (.s 1 (t.r_I64 a1)), .c (.v (.int .i64 a2)), .c (.s 1 (t.r_I64 a3)), .c (.s 1 (t.r_I64 a4))] (.u [.g (Centre.ds t r.1), .c (.r (.v (.bool r.2)))]) := by
  obtain ⟨X, hX⟩ := hide (.u [.g (Centre.ds t r.1), .c (.r (.v (.bool r.2)))] : X)
  rw [← hX]
  refine fn_of (rvs := rv44) (j := ir44) Try.func44 rfl fit44 (Nat.le_of_ble_eq_true rfl) (by kernel_rfl) prog_mixed ?_
  intro g2 F hg2 hF
  obtain rfl : g2 = g := hg2.unique.trans hg.symm
  clear hg2
  obtain ⟨wrap, lt, le, eq, quo, rem, band, bor, bxor, shl, shr, nat, int, add, sub, mul, cat, seq, slt, sub3, byte, llen, nadd, nsub, dlen, dapp, dset, drep, rd, rda, up, rsub, dsub, all, sle, slen, hasI, putI, hasS, putS, imin, imax, fzc⟩ := g2
  obtain ⟨r_Item, d_Item, r_Chute, d_Chute, r_Inlet, d_Inlet, r_I64, d_I64, r_U8, d_U8⟩ := t
  have hnil_Item : d_Item [] = [] := d_nil_Item ht
  have hnil_Chute : d_Chute [] = [] := d_nil_Chute ht
  have hnil_Inlet : d_Inlet [] = [] := d_nil_Inlet ht
  have hnil_I64 : d_I64 [] = [] := d_nil_I64 ht
  have hnil_U8 : d_U8 [] = [] := d_nil_U8 ht
  unfold S_NewCentre at h
  try dsimp only at h
  cbv
  obtain ⟨x1, hx1, h⟩ := of_lP h
  try dsimp only at h
  refine ACall.mk _ _ rfl (hF _ _ _ (c_S_l1In hg ht hx1)) (.inl rfl) (Nat.le_of_ble_eq_true rfl) ?_
  cbv
  cases hb1 : x1 with
  | true =>
    rw [br_true hb1] at h
    cbv
    obtain ⟨hc3, h⟩ := of_gd h
    refine AStep.mk (mk_ok hc3) ?_
    cbv
    obtain ⟨l1, hl1, h⟩ := of_lP h
    try dsimp only at h
    refine ANew.mk (d_Item l1) (dlen (d_Item l1)) (by rw [← hl1]; exact drep_Item hg ht _ (Item.mk 0 0)) (by rw [← hl1]; exact drepn_Item hg ht _ (Item.mk 0 0)) ?_
    cbv
    obtain ⟨x2, hx2, h⟩ := of_cl h
    try dsimp only at h
    refine ACall.mk _ _ rfl (hF _ _ _ (c_S_l1Ints hg ht hx2)) (.inl rfl) (Nat.le_of_ble_eq_true rfl) ?_
    cbv
    obtain ⟨o1, ho1, h⟩ := of_cl h
    try dsimp only at h
    try rw [hg] at ho1
    try rw [ht] at ho1
    refine ABL.mk { p : Nat × Int × List Chute // p.1 ≤ a1.length ∧ p.2.1 = ((p.1 : Nat) : Int) ∧ S_NewCentre_l1 G.real TE.real a2 (List.drop p.1 a1) p.2.2 = some o1 } (fun ⟨⟨k1, v1, w1⟩, _⟩ => ({ sl := [(1, .c (.r (.s 1 (r_I64 a1)))), (2, .c (.r (.v (.int .i64 a2)))), (3, .c (.r (.s 1 (r_I64 a3)))), (10, .c (.p 0 5 0 0)), (12, .c (.p 1 5 0 0)), (13, .c (.r (.v (.int .i64 v1))))], tab := [(0, some (.foc 5 [] [.n 2, .n 3, .n 2, .n 1, .r (.v (.int .i64 0))] [])), (1, some (.foc 5 [] [.f 2 2 0 (dlen (d_Item l1)), .f 3 3 0 (dlen (d_Chute w1)), .n 2, .f 4 1 0 (dlen (d_I64 x2)), .r (.v (.int .i64 0))] [])), (2, some (.arr 2 (d_Item l1))), (3, some (.arr 3 (d_Chute w1))), (4, some (.arr 1 (d_I64 x2)))] } : St)) 5 (fun p => a1.length - p.1.1) ⟨(0, 0, []), Nat.zero_le _, rfl, ho1⟩ (List Chute) (fun y1 => ({ sl := [(3, .c (.r (.s 1 (r_I64 a3)))), (10, .c (.p 0 5 0 0)), (12, .c (.p 1 5 0 0))], tab := [(0, some (.foc 5 [] [.n 2, .n 3, .n 2, .n 1, .r (.v (.int .i64 0))] [])), (1, some (.foc 5 [] [.f 2 2 0 (dlen (d_Item l1)), .f 3 3 0 (dlen (d_Chute y1)), .n 2, .f 4 1 0 (dlen (d_I64 x2)), .r (.v (.int .i64 0))] [])), (2, some (.arr 2 (d_Item l1))), (3, some (.arr 3 (d_Chute y1))), (4, some (.arr 1 (d_I64 x2)))] } : St)) 5 (fun y => o1 = y) ?_ ?_ ?_
    · refine Wk.of [(0, some 0), (1, some 160), (2, some 96), (3, none), (4, some 128)] rfl rfl ?_ ?_
      · cbv
        all_goals try rw [show dlen (d_Chute []) = 0 from dlen_nil_Chute hg ht]
        all_goals try rw [hnil_Chute]
        all_goals exact ⟨⟨_, rfl, rfl⟩, ⟨_, rfl, rfl⟩, ⟨_, rfl, rfl⟩, ⟨_, rfl, rfl⟩, ⟨_, rfl, rfl⟩, ⟨_, rfl, rfl⟩, trivial⟩
      · cbv
        all_goals try rw [show dlen (d_Chute []) = 0 from dlen_nil_Chute hg ht]
        all_goals try rw [hnil_Chute]
        all_goals exact ⟨⟨_, rfl, _, rfl, rfl, rfl, rfl, rfl, rfl, trivial⟩, ⟨_, rfl, _, rfl, rfl, ⟨⟨_, rfl⟩, rfl, rfl⟩, rfl, rfl, rfl, trivial⟩, ⟨_, rfl, rfl⟩, ⟨_, rfl⟩, ⟨_, rfl, rfl⟩, trivial⟩
    · rintro ⟨⟨k1, v1, w1⟩, hk1, hi1, h_1⟩ hq1
      have hm1 := (hq1.1 1 _ _ rfl)
      try dsimp only at hk1 hi1 h_1
      clear hq1
      cbv
      by_cases hc1_ : k1 < a1.length
      · have hb2 : lt v1 (llen (r_I64 a1)) = true := ltL_true_I64 hg ht hi1 hc1_
        have hs1 := stepL_I64 hg ht hi1 hc1_ hm1
        obtain ⟨z1, hz1⟩ := some_of_lt hc1_
        rw [drop_of_some hz1] at h_1
        rw [S_NewCentre_l1] at h_1
        try rw [← hg] at h_1
        try rw [← ht] at h_1
        try dsimp only at h_1
        rw [hb2]
        cbv
        refine AStep.mk (nn_L hi1) ?_
        cbv
        refine AGet.mk _ (r_getL_I64 hg ht hi1 hz1) ?_
        cbv
        obtain ⟨l2, hl2, h_1⟩ := of_lP h_1
        try dsimp only at h_1
        refine ANew.mk (d_Chute l2) (dlen (d_Chute l2)) (by rw [← hl2]; have e := lit_Chute hg ht [(Chute.mk z1 a2 [])]; dsimp only [List.map, Chute.ds] at e; (try simp only [hnil_Item, hnil_Chute, hnil_Inlet, hnil_I64, hnil_U8] at e); exact e) (by rw [← hl2]; exact litn_Chute hg ht [(Chute.mk z1 a2 [])]) ?_
        cbv
        obtain ⟨hc1, h_1⟩ := of_gd h_1
        refine AStep.mk ⟨⟨rfl, (dlen_Chute hg ht _)⟩, (app_ok_Chute hg ht (dlen_Chute hg ht _) rfl hc1)⟩ ?_
        cbv
        obtain ⟨l3, hl3, h_1⟩ := of_lP h_1
        try dsimp only at h_1
        refine ANew.mk (d_Chute l3) (dlen (d_Chute l3)) (by rw [← hl3]; exact app_Chute hg ht (dlen_Chute hg ht _) rfl) (by rw [← hl3]; exact appl_Chute hg ht (dlen_Chute hg ht _) rfl) ?_
        cbv
        try rw [hg] at h_1
        try rw [ht] at h_1
        refine ⟨⟨(k1 + 1, (wrap .i64 (add v1 1)), l3), hc1_, hs1, h_1⟩, Wk.of [(0, some 0), (1, some 1), (2, some 2), (3, some 213), (4, some 4)] rfl rfl ?_ ?_, meas_L hc1_⟩
        · cbv
          all_goals exact ⟨⟨_, rfl, rfl⟩, ⟨_, rfl, rfl⟩, ⟨_, rfl, rfl⟩, ⟨_, rfl, rfl⟩, ⟨_, rfl, rfl⟩, ⟨_, rfl, rfl⟩, trivial⟩
        · cbv
          all_goals exact ⟨⟨_, rfl, _, rfl, rfl, rfl, rfl, rfl, rfl, trivial⟩, ⟨_, rfl, _, rfl, rfl, rfl, rfl, rfl, rfl, trivial⟩, ⟨_, rfl, rfl⟩, ⟨_, rfl, rfl⟩, ⟨_, rfl, rfl⟩, trivial⟩
      · have hb2 : lt v1 (llen (r_I64 a1)) = false := ltL_false_I64 hg ht hi1 hc1_
        rw [List.drop_of_length_le (Nat.le_of_not_lt hc1_)] at h_1
        rw [S_NewCentre_l1] at h_1
        try rw [← hg] at h_1
        try rw [← ht] at h_1
        try dsimp only at h_1
        rw [hb2]
        cbv
        refine ⟨w1, Wk.of [(0, some 0), (1, some 1), (2, some 2), (3, some 3), (4, some 4)] rfl rfl ?_ ?_, (Option.some.inj h_1).symm⟩
        · cbv
          all_goals exact ⟨⟨_, rfl, rfl⟩, ⟨_, rfl, rfl⟩, ⟨_, rfl, rfl⟩, trivial⟩
        · cbv
          all_goals exact ⟨⟨_, rfl, _, rfl, rfl, rfl, rfl, rfl, rfl, trivial⟩, ⟨_, rfl, _, rfl, rfl, rfl, rfl, rfl, rfl, trivial⟩, ⟨_, rfl, rfl⟩, ⟨_, rfl, rfl⟩, ⟨_, rfl, rfl⟩, trivial⟩
    · rintro y1 hy1
      replace hy1 := hy1.symm
      subst hy1
      try dsimp only [lr, lrL, lrp, lrpL] at h
      cbv
      obtain ⟨o2, ho2, h⟩ := of_cl h
      try dsimp only at h
      try rw [hg] at ho2
      try rw [ht] at ho2
      refine ABL.mk { p : Nat × Int × List Inlet // p.1 ≤ a3.length ∧ p.2.1 = ((p.1 : Nat) : Int) ∧ S_NewCentre_l2 G.real TE.real (List.drop p.1 a3) p.2.2 = some o2 } (fun ⟨⟨k2, v2, w2⟩, _⟩ => ({ sl := [(3, .c (.r (.s 1 (r_I64 a3)))), (10, .c (.p 0 5 0 0)), (12, .c (.p 1 5 0 0)), (14, .c (.r (.v (.int .i64 v2))))], tab := [(0, some (.foc 5 [] [.n 2, .n 3, .n 2, .n 1, .r (.v (.int .i64 0))] [])), (1, some (.foc 5 [] [.f 2 2 0 (dlen (d_Item l1)), .f 3 3 0 (dlen (d_Chute y1)), .f 4 2 0 (dlen (d_Inlet w2)), .f 5 1 0 (dlen (d_I64 x2)), .r (.v (.int .i64 0))] [])), (2, some (.arr 2 (d_Item l1))), (3, some (.arr 3 (d_Chute y1))), (4, some (.arr 2 (d_Inlet w2))), (5, some (.arr 1 (d_I64 x2)))] } : St)) 6 (fun p => a3.length - p.1.1) ⟨(0, 0, []), Nat.zero_le _, rfl, ho2⟩ (List Inlet) (fun y2 => ({ sl := [(10, .c (.p 0 5 0 0)), (12, .c (.p 1 5 0 0))], tab := [(0, some (.foc 5 [] [.n 2, .n 3, .n 2, .n 1, .r (.v (.int .i64 0))] [])), (1, some (.foc 5 [] [.f 2 2 0 (dlen (d_Item l1)), .f 3 3 0 (dlen (d_Chute y1)), .f 4 2 0 (dlen (d_Inlet y2)), .f 5 1 0 (dlen (d_I64 x2)), .r (.v (.int .i64 0))] [])), (2, some (.arr 2 (d_Item l1))), (3, some (.arr 3 (d_Chute y1))), (4, some (.arr 2 (d_Inlet y2))), (5, some (.arr 1 (d_I64 x2)))] } : St)) 6 (fun y => o2 = y) ?_ ?_ ?_
      · refine Wk.of [(0, some 0), (1, some 1), (2, some 2), (3, some 3), (4, none), (5, some 4)] rfl rfl ?_ ?_
        · cbv
          all_goals try rw [show dlen (d_Inlet []) = 0 from dlen_nil_Inlet hg ht]
          all_goals try rw [hnil_Inlet]
          all_goals exact ⟨⟨_, rfl, rfl⟩, ⟨_, rfl, rfl⟩, ⟨_, rfl, rfl⟩, ⟨_, rfl, rfl⟩, trivial⟩
        · cbv
          all_goals try rw [show dlen (d_Inlet []) = 0 from dlen_nil_Inlet hg ht]
          all_goals try rw [hnil_Inlet]
          all_goals exact ⟨⟨_, rfl, _, rfl, rfl, rfl, rfl, rfl, rfl, trivial⟩, ⟨_, rfl, _, rfl, rfl, rfl, ⟨⟨_, rfl⟩, rfl, rfl⟩, rfl, rfl, trivial⟩, ⟨_, rfl, rfl⟩, ⟨_, rfl, rfl⟩, ⟨_, rfl⟩, ⟨_, rfl, rfl⟩, trivial⟩
      · rintro ⟨⟨k2, v2, w2⟩, hk2, hi2, h_2⟩ hq2
        have hm2 := (hq2.1 3 _ _ rfl)
        try dsimp only at hk2 hi2 h_2
        clear hq2
        cbv
        by_cases hc2_ : k2 < a3.length
        · have hb3 : lt v2 (llen (r_I64 a3)) = true := ltL_true_I64 hg ht hi2 hc2_
          have hs2 := stepL_I64 hg ht hi2 hc2_ hm2
          obtain ⟨z2, hz2⟩ := some_of_lt hc2_
          rw [drop_of_some hz2] at h_2
          rw [S_NewCentre_l2] at h_2
          try rw [← hg] at h_2
          try rw [← ht] at h_2
          try dsimp only at h_2
          rw [hb3]
          cbv
          refine AStep.mk (nn_L hi2) ?_
          cbv
          refine AGet.mk _ (r_getL_I64 hg ht hi2 hz2) ?_
          cbv
          obtain ⟨l4, hl4, h_2⟩ := of_lP h_2
          try dsimp only at h_2
          refine ANew.mk (d_Inlet l4) (dlen (d_Inlet l4)) (by rw [← hl4]; have e := lit_Inlet hg ht [(Inlet.mk z2 [])]; dsimp only [List.map, Inlet.ds] at e; (try simp only [hnil_Item, hnil_Chute, hnil_Inlet, hnil_I64, hnil_U8] at e); exact e) (by rw [← hl4]; exact litn_Inlet hg ht [(Inlet.mk z2 [])]) ?_
          cbv
          obtain ⟨hc2, h_2⟩ := of_gd h_2
          refine AStep.mk ⟨⟨rfl, (dlen_Inlet hg ht _)⟩, (app_ok_Inlet hg ht (dlen_Inlet hg ht _) rfl hc2)⟩ ?_
          cbv
          obtain ⟨l5, hl5, h_2⟩ := of_lP h_2
          try dsimp only at h_2
          refine ANew.mk (d_Inlet l5) (dlen (d_Inlet l5)) (by rw [← hl5]; exact app_Inlet hg ht (dlen_Inlet hg ht _) rfl) (by rw [← hl5]; exact appl_Inlet hg ht (dlen_Inlet hg ht _) rfl) ?_
          cbv
          try rw [hg] at h_2
          try rw [ht] at h_2
          refine ⟨⟨(k2 + 1, (wrap .i64 (add v2 1)), l5), hc2_, hs2, h_2⟩, Wk.of [(0, some 0), (1, some 1), (2, some 2), (3, some 3), (4, some 198), (5, some 5)] rfl rfl ?_ ?_, meas_L hc2_⟩
          · cbv
            all_goals exact ⟨⟨_, rfl, rfl⟩, ⟨_, rfl, rfl⟩, ⟨_, rfl, rfl⟩, ⟨_, rfl, rfl⟩, trivial⟩
          · cbv
            all_goals exact ⟨⟨_, rfl, _, rfl, rfl, rfl, rfl, rfl, rfl, trivial⟩, ⟨_, rfl, _, rfl, rfl, rfl, rfl, rfl, rfl, trivial⟩, ⟨_, rfl, rfl⟩, ⟨_, rfl, rfl⟩, ⟨_, rfl, rfl⟩, ⟨_, rfl, rfl⟩, trivial⟩
        · have hb3 : lt v2 (llen (r_I64 a3)) = false := ltL_false_I64 hg ht hi2 hc2_
          rw [List.drop_of_length_le (Nat.le_of_not_lt hc2_)] at h_2
          rw [S_NewCentre_l2] at h_2
          try rw [← hg] at h_2
          try rw [← ht] at h_2
          try dsimp only at h_2
          rw [hb3]
          cbv
          refine ⟨w2, Wk.of [(0, some 0), (1, some 1), (2, some 2), (3, some 3), (4, some 4), (5, some 5)] rfl rfl ?_ ?_, (Option.some.inj h_2).symm⟩
          · cbv
            all_goals exact ⟨⟨_, rfl, rfl⟩, ⟨_, rfl, rfl⟩, trivial⟩
          · cbv
            all_goals exact ⟨⟨_, rfl, _, rfl, rfl, rfl, rfl, rfl, rfl, trivial⟩, ⟨_, rfl, _, rfl, rfl, rfl, rfl, rfl, rfl, trivial⟩, ⟨_, rfl, rfl⟩, ⟨_, rfl, rfl⟩, ⟨_, rfl, rfl⟩, ⟨_, rfl, rfl⟩, trivial⟩
      · rintro y2 hy2
        replace hy2 := hy2.symm
        subst hy2
        try dsimp only [lr, lrL, lrp, lrpL] at h
        cbv
        refine AStep.mk ⟨(lend_Item ht (dlen_Item hg ht _)), ⟨(lend_Chute ht (dlen_Chute hg ht _)), ⟨(lend_Inlet ht (dlen_Inlet hg ht _)), (lend_I64 ht (dlen_I64 hg ht _))⟩⟩⟩ ?_
        cbv
        obtain ⟨x3, hx3, h⟩ := of_cl h
        try dsimp only at h
        refine ACall.mk _ _ (by rw [show rd (d_Item l1) 0 (dlen (d_Item l1)) = r_Item l1 from rdw_Item hg ht (dlen_Item hg ht _), show rd (d_Chute y1) 0 (dlen (d_Chute y1)) = r_Chute y1 from rdw_Chute hg ht (dlen_Chute hg ht _), show rd (d_Inlet y2) 0 (dlen (d_Inlet y2)) = r_Inlet y2 from rdw_Inlet hg ht (dlen_Inlet hg ht _), show rd (d_I64 x2) 0 (dlen (d_I64 x2)) = r_I64 x2 from rdw_I64 hg ht (dlen_I64 hg ht _)]; try rfl) (hF _ _ _ (c_S_IsCentre hg ht hx3)) (.inr rfl) (Nat.le_of_ble_eq_true rfl) ?_
        cbv
        cases hb4 : x3 with
        | true =>
          rw [br_true hb4] at h
          cbv
          obtain rfl := Option.some.inj h
          exact ARet.mk ⟨⟨rfl, (dlen_Item hg ht _)⟩, ⟨⟨rfl, (dlen_Chute hg ht _)⟩, ⟨⟨rfl, (dlen_Inlet hg ht _)⟩, ⟨rfl, (dlen_I64 hg ht _)⟩⟩⟩⟩ hX.symm
        | false =>
          rw [br_false hb4] at h
          cbv
          obtain rfl := Option.some.inj h
          exact ARet.mk trivial (by rw [hX]; first | rfl | (simp only [Item.ds, Chute.ds, Inlet.ds, Centre.ds, Cur.ds, hnil_Chute, hnil_I64, hnil_Inlet, hnil_Item]; try rfl))
  | false =>
    rw [br_false hb1] at h
    cbv
    obtain rfl := Option.some.inj h
    exact ARet.mk trivial (by rw [hX]; first | rfl | (simp only [Item.ds, Chute.ds, Inlet.ds, Centre.ds, Cur.ds, hnil_Chute, hnil_I64, hnil_Inlet, hnil_Item]; try rfl))
end Go.Vs
namespace Go.Vs
set_option maxRecDepth 100000
def ir46 : J :=
  .seq (.reg none [⟨(some 10), none, .alloc [.n 2, .n 3, .n 2, .n 1, .r (.v (.int .i64 0))]⟩,
     ⟨(some 11), none, .mv (.k (V.b false))⟩] [0, 1, 2, 3, 4, 10])
  (.seq (.seq (.reg none [⟨(some 17), none, .mv (.t 0)⟩,
      ⟨(some 18), none, .call 89 true [(.t 17), (.k (V.i 2)), (.k (V.i 24))]⟩,
      ⟨(some 19), none, .not (.t 18)⟩] [0, 1, 2, 3, 4, 10, 19])
   (.cond (.t 19)
    (.seq (.reg none [⟨(some 20), none, .bld [.n 2, .n 3, .n 2, .n 1, .r (.v (.int .i64 0))] []⟩,
        ⟨none, none, .st 5 (.t 10) (.t 20)⟩,
        ⟨(some 11), none, .mv (.k (V.b false))⟩] [10, 11])
     (.ret))
    (.skip)))
  (.seq (.reg (some [[], [0], [], [], [2, 3], [0, 1, 2, 3, 4], [], [0, 1, 2, 3, 4, 5, 6]]) [⟨(some 21), none, .mv (.t 0)⟩,
     ⟨(some 22), none, .mk 2 16 [.r (.v (.int .i64 0)), .r (.v (.int .i64 0))] (.t 21)⟩,
     ⟨(some 23), none, .bsl 1 []⟩,
     ⟨(some 24), none, .mv (.t 4)⟩,
     ⟨(some 25), none, .app 1 8 false (.t 23) (.t 24)⟩,
     ⟨(some 26), none, .bld [.n 2, .n 3, .n 2, .n 1, .r (.v (.int .i64 0))] [(0, 1, (.t 22)), (3, 1, (.t 25))]⟩,
     ⟨(some 12), none, .alloc [.n 2, .n 3, .n 2, .n 1, .r (.v (.int .i64 0))]⟩,
     ⟨none, none, .st 5 (.t 12) (.t 26)⟩] [1, 2, 3, 10, 12])
  (.seq (.seq (.reg none [⟨(some 27), none, .mv (.t 1)⟩,
      ⟨(some 28), none, .len false (.t 27)⟩,
      ⟨(some 29), none, .mv (.k (V.i 0))⟩] [2, 3, 10, 12, 27, 28, 29])
   (.bl 0 (.seq (.reg none [⟨(some 30), none, .bin .lss .i (.t 29) (.t 28)⟩] [2, 3, 10, 12, 27, 28, 29, 30])
    (.seq (.cond (.t 30)
      (.skip)
      (.exit 0))
    (.seq (.block 1 (.seq (.reg none [⟨(some 31), none, .ia 1 (.t 27) (.t 29)⟩,
         ⟨(some 32), none, .ld false 1 (.t 31)⟩,
         ⟨(some 14), none, .mv (.t 32)⟩] [2, 3, 10, 12, 14, 27, 28, 29])
      (.reg none [⟨(some 33), none, .fa 1 (.t 12)⟩,
        ⟨(some 34), none, .ld false 1 (.t 33)⟩,
        ⟨(some 35), none, .mv (.t 14)⟩,
        ⟨(some 36), none, .mv (.t 2)⟩,
        ⟨(some 37), none, .bld [.r (.v (.int .i64 0)), .r (.v (.int .i64 0)), .n 2] [(0, 1, (.t 35)), (1, 1, (.t 36))]⟩,
        ⟨(some 38), none, .bsl 3 [(.t 37)]⟩,
        ⟨(some 39), none, .app 3 40 true (.t 34) (.t 38)⟩,
        ⟨(some 40), none, .fa 1 (.t 12)⟩,
        ⟨none, none, .st 1 (.t 40) (.t 39)⟩] [2, 3, 10, 12, 27, 28, 29])))
    (.reg none [⟨(some 41), none, .bin .add .i (.t 29) (.k (V.i 1))⟩,
      ⟨(some 29), none, .mv (.t 41)⟩] [2, 3, 10, 12, 27, 28, 29]))))))
  (.seq (.seq (.reg none [⟨(some 42), none, .mv (.t 3)⟩,
      ⟨(some 43), none, .len false (.t 42)⟩,
      ⟨(some 44), none, .mv (.k (V.i 0))⟩] [10, 12, 42, 43, 44])
   (.bl 2 (.seq (.reg none [⟨(some 45), none, .bin .lss .i (.t 44) (.t 43)⟩] [10, 12, 42, 43, 44, 45])
    (.seq (.cond (.t 45)
      (.skip)
      (.exit 2))
    (.seq (.block 3 (.seq (.reg none [⟨(some 46), none, .ia 1 (.t 42) (.t 44)⟩,
         ⟨(some 47), none, .ld false 1 (.t 46)⟩,
         ⟨(some 16), none, .mv (.t 47)⟩] [10, 12, 16, 42, 43, 44])
      (.reg none [⟨(some 48), none, .fa 2 (.t 12)⟩,
        ⟨(some 49), none, .ld false 1 (.t 48)⟩,
        ⟨(some 50), none, .mv (.t 16)⟩,
        ⟨(some 51), none, .bld [.r (.v (.int .i64 0)), .n 2] [(0, 1, (.t 50))]⟩,
        ⟨(some 52), none, .bsl 2 [(.t 51)]⟩,
        ⟨(some 53), none, .app 2 32 true (.t 49) (.t 52)⟩,
        ⟨(some 54), none, .fa 2 (.t 12)⟩,
        ⟨none, none, .st 1 (.t 54) (.t 53)⟩] [10, 12, 42, 43, 44])))
    (.reg none [⟨(some 55), none, .bin .add .i (.t 44) (.k (V.i 1))⟩,
      ⟨(some 44), none, .mv (.t 55)⟩] [10, 12, 42, 43, 44]))))))
  (.seq (.seq (.reg none [⟨(some 56), none, .ld true 5 (.t 12)⟩,
      ⟨(some 57), none, .call 32 true [(.t 56)]⟩,
      ⟨(some 58), none, .not (.t 57)⟩] [10, 12, 58])
   (.cond (.t 58)
    (.seq (.reg none [⟨(some 59), none, .bld [.n 2, .n 3, .n 2, .n 1, .r (.v (.int .i64 0))] []⟩,
        ⟨none, none, .st 5 (.t 10) (.t 59)⟩,
        ⟨(some 11), none, .mv (.k (V.b false))⟩] [10, 11])
     (.ret))
    (.skip)))
  (.seq (.reg none [⟨(some 60), none, .ld true 5 (.t 12)⟩,
     ⟨none, none, .st 5 (.t 10) (.t 60)⟩,
     ⟨(some 11), none, .mv (.k (V.b true))⟩] [10, 11])
  (.ret)))))))
def rv46 : List RV := [.c 10 true 5, .t 11]
open Go.Proofs Go.IntWalk
set_option linter.unusedVariables false
set_option maxRecDepth 100000
set_option maxHeartbeats 4000000
def I_NewCentre_l2 (g : G) (t : TE) : List Int → List Inlet → Option (List Inlet)
  | [], w2 =>
    some w2
  | z2 :: ls2, w2 =>
    lP ([(Inlet.mk z2 [])]) fun (l6 : List Inlet) =>
    gd (((w2.length + l6.length) * 32 ≤ 70368744177664)) <|
    lP (w2 ++ l6) fun (l7 : List Inlet) =>
    I_NewCentre_l2 g t ls2 l7
def I_NewCentre_l1 (g : G) (t : TE) (a2 : Int) : List Int → List Chute → Option (List Chute)
  | [], w1 =>
    some w1
  | z1 :: ls1, w1 =>
    lP ([(Chute.mk z1 a2 [])]) fun (l4 : List Chute) =>
    gd (((w1.length + l4.length) * 40 ≤ 70368744177664)) <|
    lP (w1 ++ l4) fun (l5 : List Chute) =>
    I_NewCentre_l1 g t a2 ls1 l5
def I_NewCentre (g : G) (t : TE) (a0 : Int) (a1 : List Int) (a2 : Int) (a3 : List Int) (a4 : List Int) : Option (Centre × Bool) :=
  lP (I_within g t a0 2 24) fun x1 =>
  br x1
  (
   gd (((0 : Int) ≤ a0 ∧ 16 * a0 ≤ 70368744177664 ∧ a0 ≤ 4611686018427387904)) <|
   lP (List.replicate (g.nat a0) (Item.mk 0 0)) fun (l1 : List Item) =>
   lP ([]) fun (l2 : List Int) =>
   gd (((l2.length + a4.length) * 8 ≤ 70368744177664)) <|
   lP (l2 ++ a4) fun (l3 : List Int) =>
   cl (I_NewCentre_l1 g t a2 a1 []) fun y1 =>
   cl (I_NewCentre_l2 g t a3 []) fun y2 =>
   cl (I_IsCentre g t (Centre.mk l1 y1 y2 l3 0)) fun x2 =>
   br x2
   (
    some (((Centre.mk l1 y1 y2 l3 0), true)))
   (
    some (((Centre.mk [] [] [] [] 0), false))))
  (
   some (((Centre.mk [] [] [] [] 0), false)))
theorem fit46 : codeFit Try.prog Try.f46.ntmps (Try.f46.body.getD .skip) ir46 = true := by kernel_rfl
theorem c_I_NewCentre {g : G} {t : TE} {a0 : Int} {a1 : List Int} {a2 : Int} {a3 : List Int} {a4 : List Int} {r : Centre × Bool} (hg : g = G.real) (ht : t = TE.real) (h : I_NewCentre g t a0 a1 a2 a3 a4 = some r) : Fn Try.prog 46 [.c (.v (.int .i64 a0)), .c (.s 1 (t.r_I64 a1)), .c (.v (.int .i64 a2)), .c (.s 1 (t.r_I64 a3)), .c (.s 1 (t.r_I64 a4))] (.u [.g (Centre.ds t r.1), .c (.r (.v (.bool r.2)))]) := by
  obtain ⟨X, hX⟩ := hide (.u [.g (Centre.ds t r.1), .c (.r (.v (.bool r.2)))] : X)
  rw [← hX]
  refine fn_of (rvs := rv46) (j := ir46) Try.func46 rfl fit46 (Nat.le_of_ble_eq_true rfl) (by kernel_rfl) prog_mixed ?_
  intro g2 F hg2 hF
  obtain rfl : g2 = g := hg2.unique.trans hg.symm
  clear hg2
  obtain ⟨wrap, lt, le, eq, quo, rem, band, bor, bxor, shl, shr, nat, int, add, sub, mul, cat, seq, slt, sub3, byte, llen, nadd, nsub, dlen, dapp, dset, drep, rd, rda, up, rsub, dsub, all, sle, slen, hasI, putI, hasS, putS, imin, imax, fzc⟩ := g2
  obtain ⟨r_Item, d_Item, r_Chute, d_Chute, r_Inlet, d_Inlet, r_I64, d_I64, r_U8, d_U8⟩ := t
  have hnil_Item : d_Item [] = [] := d_nil_Item ht
  have hnil_Chute : d_Chute [] = [] := d_nil_Chute ht
  have hnil_Inlet : d_Inlet [] = [] := d_nil_Inlet ht
  have hnil_I64 : d_I64 [] = [] := d_nil_I64 ht
  have hnil_U8 : d_U8 [] = [] := d_nil_U8 ht
  unfold I_NewCentre at h
  try dsimp only at h
  cbv
  obtain ⟨x1, hx1, h⟩ := of_lP h
  try dsimp only at h
  refine ACall.mk _ _ rfl (hF _ _ _ (c_I_within hg ht hx1)) (.inl rfl) (Nat.le_of_ble_eq_true rfl) ?_
  cbv
  cases hb1 : x1 with
  | true =>
    rw [br_true hb1] at h
    cbv
    obtain ⟨hc4, h⟩ := of_gd h
    refine AStep.mk (mk_ok hc4) ?_
    cbv
    obtain ⟨l1, hl1, h⟩ := of_lP h
    try dsimp only at h
    refine ANew.mk (d_Item l1) (dlen (d_Item l1)) (by rw [← hl1]; exact drep_Item hg ht _ (Item.mk 0 0)) (by rw [← hl1]; exact drepn_Item hg ht _ (Item.mk 0 0)) ?_
    cbv
    obtain ⟨l2, hl2, h⟩ := of_lP h
    try dsimp only at h
    refine ANew.mk (d_I64 l2) (dlen (d_I64 l2)) (by rw [← hl2]; exact lit_I64 hg ht []) (by rw [← hl2]; exact litn_I64 hg ht []) ?_
    cbv
    obtain ⟨hc3, h⟩ := of_gd h
    refine AStep.mk (app_ok_I64 hg ht (dlen_I64 hg ht _) (up_I64 hg ht _) hc3) ?_
    cbv
    obtain ⟨l3, hl3, h⟩ := of_lP h
    try dsimp only at h
    refine ANew.mk (d_I64 l3) (dlen (d_I64 l3)) (by rw [← hl3]; exact app_I64 hg ht (dlen_I64 hg ht _) (up_I64 hg ht _)) (by rw [← hl3]; exact appl_I64 hg ht (dlen_I64 hg ht _) (up_I64 hg ht _)) ?_
    cbv
    obtain ⟨o1, ho1, h⟩ := of_cl h
    try dsimp only at h
    try rw [hg] at ho1
    try rw [ht] at ho1
    refine ABL.mk { p : Nat × Int × List Chute // p.1 ≤ a1.length ∧ p.2.1 = ((p.1 : Nat) : Int) ∧ I_NewCentre_l1 G.real TE.real a2 (List.drop p.1 a1) p.2.2 = some o1 } (fun ⟨⟨k1, v1, w1⟩, _⟩ => ({ sl := [(2, .c (.r (.v (.int .i64 a2)))), (3, .c (.r (.s 1 (r_I64 a3)))), (10, .c (.p 0 5 0 0)), (12, .c (.p 1 5 0 0)), (27, .c (.r (.s 1 (r_I64 a1)))), (28, .c (.r (.v (.int .i64 (llen (r_I64 a1)))))), (29, .c (.r (.v (.int .i64 v1))))], tab := [(0, some (.foc 5 [] [.n 2, .n 3, .n 2, .n 1, .r (.v (.int .i64 0))] [])), (1, some (.foc 5 [] [.f 2 2 0 (dlen (d_Item l1)), .f 3 3 0 (dlen (d_Chute w1)), .n 2, .f 4 1 0 (dlen (d_I64 l3)), .r (.v (.int .i64 0))] [])), (2, some (.arr 2 (d_Item l1))), (3, some (.arr 3 (d_Chute w1))), (4, some (.arr 1 (d_I64 l3)))] } : St)) 5 (fun p => a1.length - p.1.1) ⟨(0, 0, []), Nat.zero_le _, rfl, ho1⟩ (List Chute) (fun y1 => ({ sl := [(3, .c (.r (.s 1 (r_I64 a3)))), (10, .c (.p 0 5 0 0)), (12, .c (.p 1 5 0 0))], tab := [(0, some (.foc 5 [] [.n 2, .n 3, .n 2, .n 1, .r (.v (.int .i64 0))] [])), (1, some (.foc 5 [] [.f 2 2 0 (dlen (d_Item l1)), .f 3 3 0 (dlen (d_Chute y1)), .n 2, .f 4 1 0 (dlen (d_I64 l3)), .r (.v (.int .i64 0))] [])), (2, some (.arr 2 (d_Item l1))), (3, some (.arr 3 (d_Chute y1))), (4, some (.arr 1 (d_I64 l3)))] } : St)) 5 (fun y => o1 = y) ?_ ?_ ?_
    · refine Wk.of [(0, some 0), (1, some 176), (2, some 96), (3, none), (4, some 144)] rfl rfl ?_ ?_
      · cbv
        all_goals try rw [show dlen (d_Chute []) = 0 from dlen_nil_Chute hg ht]
        all_goals try rw [hnil_Chute]
        all_goals exact ⟨⟨_, rfl, rfl⟩, ⟨_, rfl, rfl⟩, ⟨_, rfl, rfl⟩, ⟨_, rfl, rfl⟩, ⟨_, rfl, rfl⟩, ⟨_, rfl, rfl⟩, ⟨_, rfl, rfl⟩, trivial⟩
      · cbv
        all_goals try rw [show dlen (d_Chute []) = 0 from dlen_nil_Chute hg ht]
        all_goals try rw [hnil_Chute]
        all_goals exact ⟨⟨_, rfl, _, rfl, rfl, rfl, rfl, rfl, rfl, trivial⟩, ⟨_, rfl, _, rfl, rfl, ⟨⟨_, rfl⟩, rfl, rfl⟩, rfl, rfl, rfl, trivial⟩, ⟨_, rfl, rfl⟩, ⟨_, rfl⟩, ⟨_, rfl, rfl⟩, trivial⟩
    · rintro ⟨⟨k1, v1, w1⟩, hk1, hi1, h_1⟩ hq1
      have hm1 := (hq1.1 27 _ _ rfl)
      try dsimp only at hk1 hi1 h_1
      clear hq1
      cbv
      by_cases hc1_ : k1 < a1.length
      · have hb2 : lt v1 (llen (r_I64 a1)) = true := ltL_true_I64 hg ht hi1 hc1_
        have hs1 := stepL_I64 hg ht hi1 hc1_ hm1
        obtain ⟨z1, hz1⟩ := some_of_lt hc1_
        rw [drop_of_some hz1] at h_1
        rw [I_NewCentre_l1] at h_1
        try rw [← hg] at h_1
        try rw [← ht] at h_1
        try dsimp only at h_1
        rw [hb2]
        cbv
        refine AStep.mk (nn_L hi1) ?_
        cbv
        refine AGet.mk _ (r_getL_I64 hg ht hi1 hz1) ?_
        cbv
        obtain ⟨l4, hl4, h_1⟩ := of_lP h_1
        try dsimp only at h_1
        refine ANew.mk (d_Chute l4) (dlen (d_Chute l4)) (by rw [← hl4]; have e := lit_Chute hg ht [(Chute.mk z1 a2 [])]; dsimp only [List.map, Chute.ds] at e; (try simp only [hnil_Item, hnil_Chute, hnil_Inlet, hnil_I64, hnil_U8] at e); exact e) (by rw [← hl4]; exact litn_Chute hg ht [(Chute.mk z1 a2 [])]) ?_
        cbv
        obtain ⟨hc1, h_1⟩ := of_gd h_1
        refine AStep.mk ⟨⟨rfl, (dlen_Chute hg ht _)⟩, (app_ok_Chute hg ht (dlen_Chute hg ht _) rfl hc1)⟩ ?_
        cbv
        obtain ⟨l5, hl5, h_1⟩ := of_lP h_1
        try dsimp only at h_1
        refine ANew.mk (d_Chute l5) (dlen (d_Chute l5)) (by rw [← hl5]; exact app_Chute hg ht (dlen_Chute hg ht _) rfl) (by rw [← hl5]; exact appl_Chute hg ht (dlen_Chute hg ht _) rfl) ?_
        cbv
        try rw [hg] at h_1
        try rw [ht] at h_1
        refine ⟨⟨(k1 + 1, (wrap .i64 (add v1 1)), l5), hc1_, hs1, h_1⟩, Wk.of [(0, some 0), (1, some 1), (2, some 2), (3, some 165), (4, some 4)] rfl rfl ?_ ?_, meas_L hc1_⟩
        · cbv
          all_goals exact ⟨⟨_, rfl, rfl⟩, ⟨_, rfl, rfl⟩, ⟨_, rfl, rfl⟩, ⟨_, rfl, rfl⟩, ⟨_, rfl, rfl⟩, ⟨_, rfl, rfl⟩, ⟨_, rfl, rfl⟩, trivial⟩
        · cbv
          all_goals exact ⟨⟨_, rfl, _, rfl, rfl, rfl, rfl, rfl, rfl, trivial⟩, ⟨_, rfl, _, rfl, rfl, rfl, rfl, rfl, rfl, trivial⟩, ⟨_, rfl, rfl⟩, ⟨_, rfl, rfl⟩, ⟨_, rfl, rfl⟩, trivial⟩
      · have hb2 : lt v1 (llen (r_I64 a1)) = false := ltL_false_I64 hg ht hi1 hc1_
        rw [List.drop_of_length_le (Nat.le_of_not_lt hc1_)] at h_1
        rw [I_NewCentre_l1] at h_1
        try rw [← hg] at h_1
        try rw [← ht] at h_1
        try dsimp only at h_1
        rw [hb2]
        cbv
        refine ⟨w1, Wk.of [(0, some 0), (1, some 1), (2, some 2), (3, some 3), (4, some 4)] rfl rfl ?_ ?_, (Option.some.inj h_1).symm⟩
        · cbv
          all_goals exact ⟨⟨_, rfl, rfl⟩, ⟨_, rfl, rfl⟩, ⟨_, rfl, rfl⟩, trivial⟩
        · cbv
          all_goals exact ⟨⟨_, rfl, _, rfl, rfl, rfl, rfl, rfl, rfl, trivial⟩, ⟨_, rfl, _, rfl, rfl, rfl, rfl, rfl, rfl, trivial⟩, ⟨_, rfl, rfl⟩, ⟨_, rfl, rfl⟩, ⟨_, rfl, rfl⟩, trivial⟩
    · rintro y1 hy1
      replace hy1 := hy1.symm
      subst hy1
      try dsimp only [lr, lrL, lrp, lrpL] at h
      cbv
      obtain ⟨o2, ho2, h⟩ := of_cl h
      try dsimp only at h
      try rw [hg] at ho2
      try rw [ht] at ho2
      refine ABL.mk { p : Nat × Int × List Inlet // p.1 ≤ a3.length ∧ p.2.1 = ((p.1 : Nat) : Int) ∧ I_NewCentre_l2 G.real TE.real (List.drop p.1 a3) p.2.2 = some o2 } (fun ⟨⟨k2, v2, w2⟩, _⟩ => ({ sl := [(10, .c (.p 0 5 0 0)), (12, .c (.p 1 5 0 0)), (42, .c (.r (.s 1 (r_I64 a3)))), (43, .c (.r (.v (.int .i64 (llen (r_I64 a3)))))), (44, .c (.r (.v (.int .i64 v2))))], tab := [(0, some (.foc 5 [] [.n 2, .n 3, .n 2, .n 1, .r (.v (.int .i64 0))] [])), (1, some (.foc 5 [] [.f 2 2 0 (dlen (d_Item l1)), .f 3 3 0 (dlen (d_Chute y1)), .f 4 2 0 (dlen (d_Inlet w2)), .f 5 1 0 (dlen (d_I64 l3)), .r (.v (.int .i64 0))] [])), (2, some (.arr 2 (d_Item l1))), (3, some (.arr 3 (d_Chute y1))), (4, some (.arr 2 (d_Inlet w2))), (5, some (.arr 1 (d_I64 l3)))] } : St)) 6 (fun p => a3.length - p.1.1) ⟨(0, 0, []), Nat.zero_le _, rfl, ho2⟩ (List Inlet) (fun y2 => ({ sl := [(10, .c (.p 0 5 0 0)), (12, .c (.p 1 5 0 0))], tab := [(0, some (.foc 5 [] [.n 2, .n 3, .n 2, .n 1, .r (.v (.int .i64 0))] [])), (1, some (.foc 5 [] [.f 2 2 0 (dlen (d_Item l1)), .f 3 3 0 (dlen (d_Chute y1)), .f 4 2 0 (dlen (d_Inlet y2)), .f 5 1 0 (dlen (d_I64 l3)), .r (.v (.int .i64 0))] [])), (2, some (.arr 2 (d_Item l1))), (3, some (.arr 3 (d_Chute y1))), (4, some (.arr 2 (d_Inlet y2))), (5, some (.arr 1 (d_I64 l3)))] } : St)) 6 (fun y => o2 = y) ?_ ?_ ?_
      · refine Wk.of [(0, some 0), (1, some 1), (2, some 2), (3, some 3), (4, none), (5, some 4)] rfl rfl ?_ ?_
        · cbv
          all_goals try rw [show dlen (d_Inlet []) = 0 from dlen_nil_Inlet hg ht]
          all_goals try rw [hnil_Inlet]
          all_goals exact ⟨⟨_, rfl, rfl⟩, ⟨_, rfl, rfl⟩, ⟨_, rfl, rfl⟩, ⟨_, rfl, rfl⟩, ⟨_, rfl, rfl⟩, trivial⟩
        · cbv
          all_goals try rw [show dlen (d_Inlet []) = 0 from dlen_nil_Inlet hg ht]
          all_goals try rw [hnil_Inlet]
          all_goals exact ⟨⟨_, rfl, _, rfl, rfl, rfl, rfl, rfl, rfl, trivial⟩, ⟨_, rfl, _, rfl, rfl, rfl, ⟨⟨_, rfl⟩, rfl, rfl⟩, rfl, rfl, trivial⟩, ⟨_, rfl, rfl⟩, ⟨_, rfl, rfl⟩, ⟨_, rfl⟩, ⟨_, rfl, rfl⟩, trivial⟩
      · rintro ⟨⟨k2, v2, w2⟩, hk2, hi2, h_2⟩ hq2
        have hm2 := (hq2.1 42 _ _ rfl)
        try dsimp only at hk2 hi2 h_2
        clear hq2
        cbv
        by_cases hc2_ : k2 < a3.length
        · have hb3 : lt v2 (llen (r_I64 a3)) = true := ltL_true_I64 hg ht hi2 hc2_
          have hs2 := stepL_I64 hg ht hi2 hc2_ hm2
          obtain ⟨z2, hz2⟩ := some_of_lt hc2_
          rw [drop_of_some hz2] at h_2
          rw [I_NewCentre_l2] at h_2
          try rw [← hg] at h_2
          try rw [← ht] at h_2
          try dsimp only at h_2
          rw [hb3]
          cbv
          refine AStep.mk (nn_L hi2) ?_
          cbv
          refine AGet.mk _ (r_getL_I64 hg ht hi2 hz2) ?_
          cbv
          obtain ⟨l6, hl6, h_2⟩ := of_lP h_2
          try dsimp only at h_2
          refine ANew.mk (d_Inlet l6) (dlen (d_Inlet l6)) (by rw [← hl6]; have e := lit_Inlet hg ht [(Inlet.mk z2 [])]; dsimp only [List.map, Inlet.ds] at e; (try simp only [hnil_Item, hnil_Chute, hnil_Inlet, hnil_I64, hnil_U8] at e); exact e) (by rw [← hl6]; exact litn_Inlet hg ht [(Inlet.mk z2 [])]) ?_
          cbv
          obtain ⟨hc2, h_2⟩ := of_gd h_2
          refine AStep.mk ⟨⟨rfl, (dlen_Inlet hg ht _)⟩, (app_ok_Inlet hg ht (dlen_Inlet hg ht _) rfl hc2)⟩ ?_
          cbv
          obtain ⟨l7, hl7, h_2⟩ := of_lP h_2
          try dsimp only at h_2
          refine ANew.mk (d_Inlet l7) (dlen (d_Inlet l7)) (by rw [← hl7]; exact app_Inlet hg ht (dlen_Inlet hg ht _) rfl) (by rw [← hl7]; exact appl_Inlet hg ht (dlen_Inlet hg ht _) rfl) ?_
          cbv
          try rw [hg] at h_2
          try rw [ht] at h_2
          refine ⟨⟨(k2 + 1, (wrap .i64 (add v2 1)), l7), hc2_, hs2, h_2⟩, Wk.of [(0, some 0), (1, some 1), (2, some 2), (3, some 3), (4, some 150), (5, some 5)] rfl rfl ?_ ?_, meas_L hc2_⟩
          · cbv
            all_goals exact ⟨⟨_, rfl, rfl⟩, ⟨_, rfl, rfl⟩, ⟨_, rfl, rfl⟩, ⟨_, rfl, rfl⟩, ⟨_, rfl, rfl⟩, trivial⟩
          · cbv
            all_goals exact ⟨⟨_, rfl, _, rfl, rfl, rfl, rfl, rfl, rfl, trivial⟩, ⟨_, rfl, _, rfl, rfl, rfl, rfl, rfl, rfl, trivial⟩, ⟨_, rfl, rfl⟩, ⟨_, rfl, rfl⟩, ⟨_, rfl, rfl⟩, ⟨_, rfl, rfl⟩, trivial⟩
        · have hb3 : lt v2 (llen (r_I64 a3)) = false := ltL_false_I64 hg ht hi2 hc2_
          rw [List.drop_of_length_le (Nat.le_of_not_lt hc2_)] at h_2
          rw [I_NewCentre_l2] at h_2
          try rw [← hg] at h_2
          try rw [← ht] at h_2
          try dsimp only at h_2
          rw [hb3]
          cbv
          refine ⟨w2, Wk.of [(0, some 0), (1, some 1), (2, some 2), (3, some 3), (4, some 4), (5, some 5)] rfl rfl ?_ ?_, (Option.some.inj h_2).symm⟩
          · cbv
            all_goals exact ⟨⟨_, rfl, rfl⟩, ⟨_, rfl, rfl⟩, trivial⟩
          · cbv
            all_goals exact ⟨⟨_, rfl, _, rfl, rfl, rfl, rfl, rfl, rfl, trivial⟩, ⟨_, rfl, _, rfl, rfl, rfl, rfl, rfl, rfl, trivial⟩, ⟨_, rfl, rfl⟩, ⟨_, rfl, rfl⟩, ⟨_, rfl, rfl⟩, ⟨_, rfl, rfl⟩, trivial⟩
      · rintro y2 hy2
        replace hy2 := hy2.symm
        subst hy2
        try dsimp only [lr, lrL, lrp, lrpL] at h
        cbv
        refine AStep.mk ⟨(lend_Item ht (dlen_Item hg ht _)), ⟨(lend_Chute ht (dlen_Chute hg ht _)), ⟨(lend_Inlet ht (dlen_Inlet hg ht _)), (lend_I64 ht (dlen_I64 hg ht _))⟩⟩⟩ ?_
        cbv
        obtain ⟨x2, hx2, h⟩ := of_cl h
        try dsimp only at h
        refine ACall.mk _ _ (by rw [show rd (d_Item l1) 0 (dlen (d_Item l1)) = r_Item l1 from rdw_Item hg ht (dlen_Item hg ht _), show rd (d_Chute y1) 0 (dlen (d_Chute y1)) = r_Chute y1 from rdw_Chute hg ht (dlen_Chute hg ht _), show rd (d_Inlet y2) 0 (dlen (d_Inlet y2)) = r_Inlet y2 from rdw_Inlet hg ht (dlen_Inlet hg ht _), show rd (d_I64 l3) 0 (dlen (d_I64 l3)) = r_I64 l3 from rdw_I64 hg ht (dlen_I64 hg ht _)]; try rfl) (hF _ _ _ (c_I_IsCentre hg ht hx2)) (.inr rfl) (Nat.le_of_ble_eq_true rfl) ?_
        cbv
        cases hb4 : x2 with
        | true =>
          rw [br_true hb4] at h
          cbv
          obtain rfl := Option.some.inj h
          exact ARet.mk ⟨⟨rfl, (dlen_Item hg ht _)⟩, ⟨⟨rfl, (dlen_Chute hg ht _)⟩, ⟨⟨rfl, (dlen_Inlet hg ht _)⟩, ⟨rfl, (dlen_I64 hg ht _)⟩⟩⟩⟩ hX.symm
        | false =>
          rw [br_false hb4] at h
          cbv
          obtain rfl := Option.some.inj h
          exact ARet.mk trivial (by rw [hX]; first | rfl | (simp only [Item.ds, Chute.ds, Inlet.ds, Centre.ds, Cur.ds, hnil_Chute, hnil_I64, hnil_Inlet, hnil_Item]; try rfl))
  | false =>
    rw [br_false hb1] at h
    cbv
    obtain rfl := Option.some.inj h
    exact ARet.mk trivial (by rw [hX]; first | rfl | (simp only [Item.ds, Chute.ds, Inlet.ds, Centre.ds, Cur.ds, hnil_Chute, hnil_I64, hnil_Inlet, hnil_Item]; try rfl))
end Go.Vs
namespace Go.Vs
set_option maxRecDepth 100000
def ir9 : J :=
  .seq (.reg none [⟨(some 10), none, .mv (.k (V.b false))⟩] [0, 1, 2, 3, 4])
  (.seq (.seq (.reg none [⟨(some 23), none, .mv (.t 1)⟩,
      ⟨(some 24), none, .len false (.t 23)⟩,
      ⟨(some 25), none, .bin .gtr .i (.t 24) (.k (V.i 1048576))⟩] [0, 1, 2, 3, 4, 25])
   (.cond (.t 25)
    (.seq (.reg none [⟨(some 10), none, .mv (.k (V.b true))⟩] [10])
     (.ret))
    (.skip)))
  (.seq (.seq (.reg none [⟨(some 26), none, .mv (.t 3)⟩,
      ⟨(some 27), none, .len false (.t 26)⟩,
      ⟨(some 28), none, .bin .gtr .i (.t 27) (.k (V.i 1048576))⟩] [0, 1, 2, 3, 4, 28])
   (.cond (.t 28)
    (.seq (.reg none [⟨(some 10), none, .mv (.k (V.b true))⟩] [10])
     (.ret))
    (.skip)))
  (.seq (.seq (.reg none [⟨(some 29), none, .mv (.t 4)⟩,
      ⟨(some 30), none, .len false (.t 29)⟩,
      ⟨(some 31), none, .bin .gtr .i (.t 30) (.k (V.i 1048576))⟩] [0, 1, 2, 3, 4, 31])
   (.cond (.t 31)
    (.seq (.reg none [⟨(some 10), none, .mv (.k (V.b true))⟩] [10])
     (.ret))
    (.skip)))
  (.seq (.reg none [⟨(some 33), none, .mv (.t 0)⟩,
     ⟨(some 34), none, .mv (.t 1)⟩,
     ⟨(some 35), none, .call 45 false [(.t 34)]⟩,
     ⟨(some 36), none, .mv (.t 2)⟩,
     ⟨(some 37), none, .mv (.t 3)⟩,
     ⟨(some 38), none, .call 45 false [(.t 37)]⟩,
     ⟨(some 39), none, .mv (.t 4)⟩,
     ⟨(some 40), none, .call 45 false [(.t 39)]⟩,
     ⟨(some 41), none, .call 44 false [(.t 33), (.t 35), (.t 36), (.t 38), (.t 40)]⟩,
     ⟨(some 32), none, .mv (.t 41)⟩,
     ⟨(some 42), none, .ext 0 (.t 32)⟩,
     ⟨(some 43), none, .ext 1 (.t 32)⟩,
     ⟨(some 11), none, .alloc [.n 2, .n 3, .n 2, .n 1, .r (.v (.int .i64 0))]⟩,
     ⟨none, none, .st 5 (.t 11) (.t 42)⟩,
     ⟨(some 12), none, .mv (.t 43)⟩] [0, 1, 2, 3, 4, 11, 12])
  (.seq (.reg none [⟨(some 44), none, .mv (.t 1)⟩,
     ⟨(some 45), none, .call 45 true [(.t 44)]⟩,
     ⟨(some 13), none, .mv (.t 45)⟩] [0, 1, 2, 3, 4, 11, 12, 13])
  (.seq (.reg none [⟨(some 46), none, .mv (.t 3)⟩,
     ⟨(some 47), none, .call 45 true [(.t 46)]⟩,
     ⟨(some 14), none, .mv (.t 47)⟩] [0, 1, 2, 3, 4, 11, 12, 13, 14])
  (.seq (.reg none [⟨(some 48), none, .mv (.t 4)⟩,
     ⟨(some 49), none, .call 45 true [(.t 48)]⟩,
     ⟨(some 15), none, .mv (.t 49)⟩] [0, 1, 2, 3, 4, 11, 12, 13, 14, 15])
  (.seq (.reg none [⟨(some 51), none, .mv (.t 0)⟩,
     ⟨(some 52), none, .mv (.t 13)⟩,
     ⟨(some 53), none, .mv (.t 2)⟩,
     ⟨(some 54), none, .mv (.t 14)⟩,
     ⟨(some 55), none, .mv (.t 15)⟩,
     ⟨(some 56), none, .call 46 true [(.t 51), (.t 52), (.t 53), (.t 54), (.t 55)]⟩,
     ⟨(some 50), none, .mv (.t 56)⟩,
     ⟨(some 57), none, .ext 0 (.t 50)⟩,
     ⟨(some 58), none, .ext 1 (.t 50)⟩,
     ⟨(some 16), none, .alloc [.n 2, .n 3, .n 2, .n 1, .r (.v (.int .i64 0))]⟩,
     ⟨none, none, .st 5 (.t 16) (.t 57)⟩,
     ⟨(some 17), none, .mv (.t 58)⟩] [0, 1, 2, 3, 4, 11, 12, 13, 14, 15, 16, 17])
  (.seq (.seq (.reg none [⟨(some 59), none, .ld true 5 (.t 16)⟩,
      ⟨(some 60), none, .ld true 5 (.t 11)⟩,
      ⟨(some 61), none, .call 28 true [(.t 59), (.t 60)]⟩,
      ⟨(some 62), none, .not (.t 61)⟩,
      ⟨(some 63), none, .mv (.t 62)⟩,
      ⟨(some 64), (some (63, false)), .mv (.t 17)⟩,
      ⟨(some 65), (some (63, false)), .mv (.t 12)⟩,
      ⟨(some 66), (some (63, false)), .bin .neq .b (.t 64) (.t 65)⟩,
      ⟨(some 67), none, .pick (.t 63) (.k (V.b true)) (.t 66)⟩] [0, 1, 2, 3, 4, 11, 12, 13, 14, 15, 16, 17, 67])
   (.cond (.t 67)
    (.seq (.reg none [⟨(some 10), none, .mv (.k (V.b false))⟩] [10])
     (.ret))
    (.skip)))
  (.seq (.seq (.reg none [⟨(some 68), none, .mv (.t 13)⟩,
      ⟨(some 69), none, .mv (.t 1)⟩,
      ⟨(some 70), none, .call 45 false [(.t 69)]⟩,
      ⟨(some 71), none, .call 47 true [(.t 68), (.t 70)]⟩,
      ⟨(some 72), none, .not (.t 71)⟩] [0, 1, 2, 3, 4, 11, 12, 13, 14, 15, 16, 17, 72])
   (.cond (.t 72)
    (.seq (.reg none [⟨(some 10), none, .mv (.k (V.b false))⟩] [10])
     (.ret))
    (.skip)))
  (.seq (.seq (.reg none [⟨(some 73), none, .mv (.t 14)⟩,
      ⟨(some 74), none, .mv (.t 3)⟩,
      ⟨(some 75), none, .call 45 false [(.t 74)]⟩,
      ⟨(some 76), none, .call 47 true [(.t 73), (.t 75)]⟩,
      ⟨(some 77), none, .not (.t 76)⟩] [0, 1, 2, 3, 4, 11, 12, 13, 14, 15, 16, 17, 77])
   (.cond (.t 77)
    (.seq (.reg none [⟨(some 10), none, .mv (.k (V.b false))⟩] [10])
     (.ret))
    (.skip)))
  (.seq (.seq (.reg none [⟨(some 78), none, .mv (.t 15)⟩,
      ⟨(some 79), none, .mv (.t 4)⟩,
      ⟨(some 80), none, .call 45 false [(.t 79)]⟩,
      ⟨(some 81), none, .call 47 true [(.t 78), (.t 80)]⟩,
      ⟨(some 82), none, .not (.t 81)⟩] [0, 1, 2, 3, 4, 11, 12, 13, 14, 15, 16, 17, 82])
   (.cond (.t 82)
    (.seq (.reg none [⟨(some 10), none, .mv (.k (V.b false))⟩] [10])
     (.ret))
    (.skip)))
  (.seq (.reg none [⟨(some 18), none, .mv (.k (V.i 1))⟩] [0, 1, 2, 3, 4, 11, 12, 13, 14, 15, 16, 17, 18])
  (.seq (.reg none [⟨(some 83), none, .mv (.t 13)⟩,
     ⟨(some 84), none, .mv (.t 18)⟩,
     ⟨(some 85), none, .callm 48 (.t 83) [(.t 84)]⟩,
     ⟨(some 18), none, .mv (.t 85)⟩] [0, 1, 2, 3, 4, 11, 12, 14, 15, 16, 17, 18])
  (.seq (.reg none [⟨(some 86), none, .mv (.t 14)⟩,
     ⟨(some 87), none, .mv (.t 18)⟩,
     ⟨(some 88), none, .callm 48 (.t 86) [(.t 87)]⟩,
     ⟨(some 18), none, .mv (.t 88)⟩] [0, 1, 2, 3, 4, 11, 12, 15, 16, 17, 18])
  (.seq (.reg none [⟨(some 89), none, .mv (.t 15)⟩,
     ⟨(some 90), none, .mv (.t 18)⟩,
     ⟨(some 91), none, .callm 48 (.t 89) [(.t 90)]⟩,
     ⟨(some 18), none, .mv (.t 91)⟩] [0, 1, 2, 3, 4, 11, 12, 16, 17, 18])
  (.seq (.seq (.reg none [⟨(some 92), none, .mv (.t 18)⟩,
      ⟨(some 93), none, .bin .lss .i (.t 92) (.k (V.i 0))⟩,
      ⟨(some 94), none, .mv (.t 93)⟩,
      ⟨(some 95), (some (94, false)), .ld true 5 (.t 16)⟩,
      ⟨(some 96), (some (94, false)), .ld true 5 (.t 11)⟩,
      ⟨(some 97), (some (94, false)), .call 28 true [(.t 95), (.t 96)]⟩,
      ⟨(some 98), (some (94, false)), .not (.t 97)⟩,
      ⟨(some 99), none, .pick (.t 94) (.k (V.b true)) (.t 98)⟩,
      ⟨(some 100), none, .mv (.t 99)⟩,
      ⟨(some 101), (some (100, false)), .mv (.t 17)⟩,
      ⟨(some 102), (some (100, false)), .mv (.t 12)⟩,
      ⟨(some 103), (some (100, false)), .bin .neq .b (.t 101) (.t 102)⟩,
      ⟨(some 104), none, .pick (.t 100) (.k (V.b true)) (.t 103)⟩] [0, 1, 2, 3, 4, 11, 12, 16, 104])
   (.cond (.t 104)
    (.seq (.reg none [⟨(some 10), none, .mv (.k (V.b false))⟩] [10])
     (.ret))
    (.skip)))
  (.seq (.reg none [⟨(some 19), none, .mv (.k (V.i 1))⟩] [0, 1, 2, 3, 4, 11, 12, 16, 19])
  (.seq (.reg none [⟨(some 105), none, .ld true 5 (.t 16)⟩,
     ⟨(some 106), none, .mv (.t 19)⟩,
     ⟨(some 107), none, .callm 49 (.t 105) [(.t 106)]⟩,
     ⟨(some 19), none, .mv (.t 107)⟩] [0, 1, 2, 3, 4, 11, 12, 16, 19])
  (.seq (.reg none [⟨(some 20), none, .mv (.k (V.i 1))⟩] [0, 1, 2, 3, 4, 11, 12, 16, 19, 20])
  (.seq (.reg none [⟨(some 108), none, .ld true 5 (.t 16)⟩,
     ⟨(some 109), none, .mv (.t 20)⟩,
     ⟨(some 110), none, .call 50 true [(.t 108), (.t 109)]⟩,
     ⟨(some 20), none, .mv (.t 110)⟩] [0, 1, 2, 3, 4, 11, 12, 16, 19, 20])
  (.seq (.seq (.reg none [⟨(some 111), none, .mv (.t 20)⟩,
      ⟨(some 112), none, .bin .lss .i (.t 111) (.k (V.i 0))⟩] [0, 1, 2, 3, 4, 11, 12, 16, 19, 20, 112])
   (.cond (.t 112)
    (.seq (.reg none [⟨(some 10), none, .mv (.k (V.b false))⟩] [10])
     (.ret))
    (.skip)))
  (.seq (.seq (.reg none [⟨(some 113), none, .mv (.t 20)⟩,
      ⟨(some 114), none, .mv (.t 19)⟩,
      ⟨(some 115), none, .bin .neq .i (.t 113) (.t 114)⟩] [0, 1, 2, 3, 4, 11, 12, 16, 19, 115])
   (.cond (.t 115)
    (.seq (.reg none [⟨(some 10), none, .mv (.k (V.b false))⟩] [10])
     (.ret))
    (.skip)))
  (.seq (.reg none [⟨(some 117), none, .mv (.t 0)⟩,
     ⟨(some 118), none, .mv (.t 1)⟩,
     ⟨(some 119), none, .call 45 false [(.t 118)]⟩,
     ⟨(some 120), none, .mv (.t 2)⟩,
     ⟨(some 121), none, .mv (.t 3)⟩,
     ⟨(some 122), none, .call 45 false [(.t 121)]⟩,
     ⟨(some 123), none, .mv (.t 4)⟩,
     ⟨(some 124), none, .call 45 false [(.t 123)]⟩,
     ⟨(some 125), none, .call 46 false [(.t 117), (.t 119), (.t 120), (.t 122), (.t 124)]⟩,
     ⟨(some 116), none, .mv (.t 125)⟩,
     ⟨(some 126), none, .ext 0 (.t 116)⟩,
     ⟨(some 127), none, .ext 1 (.t 116)⟩,
     ⟨(some 21), none, .alloc [.n 2, .n 3, .n 2, .n 1, .r (.v (.int .i64 0))]⟩,
     ⟨none, none, .st 5 (.t 21) (.t 126)⟩,
     ⟨(some 22), none, .mv (.t 127)⟩] [11, 12, 16, 19, 21, 22])
  (.seq (.seq (.reg none [⟨(some 128), none, .ld true 5 (.t 21)⟩,
      ⟨(some 129), none, .ld true 5 (.t 11)⟩,
      ⟨(some 130), none, .call 28 true [(.t 128), (.t 129)]⟩,
      ⟨(some 131), none, .not (.t 130)⟩,
      ⟨(some 132), none, .mv (.t 131)⟩,
      ⟨(some 133), (some (132, false)), .mv (.t 22)⟩,
      ⟨(some 134), (some (132, false)), .mv (.t 12)⟩,
      ⟨(some 135), (some (132, false)), .bin .neq .b (.t 133) (.t 134)⟩,
      ⟨(some 136), none, .pick (.t 132) (.k (V.b true)) (.t 135)⟩] [16, 19, 136])
   (.cond (.t 136)
    (.seq (.reg none [⟨(some 10), none, .mv (.k (V.b false))⟩] [10])
     (.ret))
    (.skip)))
  (.seq (.reg none [⟨(some 20), none, .mv (.k (V.i 1))⟩] [16, 19, 20])
  (.seq (.reg none [⟨(some 137), none, .ld true 5 (.t 16)⟩,
     ⟨(some 138), none, .mv (.t 20)⟩,
     ⟨(some 139), none, .call 50 true [(.t 137), (.t 138)]⟩,
     ⟨(some 20), none, .mv (.t 139)⟩] [19, 20])
  (.seq (.seq (.reg none [⟨(some 140), none, .mv (.t 20)⟩,
      ⟨(some 141), none, .bin .lss .i (.t 140) (.k (V.i 0))⟩] [19, 20, 141])
   (.cond (.t 141)
    (.seq (.reg none [⟨(some 10), none, .mv (.k (V.b false))⟩] [10])
     (.ret))
    (.skip)))
  (.seq (.seq (.reg none [⟨(some 142), none, .mv (.t 20)⟩,
      ⟨(some 143), none, .mv (.t 19)⟩,
      ⟨(some 144), none, .bin .neq .i (.t 142) (.t 143)⟩] [144])
   (.cond (.t 144)
    (.seq (.reg none [⟨(some 10), none, .mv (.k (V.b false))⟩] [10])
     (.ret))
    (.skip)))
  (.seq (.reg none [⟨(some 10), none, .mv (.k (V.b true))⟩] [10])
  (.ret)))))))))))))))))))))))))))))))
def rv9 : List RV := [.t 10]
open Go.Proofs Go.IntWalk
set_option linter.unusedVariables false
set_option maxRecDepth 100000
set_option maxHeartbeats 4000000
def L_FnExactNewCentre (g : G) (t : TE) (a0 : Int) (a1 : List Int) (a2 : Int) (a3 : List Int) (a4 : List Int) : Option Bool :=
  br (g.lt 1048576 (g.llen (t.r_I64 a1)))
  (
   some true)
  (
   br (g.lt 1048576 (g.llen (t.r_I64 a3)))
   (
    some true)
   (
    br (g.lt 1048576 (g.llen (t.r_I64 a4)))
    (
     some true)
    (
     cl (L_toIntS g t a1) fun x1 =>
     cl (L_toIntS g t a3) fun x2 =>
     cl (L_toIntS g t a4) fun x3 =>
     cl (S_NewCentre g t a0 x1 a2 x2 x3) fun x4 =>
     cl (L_toIntS g t a1) fun x5 =>
     cl (L_toIntS g t a3) fun x6 =>
     cl (L_toIntS g t a4) fun x7 =>
     cl (I_NewCentre g t a0 x5 a2 x6 x7) fun x8 =>
     cl (L_eqCentre g t (Centre.mk x8.1.Belt x8.1.Chutes x8.1.Inlets x8.1.Plan x8.1.Now) (Centre.mk x4.1.Belt x4.1.Chutes x4.1.Inlets x4.1.Plan x4.1.Now)) fun x9 =>
     br x9
     (
      br x8.2
      (
       br x4.2
       (
        cl (L_toIntS g t a1) fun x10 =>
        cl (L_eqIntS g t x5 x10) fun x11 =>
        br x11
        (
         cl (L_toIntS g t a3) fun x12 =>
         cl (L_eqIntS g t x6 x12) fun x13 =>
         br x13
         (
          cl (L_toIntS g t a4) fun x14 =>
          cl (L_eqIntS g t x7 x14) fun x15 =>
          br x15
          (
           cl (L_markIntS g t x5 1) fun x16 =>
           gd ((x16.2.length = x5.length)) <|
           cl (L_markIntS g t x6 x16.1) fun x17 =>
           gd ((x17.2.length = x6.length)) <|
           cl (L_markIntS g t x7 x17.1) fun x18 =>
           gd ((x18.2.length = x7.length)) <|
           br (g.lt x18.1 0)
           (
            some false)
           (
            cl (L_eqCentre g t (Centre.mk x8.1.Belt x8.1.Chutes x8.1.Inlets x8.1.Plan x8.1.Now) (Centre.mk x4.1.Belt x4.1.Chutes x4.1.Inlets x4.1.Plan x4.1.Now)) fun x19 =>
            br x19
            (
             cl (L_markCentre g t (Centre.mk x8.1.Belt x8.1.Chutes x8.1.Inlets x8.1.Plan x8.1.Now) 1) fun x20 =>
             gd ((x20.2.Belt.length = x8.1.Belt.length)) <|
             gd ((x20.2.Chutes.length = x8.1.Chutes.length)) <|
             gd ((x20.2.Inlets.length = x8.1.Inlets.length)) <|
             gd ((x20.2.Plan.length = x8.1.Plan.length)) <|
             lP (L_heldCentre g t (Centre.mk x20.2.Belt x20.2.Chutes x20.2.Inlets x20.2.Plan x8.1.Now) 1) fun x21 =>
             br (g.lt x21 0)
             (
              some false)
             (
              br (g.eq x21 x20.1)
              (
               cl (L_toIntS g t a1) fun x22 =>
               cl (L_toIntS g t a3) fun x23 =>
               cl (L_toIntS g t a4) fun x24 =>
               cl (I_NewCentre g t a0 x22 a2 x23 x24) fun x25 =>
               cl (L_eqCentre g t (Centre.mk x25.1.Belt x25.1.Chutes x25.1.Inlets x25.1.Plan x25.1.Now) (Centre.mk x4.1.Belt x4.1.Chutes x4.1.Inlets x4.1.Plan x4.1.Now)) fun x26 =>
               br x26
               (
                br x25.2
                (
                 lP (L_heldCentre g t (Centre.mk x20.2.Belt x20.2.Chutes x20.2.Inlets x20.2.Plan x8.1.Now) 1) fun x27 =>
                 br (g.lt x27 0)
                 (
                  some false)
                 (
                  br (g.eq x27 x20.1)
                  (
                   some true)
                  (
                   some false)))
                (
                 some false))
               (
                some false))
              (
               some false)))
            (
             some false)))
          (
           some false))
         (
          some false))
        (
         some false))
       (
        some false))
      (
       br x4.2
       (
        some false)
       (
        cl (L_toIntS g t a1) fun x28 =>
        cl (L_eqIntS g t x5 x28) fun x29 =>
        br x29
        (
         cl (L_toIntS g t a3) fun x30 =>
         cl (L_eqIntS g t x6 x30) fun x31 =>
         br x31
         (
          cl (L_toIntS g t a4) fun x32 =>
          cl (L_eqIntS g t x7 x32) fun x33 =>
          br x33
          (
           cl (L_markIntS g t x5 1) fun x34 =>
           gd ((x34.2.length = x5.length)) <|
           cl (L_markIntS g t x6 x34.1) fun x35 =>
           gd ((x35.2.length = x6.length)) <|
           cl (L_markIntS g t x7 x35.1) fun x36 =>
           gd ((x36.2.length = x7.length)) <|
           br (g.lt x36.1 0)
           (
            some false)
           (
            cl (L_eqCentre g t (Centre.mk x8.1.Belt x8.1.Chutes x8.1.Inlets x8.1.Plan x8.1.Now) (Centre.mk x4.1.Belt x4.1.Chutes x4.1.Inlets x4.1.Plan x4.1.Now)) fun x37 =>
            br x37
            (
             cl (L_markCentre g t (Centre.mk x8.1.Belt x8.1.Chutes x8.1.Inlets x8.1.Plan x8.1.Now) 1) fun x38 =>
             gd ((x38.2.Belt.length = x8.1.Belt.length)) <|
             gd ((x38.2.Chutes.length = x8.1.Chutes.length)) <|
             gd ((x38.2.Inlets.length = x8.1.Inlets.length)) <|
             gd ((x38.2.Plan.length = x8.1.Plan.length)) <|
             lP (L_heldCentre g t (Centre.mk x38.2.Belt x38.2.Chutes x38.2.Inlets x38.2.Plan x8.1.Now) 1) fun x39 =>
             br (g.lt x39 0)
             (
              some false)
             (
              br (g.eq x39 x38.1)
              (
               cl (L_toIntS g t a1) fun x40 =>
               cl (L_toIntS g t a3) fun x41 =>
               cl (L_toIntS g t a4) fun x42 =>
               cl (I_NewCentre g t a0 x40 a2 x41 x42) fun x43 =>
               cl (L_eqCentre g t (Centre.mk x43.1.Belt x43.1.Chutes x43.1.Inlets x43.1.Plan x43.1.Now) (Centre.mk x4.1.Belt x4.1.Chutes x4.1.Inlets x4.1.Plan x4.1.Now)) fun x44 =>
               br x44
               (
                br x43.2
                (
                 some false)
                (
                 lP (L_heldCentre g t (Centre.mk x38.2.Belt x38.2.Chutes x38.2.Inlets x38.2.Plan x8.1.Now) 1) fun x45 =>
                 br (g.lt x45 0)
                 (
                  some false)
                 (
                  br (g.eq x45 x38.1)
                  (
                   some true)
                  (
                   some false))))
               (
                some false))
              (
               some false)))
            (
             some false)))
          (
           some false))
         (
          some false))
        (
         some false))))
     (
      some false))))
theorem fit9 : codeFit Try.prog Try.f9.ntmps (Try.f9.body.getD .skip) ir9 = true := by kernel_rfl
theorem c_L_FnExactNewCentre {g : G} {t : TE} {a0 : Int} {a1 : List Int} {a2 : Int} {a3 : List Int} {a4 : List Int} {r : Bool} (hg : g = G.real) (ht : t = TE.real) (h : L_FnExactNewCentre g t a0 a1 a2 a3 a4 = some r) : Fn Try.prog 9 [.c (.v (.int .i64 a0)), .c (.s 1 (t.r_I64 a1)), .c (.v (.int .i64 a2)), .c (.s 1 (t.r_I64 a3)), .c (.s 1 (t.r_I64 a4))] (.c (.r (.v (.bool r)))) := by
  obtain ⟨X, hX⟩ := hide (.c (.r (.v (.bool r))) : X)
  rw [← hX]
  refine fn_of (rvs := rv9) (j := ir9) Try.func9 rfl fit9 (Nat.le_of_ble_eq_true rfl) (by kernel_rfl) prog_mixed ?_
  intro g2 F hg2 hF
  obtain rfl : g2 = g := hg2.unique.trans hg.symm
  clear hg2
  obtain ⟨wrap, lt, le, eq, quo, rem, band, bor, bxor, shl, shr, nat, int, add, sub, mul, cat, seq, slt, sub3, byte, llen, nadd, nsub, dlen, dapp, dset, drep, rd, rda, up, rsub, dsub, all, sle, slen, hasI, putI, hasS, putS, imin, imax, fzc⟩ := g2
  obtain ⟨r_Item, d_Item, r_Chute, d_Chute, r_Inlet, d_Inlet, r_I64, d_I64, r_U8, d_U8⟩ := t
  have hfr_Item : ∀ l, freshDss (d_Item l) = true := fresh_Item ht
  have hrda_Item : ∀ l, rda (d_Item l) = r_Item l := rda_Item hg ht
  have hfr_Chute : ∀ l, freshDss (d_Chute l) = true := fresh_Chute ht
  have hrda_Chute : ∀ l, rda (d_Chute l) = r_Chute l := rda_Chute hg ht
  have hfr_Inlet : ∀ l, freshDss (d_Inlet l) = true := fresh_Inlet ht
  have hrda_Inlet : ∀ l, rda (d_Inlet l) = r_Inlet l := rda_Inlet hg ht
  have hfr_I64 : ∀ l, freshDss (d_I64 l) = true := fresh_I64 ht
  have hrda_I64 : ∀ l, rda (d_I64 l) = r_I64 l := rda_I64 hg ht
  unfold L_FnExactNewCentre at h
  try dsimp only at h
  cbv
  cases hb1 : (lt 1048576 (llen (r_I64 a1))) with
  | true =>
    rw [br_true hb1] at h
    cbv
    obtain rfl := Option.some.inj h
    exact ARet.mk trivial hX.symm
  | false =>
    rw [br_false hb1] at h
    cbv
    cases hb2 : (lt 1048576 (llen (r_I64 a3))) with
    | true =>
      rw [br_true hb2] at h
      cbv
      obtain rfl := Option.some.inj h
      exact ARet.mk trivial hX.symm
    | false =>
      rw [br_false hb2] at h
      cbv
      cases hb3 : (lt 1048576 (llen (r_I64 a4))) with
      | true =>
        rw [br_true hb3] at h
        cbv
        obtain rfl := Option.some.inj h
        exact ARet.mk trivial hX.symm
      | false =>
        rw [br_false hb3] at h
        cbv
        obtain ⟨x1, hx1, h⟩ := of_cl h
        try dsimp only at h
        refine ACallR.mk _ _ (.c (.r (.s 1 (r_I64 x1)))) rfl (hF _ _ _ (c_L_toIntS hg ht hx1)) (.inl rfl) (Nat.le_of_ble_eq_true rfl) (by cbv; (try simp only [hrda_I64])) ?_
        cbv
        obtain ⟨x2, hx2, h⟩ := of_cl h
        try dsimp only at h
        refine ACallR.mk _ _ (.c (.r (.s 1 (r_I64 x2)))) rfl (hF _ _ _ (c_L_toIntS hg ht hx2)) (.inl rfl) (Nat.le_of_ble_eq_true rfl) (by cbv; (try simp only [hrda_I64])) ?_
        cbv
        obtain ⟨x3, hx3, h⟩ := of_cl h
        try dsimp only at h
        refine ACallR.mk _ _ (.c (.r (.s 1 (r_I64 x3)))) rfl (hF _ _ _ (c_L_toIntS hg ht hx3)) (.inl rfl) (Nat.le_of_ble_eq_true rfl) (by cbv; (try simp only [hrda_I64])) ?_
        cbv
        obtain ⟨x4, hx4, h⟩ := of_cl h
        obtain ⟨⟨x4_1_Belt, x4_1_Chutes, x4_1_Inlets, x4_1_Plan, x4_1_Now⟩, x4_2⟩ := x4
        try dsimp only at h
        refine ACallR.mk _ _ (.u [.g [.r (.s 2 (r_Item x4_1_Belt)), .r (.s 3 (r_Chute x4_1_Chutes)), .r (.s 2 (r_Inlet x4_1_Inlets)), .r (.s 1 (r_I64 x4_1_Plan)), .r (.v (.int .i64 x4_1_Now))], .c (.r (.v (.bool x4_2)))]) rfl (hF _ _ _ (c_S_NewCentre hg ht hx4)) (.inl rfl) (Nat.le_of_ble_eq_true rfl) (by cbv; (try simp only [hrda_Chute, hrda_I64, hrda_Inlet, hrda_Item])) ?_
        cbv
        obtain ⟨x5, hx5, h⟩ := of_cl h
        try dsimp only at h
        refine ACall.mk _ _ rfl (hF _ _ _ (c_L_toIntS hg ht hx5)) (.inl rfl) (Nat.le_of_ble_eq_true rfl) ?_
        cbv
        obtain ⟨x6, hx6, h⟩ := of_cl h
        try dsimp only at h
        refine ACall.mk _ _ rfl (hF _ _ _ (c_L_toIntS hg ht hx6)) (.inl rfl) (Nat.le_of_ble_eq_true rfl) ?_
        cbv
        obtain ⟨x7, hx7, h⟩ := of_cl h
        try dsimp only at h
        refine ACall.mk _ _ rfl (hF _ _ _ (c_L_toIntS hg ht hx7)) (.inl rfl) (Nat.le_of_ble_eq_true rfl) ?_
        cbv
        refine AStep.mk ⟨(lend_I64 ht (dlen_I64 hg ht _)), ⟨(lend_I64 ht (dlen_I64 hg ht _)), (lend_I64 ht (dlen_I64 hg ht _))⟩⟩ ?_
        cbv
        obtain ⟨x8, hx8, h⟩ := of_cl h
        obtain ⟨⟨x8_1_Belt, x8_1_Chutes, x8_1_Inlets, x8_1_Plan, x8_1_Now⟩, x8_2⟩ := x8
        try dsimp only at h
        refine ACall.mk _ _ (by rw [show rd (d_I64 x5) 0 (dlen (d_I64 x5)) = r_I64 x5 from rdw_I64 hg ht (dlen_I64 hg ht _), show rd (d_I64 x6) 0 (dlen (d_I64 x6)) = r_I64 x6 from rdw_I64 hg ht (dlen_I64 hg ht _), show rd (d_I64 x7) 0 (dlen (d_I64 x7)) = r_I64 x7 from rdw_I64 hg ht (dlen_I64 hg ht _)]; try rfl) (hF _ _ _ (c_I_NewCentre hg ht hx8)) (.inr (by simp only [Go.Vs.X.fresh, Go.Vs.X.freshs, freshD, freshDs, Bool.and_self, Centre.ds, hfr_Chute, hfr_I64, hfr_Inlet, hfr_Item])) (Nat.le_of_ble_eq_true rfl) ?_
        cbv
        refine AStep.mk ⟨(lend_Item ht (dlen_Item hg ht _)), ⟨(lend_Chute ht (dlen_Chute hg ht _)), ⟨(lend_Inlet ht (dlen_Inlet hg ht _)), (lend_I64 ht (dlen_I64 hg ht _))⟩⟩⟩ ?_
        cbv
        obtain ⟨x9, hx9, h⟩ := of_cl h
        try dsimp only at h
        refine ACall.mk _ _ (by rw [show rd (d_Item x8_1_Belt) 0 (dlen (d_Item x8_1_Belt)) = r_Item x8_1_Belt from rdw_Item hg ht (dlen_Item hg ht _), show rd (d_Chute x8_1_Chutes) 0 (dlen (d_Chute x8_1_Chutes)) = r_Chute x8_1_Chutes from rdw_Chute hg ht (dlen_Chute hg ht _), show rd (d_Inlet x8_1_Inlets) 0 (dlen (d_Inlet x8_1_Inlets)) = r_Inlet x8_1_Inlets from rdw_Inlet hg ht (dlen_Inlet hg ht _), show rd (d_I64 x8_1_Plan) 0 (dlen (d_I64 x8_1_Plan)) = r_I64 x8_1_Plan from rdw_I64 hg ht (dlen_I64 hg ht _)]; try rfl) (hF _ _ _ (c_L_eqCentre hg ht hx9)) (.inr rfl) (Nat.le_of_ble_eq_true rfl) ?_
        cbv
        cases hb4 : x9 with
        | true =>
          rw [br_true hb4] at h
          cbv
          try (rw [hb4]; cbv)
          try (rw [hb4]; cbv)
          cases hb5 : x8_2 with
          | true =>
            rw [br_true hb5] at h
            cbv
            cases hb6 : x4_2 with
            | true =>
              rw [br_true hb6] at h
              cbv
              try (rw [hb4]; cbv)
              obtain ⟨x10, hx10, h⟩ := of_cl h
              try dsimp only at h
              refine ACallR.mk _ _ (.c (.r (.s 1 (r_I64 x10)))) rfl (hF _ _ _ (c_L_toIntS hg ht hx10)) (.inl rfl) (Nat.le_of_ble_eq_true rfl) (by cbv; (try simp only [hrda_I64])) ?_
              cbv
              refine AStep.mk (lend_I64 ht (dlen_I64 hg ht _)) ?_
              cbv
              obtain ⟨x11, hx11, h⟩ := of_cl h
              try dsimp only at h
              refine ACall.mk _ _ (by rw [show rd (d_I64 x5) 0 (dlen (d_I64 x5)) = r_I64 x5 from rdw_I64 hg ht (dlen_I64 hg ht _)]; try rfl) (hF _ _ _ (c_L_eqIntS hg ht hx11)) (.inr rfl) (Nat.le_of_ble_eq_true rfl) ?_
              cbv
              cases hb7 : x11 with
              | true =>
                rw [br_true hb7] at h
                cbv
                obtain ⟨x12, hx12, h⟩ := of_cl h
                try dsimp only at h
                refine ACallR.mk _ _ (.c (.r (.s 1 (r_I64 x12)))) rfl (hF _ _ _ (c_L_toIntS hg ht hx12)) (.inl rfl) (Nat.le_of_ble_eq_true rfl) (by cbv; (try simp only [hrda_I64])) ?_
                cbv
                refine AStep.mk (lend_I64 ht (dlen_I64 hg ht _)) ?_
                cbv
                obtain ⟨x13, hx13, h⟩ := of_cl h
                try dsimp only at h
                refine ACall.mk _ _ (by rw [show rd (d_I64 x6) 0 (dlen (d_I64 x6)) = r_I64 x6 from rdw_I64 hg ht (dlen_I64 hg ht _)]; try rfl) (hF _ _ _ (c_L_eqIntS hg ht hx13)) (.inr rfl) (Nat.le_of_ble_eq_true rfl) ?_
                cbv
                cases hb8 : x13 with
                | true =>
                  rw [br_true hb8] at h
                  cbv
                  obtain ⟨x14, hx14, h⟩ := of_cl h
                  try dsimp only at h
                  refine ACallR.mk _ _ (.c (.r (.s 1 (r_I64 x14)))) rfl (hF _ _ _ (c_L_toIntS hg ht hx14)) (.inl rfl) (Nat.le_of_ble_eq_true rfl) (by cbv; (try simp only [hrda_I64])) ?_
                  cbv
                  refine AStep.mk (lend_I64 ht (dlen_I64 hg ht _)) ?_
                  cbv
                  obtain ⟨x15, hx15, h⟩ := of_cl h
                  try dsimp only at h
                  refine ACall.mk _ _ (by rw [show rd (d_I64 x7) 0 (dlen (d_I64 x7)) = r_I64 x7 from rdw_I64 hg ht (dlen_I64 hg ht _)]; try rfl) (hF _ _ _ (c_L_eqIntS hg ht hx15)) (.inr rfl) (Nat.le_of_ble_eq_true rfl) ?_
                  cbv
                  cases hb9 : x15 with
                  | true =>
                    rw [br_true hb9] at h
                    cbv
                    refine AStep.mk ⟨rfl, (dlen_I64 hg ht _)⟩ ?_
                    cbv
                    obtain ⟨x16, hx16, h⟩ := of_cl h
                    obtain ⟨x16_1, x16_2⟩ := x16
                    try dsimp only at h
                    refine ACallM.mk _ _ _ _ rfl rfl (hF _ _ _ (c_L_markIntS hg ht hx16)) rfl (Nat.le_of_ble_eq_true rfl) (Nat.le_of_ble_eq_true rfl) ?_
                    cbv
                    obtain ⟨hc1, h⟩ := of_gd h
                    refine AStep.mk ⟨rfl, (dlen_I64 hg ht _)⟩ ?_
                    cbv
                    obtain ⟨x17, hx17, h⟩ := of_cl h
                    obtain ⟨x17_1, x17_2⟩ := x17
                    try dsimp only at h
                    refine ACallM.mk _ _ _ _ rfl rfl (hF _ _ _ (c_L_markIntS hg ht hx17)) rfl (Nat.le_of_ble_eq_true rfl) (Nat.le_of_ble_eq_true rfl) ?_
                    cbv
                    obtain ⟨hc2, h⟩ := of_gd h
                    refine AStep.mk ⟨rfl, (dlen_I64 hg ht _)⟩ ?_
                    cbv
                    obtain ⟨x18, hx18, h⟩ := of_cl h
                    obtain ⟨x18_1, x18_2⟩ := x18
                    try dsimp only at h
                    refine ACallM.mk _ _ _ _ rfl rfl (hF _ _ _ (c_L_markIntS hg ht hx18)) rfl (Nat.le_of_ble_eq_true rfl) (Nat.le_of_ble_eq_true rfl) ?_
                    cbv
                    obtain ⟨hc3, h⟩ := of_gd h
                    cases hb10 : (lt x18_1 0) with
                    | true =>
                      rw [br_true hb10] at h
                      cbv
                      try (rw [hb10]; cbv)
                      try (rw [hb10]; cbv)
                      try (rw [hb10]; cbv)
                      try (rw [hb10]; cbv)
                      obtain rfl := Option.some.inj h
                      exact ARet.mk trivial hX.symm
                    | false =>
                      rw [br_false hb10] at h
                      cbv
                      try (rw [hb10]; cbv)
                      try (rw [hb10]; cbv)
                      refine AStep.mk ⟨(lend_Item ht (dlen_Item hg ht _)), ⟨(lend_Chute ht (dlen_Chute hg ht _)), ⟨(lend_Inlet ht (dlen_Inlet hg ht _)), (lend_I64 ht (dlen_I64 hg ht _))⟩⟩⟩ ?_
                      cbv
                      obtain ⟨x19, hx19, h⟩ := of_cl h
                      try dsimp only at h
                      refine ACall.mk _ _ (by rw [show rd (d_Item x8_1_Belt) 0 (dlen (d_Item x8_1_Belt)) = r_Item x8_1_Belt from rdw_Item hg ht (dlen_Item hg ht _), show rd (d_Chute x8_1_Chutes) 0 (dlen (d_Chute x8_1_Chutes)) = r_Chute x8_1_Chutes from rdw_Chute hg ht (dlen_Chute hg ht _), show rd (d_Inlet x8_1_Inlets) 0 (dlen (d_Inlet x8_1_Inlets)) = r_Inlet x8_1_Inlets from rdw_Inlet hg ht (dlen_Inlet hg ht _), show rd (d_I64 x8_1_Plan) 0 (dlen (d_I64 x8_1_Plan)) = r_I64 x8_1_Plan from rdw_I64 hg ht (dlen_I64 hg ht _)]; try rfl) (hF _ _ _ (c_L_eqCentre hg ht hx19)) (.inr rfl) (Nat.le_of_ble_eq_true rfl) ?_
                      cbv
                      try (rw [hb10]; cbv)
                      try (rw [hb10]; cbv)
                      cases hb11 : x19 with
                      | true =>
                        rw [br_true hb11] at h
                        cbv
                        try (rw [hb11]; cbv)
                        try (rw [hb11]; cbv)
                        try (rw [hb5]; cbv)
                        try (rw [hb6]; cbv)
                        try (rw [hb11]; cbv)
                        refine AStep.mk ⟨⟨rfl, (dlen_Item hg ht _)⟩, ⟨⟨rfl, (dlen_Chute hg ht _)⟩, ⟨⟨rfl, (dlen_Inlet hg ht _)⟩, ⟨rfl, (dlen_I64 hg ht _)⟩⟩⟩⟩ ?_
                        cbv
                        obtain ⟨x20, hx20, h⟩ := of_cl h
                        obtain ⟨x20_1, ⟨x20_2_Belt, x20_2_Chutes, x20_2_Inlets, x20_2_Plan, x20_2_Now⟩⟩ := x20
                        try dsimp only at h
                        refine ACallM.mk _ _ _ _ rfl rfl (hF _ _ _ (c_L_markCentre hg ht hx20)) rfl (Nat.le_of_ble_eq_true rfl) (Nat.le_of_ble_eq_true rfl) ?_
                        cbv
                        obtain ⟨hc4, h⟩ := of_gd h
                        obtain ⟨hc5, h⟩ := of_gd h
                        obtain ⟨hc6, h⟩ := of_gd h
                        obtain ⟨hc7, h⟩ := of_gd h
                        refine AStep.mk ⟨(lend_Item ht (lenp_Item ht (dlen_Item hg ht _) hc4)), ⟨(lend_Chute ht (lenp_Chute ht (dlen_Chute hg ht _) hc5)), ⟨(lend_Inlet ht (lenp_Inlet ht (dlen_Inlet hg ht _) hc6)), (lend_I64 ht (lenp_I64 ht (dlen_I64 hg ht _) hc7))⟩⟩⟩ ?_
                        cbv
                        obtain ⟨x21, hx21, h⟩ := of_lP h
                        try dsimp only at h
                        refine ACall.mk _ _ (by rw [show rd (d_Item x20_2_Belt) 0 (dlen (d_Item x8_1_Belt)) = r_Item x20_2_Belt from rdw_Item hg ht (lenp_Item ht (dlen_Item hg ht _) hc4), show rd (d_Chute x20_2_Chutes) 0 (dlen (d_Chute x8_1_Chutes)) = r_Chute x20_2_Chutes from rdw_Chute hg ht (lenp_Chute ht (dlen_Chute hg ht _) hc5), show rd (d_Inlet x20_2_Inlets) 0 (dlen (d_Inlet x8_1_Inlets)) = r_Inlet x20_2_Inlets from rdw_Inlet hg ht (lenp_Inlet ht (dlen_Inlet hg ht _) hc6), show rd (d_I64 x20_2_Plan) 0 (dlen (d_I64 x8_1_Plan)) = r_I64 x20_2_Plan from rdw_I64 hg ht (lenp_I64 ht (dlen_I64 hg ht _) hc7)]; try rfl) (hF _ _ _ (c_L_heldCentre hg ht hx21)) (.inr rfl) (Nat.le_of_ble_eq_true rfl) ?_
                        cbv
                        cases hb12 : (lt x21 0) with
                        | true =>
                          rw [br_true hb12] at h
                          cbv
                          obtain rfl := Option.some.inj h
                          exact ARet.mk trivial hX.symm
                        | false =>
                          rw [br_false hb12] at h
                          cbv
                          cases hb13 : (eq x21 x20_1) with
                          | true =>
                            rw [br_true hb13] at h
                            cbv
                            obtain ⟨x22, hx22, h⟩ := of_cl h
                            try dsimp only at h
                            refine ACallR.mk _ _ (.c (.r (.s 1 (r_I64 x22)))) rfl (hF _ _ _ (c_L_toIntS hg ht hx22)) (.inl rfl) (Nat.le_of_ble_eq_true rfl) (by cbv; (try simp only [hrda_I64])) ?_
                            cbv
                            obtain ⟨x23, hx23, h⟩ := of_cl h
                            try dsimp only at h
                            refine ACallR.mk _ _ (.c (.r (.s 1 (r_I64 x23)))) rfl (hF _ _ _ (c_L_toIntS hg ht hx23)) (.inl rfl) (Nat.le_of_ble_eq_true rfl) (by cbv; (try simp only [hrda_I64])) ?_
                            cbv
                            obtain ⟨x24, hx24, h⟩ := of_cl h
                            try dsimp only at h
                            refine ACallR.mk _ _ (.c (.r (.s 1 (r_I64 x24)))) rfl (hF _ _ _ (c_L_toIntS hg ht hx24)) (.inl rfl) (Nat.le_of_ble_eq_true rfl) (by cbv; (try simp only [hrda_I64])) ?_
                            cbv
                            obtain ⟨x25, hx25, h⟩ := of_cl h
                            obtain ⟨⟨x25_1_Belt, x25_1_Chutes, x25_1_Inlets, x25_1_Plan, x25_1_Now⟩, x25_2⟩ := x25
                            try dsimp only at h
                            refine ACallR.mk _ _ (.u [.g [.r (.s 2 (r_Item x25_1_Belt)), .r (.s 3 (r_Chute x25_1_Chutes)), .r (.s 2 (r_Inlet x25_1_Inlets)), .r (.s 1 (r_I64 x25_1_Plan)), .r (.v (.int .i64 x25_1_Now))], .c (.r (.v (.bool x25_2)))]) rfl (hF _ _ _ (c_I_NewCentre hg ht hx25)) (.inl rfl) (Nat.le_of_ble_eq_true rfl) (by cbv; (try simp only [hrda_Chute, hrda_I64, hrda_Inlet, hrda_Item])) ?_
                            cbv
                            obtain ⟨x26, hx26, h⟩ := of_cl h
                            try dsimp only at h
                            refine ACall.mk _ _ rfl (hF _ _ _ (c_L_eqCentre hg ht hx26)) (.inl rfl) (Nat.le_of_ble_eq_true rfl) ?_
                            cbv
                            cases hb14 : x26 with
                            | true =>
                              rw [br_true hb14] at h
                              cbv
                              try (rw [hb14]; cbv)
                              try (rw [hb14]; cbv)
                              cases hb15 : x25_2 with
                              | true =>
                                rw [br_true hb15] at h
                                cbv
                                try (rw [hb6]; cbv)
                                try (rw [hb14]; cbv)
                                refine AStep.mk ⟨(lend_Item ht (lenp_Item ht (dlen_Item hg ht _) hc4)), ⟨(lend_Chute ht (lenp_Chute ht (dlen_Chute hg ht _) hc5)), ⟨(lend_Inlet ht (lenp_Inlet ht (dlen_Inlet hg ht _) hc6)), (lend_I64 ht (lenp_I64 ht (dlen_I64 hg ht _) hc7))⟩⟩⟩ ?_
                                cbv
                                obtain ⟨x27, hx27, h⟩ := of_lP h
                                try dsimp only at h
                                refine ACall.mk _ _ (by rw [show rd (d_Item x20_2_Belt) 0 (dlen (d_Item x8_1_Belt)) = r_Item x20_2_Belt from rdw_Item hg ht (lenp_Item ht (dlen_Item hg ht _) hc4), show rd (d_Chute x20_2_Chutes) 0 (dlen (d_Chute x8_1_Chutes)) = r_Chute x20_2_Chutes from rdw_Chute hg ht (lenp_Chute ht (dlen_Chute hg ht _) hc5), show rd (d_Inlet x20_2_Inlets) 0 (dlen (d_Inlet x8_1_Inlets)) = r_Inlet x20_2_Inlets from rdw_Inlet hg ht (lenp_Inlet ht (dlen_Inlet hg ht _) hc6), show rd (d_I64 x20_2_Plan) 0 (dlen (d_I64 x8_1_Plan)) = r_I64 x20_2_Plan from rdw_I64 hg ht (lenp_I64 ht (dlen_I64 hg ht _) hc7)]; try rfl) (hF _ _ _ (c_L_heldCentre hg ht hx27)) (.inr rfl) (Nat.le_of_ble_eq_true rfl) ?_
                                cbv
                                cases hb16 : (lt x27 0) with
                                | true =>
                                  rw [br_true hb16] at h
                                  cbv
                                  obtain rfl := Option.some.inj h
                                  exact ARet.mk trivial hX.symm
                                | false =>
                                  rw [br_false hb16] at h
                                  cbv
                                  cases hb17 : (eq x27 x20_1) with
                                  | true =>
                                    rw [br_true hb17] at h
                                    cbv
                                    obtain rfl := Option.some.inj h
                                    exact ARet.mk trivial hX.symm
                                  | false =>
                                    rw [br_false hb17] at h
                                    cbv
                                    obtain rfl := Option.some.inj h
                                    exact ARet.mk trivial hX.symm
                              | false =>
                                rw [br_false hb15] at h
                                cbv
                                try (rw [hb6]; cbv)
                                try (rw [hb14]; cbv)
                                obtain rfl := Option.some.inj h
                                exact ARet.mk trivial hX.symm
                            | false =>
                              rw [br_false hb14] at h
                              cbv
                              try (rw [hb14]; cbv)
                              try (rw [hb14]; cbv)
                              try (rw [hb14]; cbv)
                              obtain rfl := Option.some.inj h
                              exact ARet.mk trivial hX.symm
                          | false =>
                            rw [br_false hb13] at h
                            cbv
                            obtain rfl := Option.some.inj h
                            exact ARet.mk trivial hX.symm
                      | false =>
                        rw [br_false hb11] at h
                        cbv
                        try (rw [hb11]; cbv)
                        try (rw [hb11]; cbv)
                        try (rw [hb11]; cbv)
                        obtain rfl := Option.some.inj h
                        exact ARet.mk trivial hX.symm
                  | false =>
                    rw [br_false hb9] at h
                    cbv
                    obtain rfl := Option.some.inj h
                    exact ARet.mk trivial hX.symm
                | false =>
                  rw [br_false hb8] at h
                  cbv
                  obtain rfl := Option.some.inj h
                  exact ARet.mk trivial hX.symm
              | false =>
                rw [br_false hb7] at h
                cbv
                obtain rfl := Option.some.inj h
                exact ARet.mk trivial hX.symm
            | false =>
              rw [br_false hb6] at h
              cbv
              try (rw [hb4]; cbv)
              obtain rfl := Option.some.inj h
              exact ARet.mk trivial hX.symm
          | false =>
            rw [br_false hb5] at h
            cbv
            cases hb18 : x4_2 with
            | true =>
              rw [br_true hb18] at h
              cbv
              try (rw [hb4]; cbv)
              obtain rfl := Option.some.inj h
              exact ARet.mk trivial hX.symm
            | false =>
              rw [br_false hb18] at h
              cbv
              try (rw [hb4]; cbv)
              obtain ⟨x28, hx28, h⟩ := of_cl h
              try dsimp only at h
              refine ACallR.mk _ _ (.c (.r (.s 1 (r_I64 x28)))) rfl (hF _ _ _ (c_L_toIntS hg ht hx28)) (.inl rfl) (Nat.le_of_ble_eq_true rfl) (by cbv; (try simp only [hrda_I64])) ?_
              cbv
              refine AStep.mk (lend_I64 ht (dlen_I64 hg ht _)) ?_
              cbv
              obtain ⟨x29, hx29, h⟩ := of_cl h
              try dsimp only at h
              refine ACall.mk _ _ (by rw [show rd (d_I64 x5) 0 (dlen (d_I64 x5)) = r_I64 x5 from rdw_I64 hg ht (dlen_I64 hg ht _)]; try rfl) (hF _ _ _ (c_L_eqIntS hg ht hx29)) (.inr rfl) (Nat.le_of_ble_eq_true rfl) ?_
              cbv
              cases hb19 : x29 with
              | true =>
                rw [br_true hb19] at h
                cbv
                obtain ⟨x30, hx30, h⟩ := of_cl h
                try dsimp only at h
                refine ACallR.mk _ _ (.c (.r (.s 1 (r_I64 x30)))) rfl (hF _ _ _ (c_L_toIntS hg ht hx30)) (.inl rfl) (Nat.le_of_ble_eq_true rfl) (by cbv; (try simp only [hrda_I64])) ?_
                cbv
                refine AStep.mk (lend_I64 ht (dlen_I64 hg ht _)) ?_
                cbv
                obtain ⟨x31, hx31, h⟩ := of_cl h
                try dsimp only at h
                refine ACall.mk _ _ (by rw [show rd (d_I64 x6) 0 (dlen (d_I64 x6)) = r_I64 x6 from rdw_I64 hg ht (dlen_I64 hg ht _)]; try rfl) (hF _ _ _ (c_L_eqIntS hg ht hx31)) (.inr rfl) (Nat.le_of_ble_eq_true rfl) ?_
                cbv
                cases hb20 : x31 with
                | true =>
                  rw [br_true hb20] at h
                  cbv
                  obtain ⟨x32, hx32, h⟩ := of_cl h
                  try dsimp only at h
                  refine ACallR.mk _ _ (.c (.r (.s 1 (r_I64 x32)))) rfl (hF _ _ _ (c_L_toIntS hg ht hx32)) (.inl rfl) (Nat.le_of_ble_eq_true rfl) (by cbv; (try simp only [hrda_I64])) ?_
                  cbv
                  refine AStep.mk (lend_I64 ht (dlen_I64 hg ht _)) ?_
                  cbv
                  obtain ⟨x33, hx33, h⟩ := of_cl h
                  try dsimp only at h
                  refine ACall.mk _ _ (by rw [show rd (d_I64 x7) 0 (dlen (d_I64 x7)) = r_I64 x7 from rdw_I64 hg ht (dlen_I64 hg ht _)]; try rfl) (hF _ _ _ (c_L_eqIntS hg ht hx33)) (.inr rfl) (Nat.le_of_ble_eq_true rfl) ?_
                  cbv
                  cases hb21 : x33 with
                  | true =>
                    rw [br_true hb21] at h
                    cbv
                    refine AStep.mk ⟨rfl, (dlen_I64 hg ht _)⟩ ?_
                    cbv
                    obtain ⟨x34, hx34, h⟩ := of_cl h
                    obtain ⟨x34_1, x34_2⟩ := x34
                    try dsimp only at h
                    refine ACallM.mk _ _ _ _ rfl rfl (hF _ _ _ (c_L_markIntS hg ht hx34)) rfl (Nat.le_of_ble_eq_true rfl) (Nat.le_of_ble_eq_true rfl) ?_
                    cbv
                    obtain ⟨hc8, h⟩ := of_gd h
                    refine AStep.mk ⟨rfl, (dlen_I64 hg ht _)⟩ ?_
                    cbv
                    obtain ⟨x35, hx35, h⟩ := of_cl h
                    obtain ⟨x35_1, x35_2⟩ := x35
                    try dsimp only at h
                    refine ACallM.mk _ _ _ _ rfl rfl (hF _ _ _ (c_L_markIntS hg ht hx35)) rfl (Nat.le_of_ble_eq_true rfl) (Nat.le_of_ble_eq_true rfl) ?_
                    cbv
                    obtain ⟨hc9, h⟩ := of_gd h
                    refine AStep.mk ⟨rfl, (dlen_I64 hg ht _)⟩ ?_
                    cbv
                    obtain ⟨x36, hx36, h⟩ := of_cl h
                    obtain ⟨x36_1, x36_2⟩ := x36
                    try dsimp only at h
                    refine ACallM.mk _ _ _ _ rfl rfl (hF _ _ _ (c_L_markIntS hg ht hx36)) rfl (Nat.le_of_ble_eq_true rfl) (Nat.le_of_ble_eq_true rfl) ?_
                    cbv
                    obtain ⟨hc10, h⟩ := of_gd h
                    cases hb22 : (lt x36_1 0) with
                    | true =>
                      rw [br_true hb22] at h
                      cbv
                      try (rw [hb22]; cbv)
                      try (rw [hb22]; cbv)
                      try (rw [hb22]; cbv)
                      try (rw [hb22]; cbv)
                      obtain rfl := Option.some.inj h
                      exact ARet.mk trivial hX.symm
                    | false =>
                      rw [br_false hb22] at h
                      cbv
                      try (rw [hb22]; cbv)
                      try (rw [hb22]; cbv)
                      refine AStep.mk ⟨(lend_Item ht (dlen_Item hg ht _)), ⟨(lend_Chute ht (dlen_Chute hg ht _)), ⟨(lend_Inlet ht (dlen_Inlet hg ht _)), (lend_I64 ht (dlen_I64 hg ht _))⟩⟩⟩ ?_
                      cbv
                      obtain ⟨x37, hx37, h⟩ := of_cl h
                      try dsimp only at h
                      refine ACall.mk _ _ (by rw [show rd (d_Item x8_1_Belt) 0 (dlen (d_Item x8_1_Belt)) = r_Item x8_1_Belt from rdw_Item hg ht (dlen_Item hg ht _), show rd (d_Chute x8_1_Chutes) 0 (dlen (d_Chute x8_1_Chutes)) = r_Chute x8_1_Chutes from rdw_Chute hg ht (dlen_Chute hg ht _), show rd (d_Inlet x8_1_Inlets) 0 (dlen (d_Inlet x8_1_Inlets)) = r_Inlet x8_1_Inlets from rdw_Inlet hg ht (dlen_Inlet hg ht _), show rd (d_I64 x8_1_Plan) 0 (dlen (d_I64 x8_1_Plan)) = r_I64 x8_1_Plan from rdw_I64 hg ht (dlen_I64 hg ht _)]; try rfl) (hF _ _ _ (c_L_eqCentre hg ht hx37)) (.inr rfl) (Nat.le_of_ble_eq_true rfl) ?_
                      cbv
                      try (rw [hb22]; cbv)
                      try (rw [hb22]; cbv)
                      cases hb23 : x37 with
                      | true =>
                        rw [br_true hb23] at h
                        cbv
                        try (rw [hb23]; cbv)
                        try (rw [hb23]; cbv)
                        try (rw [hb5]; cbv)
                        try (rw [hb18]; cbv)
                        try (rw [hb23]; cbv)
                        refine AStep.mk ⟨⟨rfl, (dlen_Item hg ht _)⟩, ⟨⟨rfl, (dlen_Chute hg ht _)⟩, ⟨⟨rfl, (dlen_Inlet hg ht _)⟩, ⟨rfl, (dlen_I64 hg ht _)⟩⟩⟩⟩ ?_
                        cbv
                        obtain ⟨x38, hx38, h⟩ := of_cl h
                        obtain ⟨x38_1, ⟨x38_2_Belt, x38_2_Chutes, x38_2_Inlets, x38_2_Plan, x38_2_Now⟩⟩ := x38
                        try dsimp only at h
                        refine ACallM.mk _ _ _ _ rfl rfl (hF _ _ _ (c_L_markCentre hg ht hx38)) rfl (Nat.le_of_ble_eq_true rfl) (Nat.le_of_ble_eq_true rfl) ?_
                        cbv
                        obtain ⟨hc11, h⟩ := of_gd h
                        obtain ⟨hc12, h⟩ := of_gd h
                        obtain ⟨hc13, h⟩ := of_gd h
                        obtain ⟨hc14, h⟩ := of_gd h
                        refine AStep.mk ⟨(lend_Item ht (lenp_Item ht (dlen_Item hg ht _) hc11)), ⟨(lend_Chute ht (lenp_Chute ht (dlen_Chute hg ht _) hc12)), ⟨(lend_Inlet ht (lenp_Inlet ht (dlen_Inlet hg ht _) hc13)), (lend_I64 ht (lenp_I64 ht (dlen_I64 hg ht _) hc14))⟩⟩⟩ ?_
                        cbv
                        obtain ⟨x39, hx39, h⟩ := of_lP h
                        try dsimp only at h
                        refine ACall.mk _ _ (by rw [show rd (d_Item x38_2_Belt) 0 (dlen (d_Item x8_1_Belt)) = r_Item x38_2_Belt from rdw_Item hg ht (lenp_Item ht (dlen_Item hg ht _) hc11), show rd (d_Chute x38_2_Chutes) 0 (dlen (d_Chute x8_1_Chutes)) = r_Chute x38_2_Chutes from rdw_Chute hg ht (lenp_Chute ht (dlen_Chute hg ht _) hc12), show rd (d_Inlet x38_2_Inlets) 0 (dlen (d_Inlet x8_1_Inlets)) = r_Inlet x38_2_Inlets from rdw_Inlet hg ht (lenp_Inlet ht (dlen_Inlet hg ht _) hc13), show rd (d_I64 x38_2_Plan) 0 (dlen (d_I64 x8_1_Plan)) = r_I64 x38_2_Plan from rdw_I64 hg ht (lenp_I64 ht (dlen_I64 hg ht _) hc14)]; try rfl) (hF _ _ _ (c_L_heldCentre hg ht hx39)) (.inr rfl) (Nat.le_of_ble_eq_true rfl) ?_
                        cbv
                        cases hb24 : (lt x39 0) with
                        | true =>
                          rw [br_true hb24] at h
                          cbv
                          obtain rfl := Option.some.inj h
                          exact ARet.mk trivial hX.symm
                        | false =>
                          rw [br_false hb24] at h
                          cbv
                          cases hb25 : (eq x39 x38_1) with
                          | true =>
                            rw [br_true hb25] at h
                            cbv
                            obtain ⟨x40, hx40, h⟩ := of_cl h
                            try dsimp only at h
                            refine ACallR.mk _ _ (.c (.r (.s 1 (r_I64 x40)))) rfl (hF _ _ _ (c_L_toIntS hg ht hx40)) (.inl rfl) (Nat.le_of_ble_eq_true rfl) (by cbv; (try simp only [hrda_I64])) ?_
                            cbv
                            obtain ⟨x41, hx41, h⟩ := of_cl h
                            try dsimp only at h
                            refine ACallR.mk _ _ (.c (.r (.s 1 (r_I64 x41)))) rfl (hF _ _ _ (c_L_toIntS hg ht hx41)) (.inl rfl) (Nat.le_of_ble_eq_true rfl) (by cbv; (try simp only [hrda_I64])) ?_
                            cbv
                            obtain ⟨x42, hx42, h⟩ := of_cl h
                            try dsimp only at h
                            refine ACallR.mk _ _ (.c (.r (.s 1 (r_I64 x42)))) rfl (hF _ _ _ (c_L_toIntS hg ht hx42)) (.inl rfl) (Nat.le_of_ble_eq_true rfl) (by cbv; (try simp only [hrda_I64])) ?_
                            cbv
                            obtain ⟨x43, hx43, h⟩ := of_cl h
                            obtain ⟨⟨x43_1_Belt, x43_1_Chutes, x43_1_Inlets, x43_1_Plan, x43_1_Now⟩, x43_2⟩ := x43
                            try dsimp only at h
                            refine ACallR.mk _ _ (.u [.g [.r (.s 2 (r_Item x43_1_Belt)), .r (.s 3 (r_Chute x43_1_Chutes)), .r (.s 2 (r_Inlet x43_1_Inlets)), .r (.s 1 (r_I64 x43_1_Plan)), .r (.v (.int .i64 x43_1_Now))], .c (.r (.v (.bool x43_2)))]) rfl (hF _ _ _ (c_I_NewCentre hg ht hx43)) (.inl rfl) (Nat.le_of_ble_eq_true rfl) (by cbv; (try simp only [hrda_Chute, hrda_I64, hrda_Inlet, hrda_Item])) ?_
                            cbv
                            obtain ⟨x44, hx44, h⟩ := of_cl h
                            try dsimp only at h
                            refine ACall.mk _ _ rfl (hF _ _ _ (c_L_eqCentre hg ht hx44)) (.inl rfl) (Nat.le_of_ble_eq_true rfl) ?_
                            cbv
                            cases hb26 : x44 with
                            | true =>
                              rw [br_true hb26] at h
                              cbv
                              try (rw [hb26]; cbv)
                              try (rw [hb26]; cbv)
                              cases hb27 : x43_2 with
                              | true =>
                                rw [br_true hb27] at h
                                cbv
                                try (rw [hb18]; cbv)
                                try (rw [hb26]; cbv)
                                obtain rfl := Option.some.inj h
                                exact ARet.mk trivial hX.symm
                              | false =>
                                rw [br_false hb27] at h
                                cbv
                                try (rw [hb18]; cbv)
                                try (rw [hb26]; cbv)
                                refine AStep.mk ⟨(lend_Item ht (lenp_Item ht (dlen_Item hg ht _) hc11)), ⟨(lend_Chute ht (lenp_Chute ht (dlen_Chute hg ht _) hc12)), ⟨(lend_Inlet ht (lenp_Inlet ht (dlen_Inlet hg ht _) hc13)), (lend_I64 ht (lenp_I64 ht (dlen_I64 hg ht _) hc14))⟩⟩⟩ ?_
                                cbv
                                obtain ⟨x45, hx45, h⟩ := of_lP h
                                try dsimp only at h
                                refine ACall.mk _ _ (by rw [show rd (d_Item x38_2_Belt) 0 (dlen (d_Item x8_1_Belt)) = r_Item x38_2_Belt from rdw_Item hg ht (lenp_Item ht (dlen_Item hg ht _) hc11), show rd (d_Chute x38_2_Chutes) 0 (dlen (d_Chute x8_1_Chutes)) = r_Chute x38_2_Chutes from rdw_Chute hg ht (lenp_Chute ht (dlen_Chute hg ht _) hc12), show rd (d_Inlet x38_2_Inlets) 0 (dlen (d_Inlet x8_1_Inlets)) = r_Inlet x38_2_Inlets from rdw_Inlet hg ht (lenp_Inlet ht (dlen_Inlet hg ht _) hc13), show rd (d_I64 x38_2_Plan) 0 (dlen (d_I64 x8_1_Plan)) = r_I64 x38_2_Plan from rdw_I64 hg ht (lenp_I64 ht (dlen_I64 hg ht _) hc14)]; try rfl) (hF _ _ _ (c_L_heldCentre hg ht hx45)) (.inr rfl) (Nat.le_of_ble_eq_true rfl) ?_
                                cbv
                                cases hb28 : (lt x45 0) with
                                | true =>
                                  rw [br_true hb28] at h
                                  cbv
                                  obtain rfl := Option.some.inj h
                                  exact ARet.mk trivial hX.symm
                                | false =>
                                  rw [br_false hb28] at h
                                  cbv
                                  cases hb29 : (eq x45 x38_1) with
                                  | true =>
                                    rw [br_true hb29] at h
                                    cbv
                                    obtain rfl := Option.some.inj h
                                    exact ARet.mk trivial hX.symm
                                  | false =>
                                    rw [br_false hb29] at h
                                    cbv
                                    obtain rfl := Option.some.inj h
                                    exact ARet.mk trivial hX.symm
                            | false =>
                              rw [br_false hb26] at h
                              cbv
                              try (rw [hb26]; cbv)
                              try (rw [hb26]; cbv)
                              try (rw [hb26]; cbv)
                              obtain rfl := Option.some.inj h
                              exact ARet.mk trivial hX.symm
                          | false =>
                            rw [br_false hb25] at h
                            cbv
                            obtain rfl := Option.some.inj h
                            exact ARet.mk trivial hX.symm
                      | false =>
                        rw [br_false hb23] at h
                        cbv
                        try (rw [hb23]; cbv)
                        try (rw [hb23]; cbv)
                        try (rw [hb23]; cbv)
                        obtain rfl := Option.some.inj h
                        exact ARet.mk trivial hX.symm
                  | false =>
                    rw [br_false hb21] at h
                    cbv
                    obtain rfl := Option.some.inj h
                    exact ARet.mk trivial hX.symm
                | false =>
                  rw [br_false hb20] at h
                  cbv
                  obtain rfl := Option.some.inj h
                  exact ARet.mk trivial hX.symm
              | false =>
                rw [br_false hb19] at h
                cbv
                obtain rfl := Option.some.inj h
                exact ARet.mk trivial hX.symm
        | false =>
          rw [br_false hb4] at h
          cbv
          try (rw [hb4]; cbv)
          try (rw [hb4]; cbv)
          try (rw [hb4]; cbv)
          obtain rfl := Option.some.inj h
          exact ARet.mk trivial hX.symm
end Go.Vs
