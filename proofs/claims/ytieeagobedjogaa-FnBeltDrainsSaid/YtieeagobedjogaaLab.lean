/- Part of the proofs of this seat's laws: Lab. No condition. -/
import Derived.Test.YtieeagobedjogaaTy
import Derived.Test.YtieeagobedjogaaTIRall
import Derived.Test.YtieeagobedjogaaLaa
set_option linter.unusedVariables false
set_option linter.unusedSimpArgs false
set_option linter.unusedSectionVars false
namespace Go.Vs
set_option maxRecDepth 100000
def ir109 : J :=
  .seq (.reg none [⟨(some 2), none, .mv (.k (.c (.n 2)))⟩] [0])
  (.seq (.reg none [⟨(some 3), none, .bsl 2 []⟩,
     ⟨(some 4), none, .mv (.t 0)⟩,
     ⟨(some 5), none, .app 2 16 false (.t 3) (.t 4)⟩,
     ⟨(some 2), none, .mv (.t 5)⟩] [2])
  (.ret))
def rv109 : List RV := [.t 2]
open Go.Proofs Go.IntWalk
set_option linter.unusedVariables false
set_option maxRecDepth 100000
set_option maxHeartbeats 4000000
def I_copyItems (g : G) (t : TE) (a0 : List Item) : Option (List Item) :=
  lP ([]) fun (l1 : List Item) =>
  gd (((l1.length + a0.length) * 16 ≤ 70368744177664)) <|
  lP (l1 ++ a0) fun (l2 : List Item) =>
  some l2
theorem fit109 : codeFit Try.prog Try.f109.ntmps (Try.f109.body.getD .skip) ir109 = true := by kernel_rfl
theorem c_I_copyItems {g : G} {t : TE} {a0 : List Item} {r : List Item} (hg : g = G.real) (ht : t = TE.real) (h : I_copyItems g t a0 = some r) : Fn Try.prog 109 [.c (.s 2 (t.r_Item a0))] (.c (.o 2 (t.d_Item r))) := by
  obtain ⟨X, hX⟩ := hide (.c (.o 2 (t.d_Item r)) : X)
  rw [← hX]
  refine fn_of (rvs := rv109) (j := ir109) Try.func109 rfl fit109 (Nat.le_of_ble_eq_true rfl) (by kernel_rfl) prog_mixed ?_
  intro g2 F hg2 hF
  obtain rfl : g2 = g := hg2.unique.trans hg.symm
  clear hg2
  obtain ⟨wrap, lt, le, eq, quo, rem, band, bor, bxor, shl, shr, nat, int, add, sub, mul, cat, seq, slt, sub3, byte, llen, nadd, nsub, dlen, dapp, dset, drep, rd, rda, up, rsub, dsub, all, sle, slen, hasI, putI, hasS, putS, imin, imax, fzc⟩ := g2
  obtain ⟨r_Item, d_Item, r_Chute, d_Chute, r_Inlet, d_Inlet, r_I64, d_I64, r_U8, d_U8, d_InletF⟩ := t
  unfold I_copyItems at h
  try dsimp only at h
  cbv
  obtain ⟨l1, hl1, h⟩ := of_lP h
  try dsimp only at h
  refine ANew.mk (d_Item l1) (dlen (d_Item l1)) (by rw [← hl1]; exact lit_Item hg ht []) (by rw [← hl1]; exact litn_Item hg ht []) ?_
  cbv
  obtain ⟨hc1, h⟩ := of_gd h
  refine AStep.mk (app_ok_Item hg ht (dlen_Item hg ht _) (up_Item hg ht _) hc1) ?_
  cbv
  obtain ⟨l2, hl2, h⟩ := of_lP h
  try dsimp only at h
  refine ANew.mk (d_Item l2) (dlen (d_Item l2)) (by rw [← hl2]; exact app_Item hg ht (dlen_Item hg ht _) (up_Item hg ht _)) (by rw [← hl2]; exact appl_Item hg ht (dlen_Item hg ht _) (up_Item hg ht _)) ?_
  cbv
  obtain rfl := Option.some.inj h
  exact ARet.mk ⟨rfl, (dlen_Item hg ht _)⟩ hX.symm
end Go.Vs
namespace Go.Vs
set_option maxRecDepth 100000
def ir94 : J :=
  .seq (.reg none [⟨(some 1), none, .box (.t 0)⟩,
     ⟨(some 2), none, .alloc [.n 2, .n 3, .n 2, .n 1, .r (.v (.int .i64 0))]⟩] [1, 2])
  (.seq (.reg (some [[], [0], [0, 1], [], [], [4], [0, 1, 2, 3, 4, 5], [], [7], [0, 1, 2, 3, 4, 5, 6, 7, 8], [], [0, 1, 2, 3, 4, 5, 6, 7, 8, 9, 10]]) [⟨(some 8), none, .fa 0 (.t 1)⟩,
     ⟨(some 9), none, .ld false 1 (.t 8)⟩,
     ⟨(some 10), none, .call 109 true [(.t 9)]⟩,
     ⟨(some 11), none, .bsl 1 []⟩,
     ⟨(some 12), none, .fa 3 (.t 1)⟩,
     ⟨(some 13), none, .ld false 1 (.t 12)⟩,
     ⟨(some 14), none, .app 1 8 false (.t 11) (.t 13)⟩,
     ⟨(some 15), none, .fa 4 (.t 1)⟩,
     ⟨(some 16), none, .ld false 1 (.t 15)⟩,
     ⟨(some 17), none, .bld [.n 2, .n 3, .n 2, .n 1, .r (.v (.int .i64 0))] [(0, 1, (.t 10)), (3, 1, (.t 14)), (4, 1, (.t 16))]⟩,
     ⟨(some 3), none, .alloc [.n 2, .n 3, .n 2, .n 1, .r (.v (.int .i64 0))]⟩,
     ⟨none, none, .st 5 (.t 3) (.t 17)⟩] [1, 2, 3])
  (.seq (.seq (.reg none [⟨(some 18), none, .fa 1 (.t 1)⟩,
      ⟨(some 19), none, .ld false 1 (.t 18)⟩,
      ⟨(some 20), none, .len false (.t 19)⟩,
      ⟨(some 21), none, .mv (.k (V.i 0))⟩] [1, 2, 3, 19, 20, 21])
   (.bl 0 (.seq (.reg none [⟨(some 22), none, .bin .lss .i (.t 21) (.t 20)⟩] [1, 2, 3, 19, 20, 21, 22])
    (.seq (.cond (.t 22)
      (.skip)
      (.exit 0))
    (.seq (.block 1 (.seq (.reg none [⟨(some 23), none, .ia 3 (.t 19) (.t 21)⟩,
         ⟨(some 24), none, .ld true 3 (.t 23)⟩,
         ⟨(some 5), none, .alloc [.r (.v (.int .i64 0)), .r (.v (.int .i64 0)), .n 2]⟩,
         ⟨none, none, .st 3 (.t 5) (.t 24)⟩] [1, 2, 3, 5, 19, 20, 21])
      (.reg (some [[], [0], [], [2], [], [4], [], [6], [6, 7], [2, 3, 4, 5, 6, 7, 8], [2, 3, 4, 5, 6, 7, 8, 9], [0, 1, 2, 3, 4, 5, 6, 7, 8, 9, 10], [0, 1, 2, 3, 4, 5, 6, 7, 8, 9, 10, 11], [0, 1, 2, 3, 4, 5, 6, 7, 8, 9, 10, 11, 12]]) [⟨(some 25), none, .fa 1 (.t 3)⟩,
        ⟨(some 26), none, .ld false 1 (.t 25)⟩,
        ⟨(some 27), none, .fa 0 (.t 5)⟩,
        ⟨(some 28), none, .ld false 1 (.t 27)⟩,
        ⟨(some 29), none, .fa 1 (.t 5)⟩,
        ⟨(some 30), none, .ld false 1 (.t 29)⟩,
        ⟨(some 31), none, .fa 2 (.t 5)⟩,
        ⟨(some 32), none, .ld false 1 (.t 31)⟩,
        ⟨(some 33), none, .call 109 true [(.t 32)]⟩,
        ⟨(some 34), none, .bld [.r (.v (.int .i64 0)), .r (.v (.int .i64 0)), .n 2] [(0, 1, (.t 28)), (1, 1, (.t 30)), (2, 1, (.t 33))]⟩,
        ⟨(some 35), none, .bsl 3 [(.t 34)]⟩,
        ⟨(some 36), none, .app 3 40 true (.t 26) (.t 35)⟩,
        ⟨(some 37), none, .fa 1 (.t 3)⟩,
        ⟨none, none, .st 1 (.t 37) (.t 36)⟩] [1, 2, 3, 19, 20, 21])))
    (.reg none [⟨(some 38), none, .bin .add .i (.t 21) (.k (V.i 1))⟩,
      ⟨(some 21), none, .mv (.t 38)⟩] [1, 2, 3, 19, 20, 21]))))))
  (.seq (.seq (.reg none [⟨(some 39), none, .fa 2 (.t 1)⟩,
      ⟨(some 40), none, .ld false 1 (.t 39)⟩,
      ⟨(some 41), none, .len false (.t 40)⟩,
      ⟨(some 42), none, .mv (.k (V.i 0))⟩] [2, 3, 40, 41, 42])
   (.bl 2 (.seq (.reg none [⟨(some 43), none, .bin .lss .i (.t 42) (.t 41)⟩] [2, 3, 40, 41, 42, 43])
    (.seq (.cond (.t 43)
      (.skip)
      (.exit 2))
    (.seq (.block 3 (.seq (.reg none [⟨(some 44), none, .ia 2 (.t 40) (.t 42)⟩,
         ⟨(some 45), none, .ld true 2 (.t 44)⟩,
         ⟨(some 7), none, .alloc [.r (.v (.int .i64 0)), .n 2]⟩,
         ⟨none, none, .st 2 (.t 7) (.t 45)⟩] [2, 3, 7, 40, 41, 42])
      (.reg (some [[], [0], [], [2], [], [4], [4, 5], [2, 3, 4, 5, 6], [2, 3, 4, 5, 6, 7], [0, 1, 2, 3, 4, 5, 6, 7, 8], [0, 1, 2, 3, 4, 5, 6, 7, 8, 9], [0, 1, 2, 3, 4, 5, 6, 7, 8, 9, 10]]) [⟨(some 46), none, .fa 2 (.t 3)⟩,
        ⟨(some 47), none, .ld false 1 (.t 46)⟩,
        ⟨(some 48), none, .fa 0 (.t 7)⟩,
        ⟨(some 49), none, .ld false 1 (.t 48)⟩,
        ⟨(some 50), none, .fa 1 (.t 7)⟩,
        ⟨(some 51), none, .ld false 1 (.t 50)⟩,
        ⟨(some 52), none, .call 109 true [(.t 51)]⟩,
        ⟨(some 53), none, .bld [.r (.v (.int .i64 0)), .n 2] [(0, 1, (.t 49)), (1, 1, (.t 52))]⟩,
        ⟨(some 54), none, .bsl 2 [(.t 53)]⟩,
        ⟨(some 55), none, .app 2 32 true (.t 47) (.t 54)⟩,
        ⟨(some 56), none, .fa 2 (.t 3)⟩,
        ⟨none, none, .st 1 (.t 56) (.t 55)⟩] [2, 3, 40, 41, 42])))
    (.reg none [⟨(some 57), none, .bin .add .i (.t 42) (.k (V.i 1))⟩,
      ⟨(some 42), none, .mv (.t 57)⟩] [2, 3, 40, 41, 42]))))))
  (.seq (.reg none [⟨(some 58), none, .ld true 5 (.t 3)⟩,
     ⟨none, none, .st 5 (.t 2) (.t 58)⟩] [2])
  (.ret)))))
def rv94 : List RV := [.c 2 true 5]
open Go.Proofs Go.IntWalk
set_option linter.unusedVariables false
set_option maxRecDepth 100000
set_option maxHeartbeats 4000000
def I_copyCentre_l2 (g : G) (t : TE) : List Inlet → List Inlet → Option (List Inlet)
  | [], w2 =>
    some w2
  | z2 :: ls2, w2 =>
    cl (I_copyItems g t z2.Wait) fun x3 =>
    lP ([(Inlet.mk z2.Cell x3)]) fun (l5 : List Inlet) =>
    gd (((w2.length + l5.length) * 32 ≤ 70368744177664)) <|
    lP (w2 ++ l5) fun (l6 : List Inlet) =>
    I_copyCentre_l2 g t ls2 l6
def I_copyCentre_l1 (g : G) (t : TE) : List Chute → List Chute → Option (List Chute)
  | [], w1 =>
    some w1
  | z1 :: ls1, w1 =>
    cl (I_copyItems g t z1.Held) fun x2 =>
    lP ([(Chute.mk z1.Cell z1.Room x2)]) fun (l3 : List Chute) =>
    gd (((w1.length + l3.length) * 40 ≤ 70368744177664)) <|
    lP (w1 ++ l3) fun (l4 : List Chute) =>
    I_copyCentre_l1 g t ls1 l4
def I_copyCentre (g : G) (t : TE) (a0 : Centre) : Option Centre :=
  cl (I_copyItems g t a0.Belt) fun x1 =>
  lP ([]) fun (l1 : List Int) =>
  gd (((l1.length + a0.Plan.length) * 8 ≤ 70368744177664)) <|
  lP (l1 ++ a0.Plan) fun (l2 : List Int) =>
  cl (I_copyCentre_l1 g t a0.Chutes []) fun y1 =>
  cl (I_copyCentre_l2 g t a0.Inlets []) fun y2 =>
  some (Centre.mk x1 y1 y2 l2 a0.Now)
theorem fit94 : codeFit Try.prog Try.f94.ntmps (Try.f94.body.getD .skip) ir94 = true := by kernel_rfl
theorem c_I_copyCentre {g : G} {t : TE} {a0 : Centre} {r : Centre} (hg : g = G.real) (ht : t = TE.real) (h : I_copyCentre g t a0 = some r) : Fn Try.prog 94 [.g (Centre.rs t a0)] (.g (Centre.ds t r)) := by
  obtain ⟨X, hX⟩ := hide (.g (Centre.ds t r) : X)
  rw [← hX]
  refine fn_of (rvs := rv94) (j := ir94) Try.func94 rfl fit94 (Nat.le_of_ble_eq_true rfl) (by kernel_rfl) prog_mixed ?_
  intro g2 F hg2 hF
  obtain rfl : g2 = g := hg2.unique.trans hg.symm
  clear hg2
  obtain ⟨wrap, lt, le, eq, quo, rem, band, bor, bxor, shl, shr, nat, int, add, sub, mul, cat, seq, slt, sub3, byte, llen, nadd, nsub, dlen, dapp, dset, drep, rd, rda, up, rsub, dsub, all, sle, slen, hasI, putI, hasS, putS, imin, imax, fzc⟩ := g2
  obtain ⟨r_Item, d_Item, r_Chute, d_Chute, r_Inlet, d_Inlet, r_I64, d_I64, r_U8, d_U8, d_InletF⟩ := t
  obtain ⟨a0_Belt, a0_Chutes, a0_Inlets, a0_Plan, a0_Now⟩ := a0
  have hnil_Item : d_Item [] = [] := d_nil_Item ht
  have hnil_Chute : d_Chute [] = [] := d_nil_Chute ht
  have hnil_Inlet : d_Inlet [] = [] := d_nil_Inlet ht
  have hnil_I64 : d_I64 [] = [] := d_nil_I64 ht
  have hnil_U8 : d_U8 [] = [] := d_nil_U8 ht
  unfold I_copyCentre at h
  try dsimp only at h
  cbv
  obtain ⟨x1, hx1, h⟩ := of_cl h
  try dsimp only at h
  refine ACall.mk _ _ rfl (hF _ _ _ (c_I_copyItems hg ht hx1)) (.inl rfl) (Nat.le_of_ble_eq_true rfl) ?_
  cbv
  obtain ⟨l1, hl1, h⟩ := of_lP h
  try dsimp only at h
  refine ANew.mk (d_I64 l1) (dlen (d_I64 l1)) (by rw [← hl1]; exact lit_I64 hg ht []) (by rw [← hl1]; exact litn_I64 hg ht []) ?_
  cbv
  obtain ⟨hc3, h⟩ := of_gd h
  refine AStep.mk (app_ok_I64 hg ht (dlen_I64 hg ht _) (up_I64 hg ht _) hc3) ?_
  cbv
  obtain ⟨l2, hl2, h⟩ := of_lP h
  try dsimp only at h
  refine ANew.mk (d_I64 l2) (dlen (d_I64 l2)) (by rw [← hl2]; exact app_I64 hg ht (dlen_I64 hg ht _) (up_I64 hg ht _)) (by rw [← hl2]; exact appl_I64 hg ht (dlen_I64 hg ht _) (up_I64 hg ht _)) ?_
  cbv
  obtain ⟨o1, ho1, h⟩ := of_cl h
  try dsimp only at h
  try rw [hg] at ho1
  try rw [ht] at ho1
  refine ABL.mk { p : Nat × Int × List Chute // p.1 ≤ a0_Chutes.length ∧ p.2.1 = ((p.1 : Nat) : Int) ∧ I_copyCentre_l1 G.real TE.real (List.drop p.1 a0_Chutes) p.2.2 = some o1 } (fun ⟨⟨k1, v1, w1⟩, _⟩ => ({ sl := [(1, .c (.p 0 5 0 0)), (2, .c (.p 1 5 0 0)), (3, .c (.p 2 5 0 0)), (19, .c (.r (.s 3 (r_Chute a0_Chutes)))), (20, .c (.r (.v (.int .i64 (llen (r_Chute a0_Chutes)))))), (21, .c (.r (.v (.int .i64 v1))))], tab := [(0, some (.foc 5 [] [.r (.s 2 (r_Item a0_Belt)), .r (.s 3 (r_Chute a0_Chutes)), .r (.s 2 (r_Inlet a0_Inlets)), .r (.s 1 (r_I64 a0_Plan)), .r (.v (.int .i64 a0_Now))] [])), (1, some (.foc 5 [] [.n 2, .n 3, .n 2, .n 1, .r (.v (.int .i64 0))] [])), (2, some (.foc 5 [] [.f 3 2 0 (dlen (d_Item x1)), .f 4 3 0 (dlen (d_Chute w1)), .n 2, .f 5 1 0 (dlen (d_I64 l2)), .r (.v (.int .i64 a0_Now))] [])), (3, some (.arr 2 (d_Item x1))), (4, some (.arr 3 (d_Chute w1))), (5, some (.arr 1 (d_I64 l2)))] } : St)) 6 (fun p => a0_Chutes.length - p.1.1) ⟨(0, 0, []), Nat.zero_le _, rfl, ho1⟩ (List Chute) (fun y1 => ({ sl := [(1, .c (.p 0 5 0 0)), (2, .c (.p 1 5 0 0)), (3, .c (.p 2 5 0 0))], tab := [(0, some (.foc 5 [] [.r (.s 2 (r_Item a0_Belt)), .r (.s 3 (r_Chute a0_Chutes)), .r (.s 2 (r_Inlet a0_Inlets)), .r (.s 1 (r_I64 a0_Plan)), .r (.v (.int .i64 a0_Now))] [])), (1, some (.foc 5 [] [.n 2, .n 3, .n 2, .n 1, .r (.v (.int .i64 0))] [])), (2, some (.foc 5 [] [.f 3 2 0 (dlen (d_Item x1)), .f 4 3 0 (dlen (d_Chute y1)), .n 2, .f 5 1 0 (dlen (d_I64 l2)), .r (.v (.int .i64 a0_Now))] [])), (3, some (.arr 2 (d_Item x1))), (4, some (.arr 3 (d_Chute y1))), (5, some (.arr 1 (d_I64 l2)))] } : St)) 6 (fun y => o1 = y) ?_ ?_ ?_
  · refine Wk.of [(0, some 0), (1, some 16), (2, some 192), (3, some 64), (4, none), (5, some 128)] rfl rfl ?_ ?_
    · cbv
      all_goals try rw [show dlen (d_Chute []) = 0 from dlen_nil_Chute hg ht]
      all_goals try rw [hnil_Chute]
      all_goals exact ⟨⟨_, rfl, rfl⟩, ⟨_, rfl, rfl⟩, ⟨_, rfl, rfl⟩, ⟨_, rfl, rfl⟩, ⟨_, rfl, rfl⟩, ⟨_, rfl, rfl⟩, trivial⟩
    · cbv
      all_goals try rw [show dlen (d_Chute []) = 0 from dlen_nil_Chute hg ht]
      all_goals try rw [hnil_Chute]
      all_goals exact ⟨⟨_, rfl, _, rfl, rfl, rfl, rfl, rfl, rfl, trivial⟩, ⟨_, rfl, _, rfl, rfl, rfl, rfl, rfl, rfl, trivial⟩, ⟨_, rfl, _, rfl, rfl, ⟨⟨_, rfl⟩, rfl, rfl⟩, rfl, rfl, rfl, trivial⟩, ⟨_, rfl, rfl⟩, ⟨_, rfl⟩, ⟨_, rfl, rfl⟩, trivial⟩
  · rintro ⟨⟨k1, v1, w1⟩, hk1, hi1, h_1⟩ hq1
    have hm1 := (hq1.1 19 _ _ rfl)
    try dsimp only at hk1 hi1 h_1
    clear hq1
    cbv
    by_cases hc1_ : k1 < a0_Chutes.length
    · have hb1 : lt v1 (llen (r_Chute a0_Chutes)) = true := ltL_true_Chute hg ht hi1 hc1_
      have hs1 := stepL_Chute hg ht hi1 hc1_ hm1
      obtain ⟨z1, hz1⟩ := some_of_lt hc1_
      rw [drop_of_some hz1] at h_1
      rw [I_copyCentre_l1] at h_1
      obtain ⟨z1_Cell, z1_Room, z1_Held⟩ := z1
      try rw [← hg] at h_1
      try rw [← ht] at h_1
      try dsimp only at h_1
      rw [hb1]
      cbv
      refine AStep.mk (nn_L hi1) ?_
      cbv
      refine AGet.mk _ (r_getL_Chute hg ht hi1 hz1) ?_
      cbv
      obtain ⟨x2, hx2, h_1⟩ := of_cl h_1
      try dsimp only at h_1
      refine ACall.mk _ _ rfl (hF _ _ _ (c_I_copyItems hg ht hx2)) (.inl rfl) (Nat.le_of_ble_eq_true rfl) ?_
      cbv
      refine AStep.mk ⟨rfl, (dlen_Item hg ht _)⟩ ?_
      cbv
      obtain ⟨l3, hl3, h_1⟩ := of_lP h_1
      try dsimp only at h_1
      refine ANew.mk (d_Chute l3) (dlen (d_Chute l3)) (by rw [← hl3]; have e := lit_Chute hg ht [(Chute.mk z1_Cell z1_Room x2)]; dsimp only [List.map, Chute.ds] at e; (try simp only [hnil_Item, hnil_Chute, hnil_Inlet, hnil_I64, hnil_U8] at e); exact e) (by rw [← hl3]; exact litn_Chute hg ht [(Chute.mk z1_Cell z1_Room x2)]) ?_
      cbv
      obtain ⟨hc1, h_1⟩ := of_gd h_1
      refine AStep.mk ⟨⟨rfl, (dlen_Chute hg ht _)⟩, (app_ok_Chute hg ht (dlen_Chute hg ht _) rfl hc1)⟩ ?_
      cbv
      obtain ⟨l4, hl4, h_1⟩ := of_lP h_1
      try dsimp only at h_1
      refine ANew.mk (d_Chute l4) (dlen (d_Chute l4)) (by rw [← hl4]; exact app_Chute hg ht (dlen_Chute hg ht _) rfl) (by rw [← hl4]; exact appl_Chute hg ht (dlen_Chute hg ht _) rfl) ?_
      cbv
      try rw [hg] at h_1
      try rw [ht] at h_1
      refine ⟨⟨(k1 + 1, (wrap .i64 (add v1 1)), l4), hc1_, hs1, h_1⟩, Wk.of [(0, some 0), (1, some 1), (2, some 2), (3, some 3), (4, some 262), (5, some 5)] rfl rfl ?_ ?_, meas_L hc1_⟩
      · cbv
        all_goals exact ⟨⟨_, rfl, rfl⟩, ⟨_, rfl, rfl⟩, ⟨_, rfl, rfl⟩, ⟨_, rfl, rfl⟩, ⟨_, rfl, rfl⟩, ⟨_, rfl, rfl⟩, trivial⟩
      · cbv
        all_goals exact ⟨⟨_, rfl, _, rfl, rfl, rfl, rfl, rfl, rfl, trivial⟩, ⟨_, rfl, _, rfl, rfl, rfl, rfl, rfl, rfl, trivial⟩, ⟨_, rfl, _, rfl, rfl, rfl, rfl, rfl, rfl, trivial⟩, ⟨_, rfl, rfl⟩, ⟨_, rfl, rfl⟩, ⟨_, rfl, rfl⟩, trivial⟩
    · have hb1 : lt v1 (llen (r_Chute a0_Chutes)) = false := ltL_false_Chute hg ht hi1 hc1_
      rw [List.drop_of_length_le (Nat.le_of_not_lt hc1_)] at h_1
      rw [I_copyCentre_l1] at h_1
      try rw [← hg] at h_1
      try rw [← ht] at h_1
      try dsimp only at h_1
      rw [hb1]
      cbv
      refine ⟨w1, Wk.of [(0, some 0), (1, some 1), (2, some 2), (3, some 3), (4, some 4), (5, some 5)] rfl rfl ?_ ?_, (Option.some.inj h_1).symm⟩
      · cbv
        all_goals exact ⟨⟨_, rfl, rfl⟩, ⟨_, rfl, rfl⟩, ⟨_, rfl, rfl⟩, trivial⟩
      · cbv
        all_goals exact ⟨⟨_, rfl, _, rfl, rfl, rfl, rfl, rfl, rfl, trivial⟩, ⟨_, rfl, _, rfl, rfl, rfl, rfl, rfl, rfl, trivial⟩, ⟨_, rfl, _, rfl, rfl, rfl, rfl, rfl, rfl, trivial⟩, ⟨_, rfl, rfl⟩, ⟨_, rfl, rfl⟩, ⟨_, rfl, rfl⟩, trivial⟩
  · rintro y1 hy1
    replace hy1 := hy1.symm
    subst hy1
    try dsimp only [lr, lrL, lrp, lrpL] at h
    cbv
    obtain ⟨o2, ho2, h⟩ := of_cl h
    try dsimp only at h
    try rw [hg] at ho2
    try rw [ht] at ho2
    refine ABL.mk { p : Nat × Int × List Inlet // p.1 ≤ a0_Inlets.length ∧ p.2.1 = ((p.1 : Nat) : Int) ∧ I_copyCentre_l2 G.real TE.real (List.drop p.1 a0_Inlets) p.2.2 = some o2 } (fun ⟨⟨k2, v2, w2⟩, _⟩ => ({ sl := [(2, .c (.p 0 5 0 0)), (3, .c (.p 1 5 0 0)), (40, .c (.r (.s 2 (r_Inlet a0_Inlets)))), (41, .c (.r (.v (.int .i64 (llen (r_Inlet a0_Inlets)))))), (42, .c (.r (.v (.int .i64 v2))))], tab := [(0, some (.foc 5 [] [.n 2, .n 3, .n 2, .n 1, .r (.v (.int .i64 0))] [])), (1, some (.foc 5 [] [.f 2 2 0 (dlen (d_Item x1)), .f 3 3 0 (dlen (d_Chute y1)), .f 4 2 0 (dlen (d_Inlet w2)), .f 5 1 0 (dlen (d_I64 l2)), .r (.v (.int .i64 a0_Now))] [])), (2, some (.arr 2 (d_Item x1))), (3, some (.arr 3 (d_Chute y1))), (4, some (.arr 2 (d_Inlet w2))), (5, some (.arr 1 (d_I64 l2)))] } : St)) 6 (fun p => a0_Inlets.length - p.1.1) ⟨(0, 0, []), Nat.zero_le _, rfl, ho2⟩ (List Inlet) (fun y2 => ({ sl := [(2, .c (.p 0 5 0 0)), (3, .c (.p 1 5 0 0))], tab := [(0, some (.foc 5 [] [.n 2, .n 3, .n 2, .n 1, .r (.v (.int .i64 0))] [])), (1, some (.foc 5 [] [.f 2 2 0 (dlen (d_Item x1)), .f 3 3 0 (dlen (d_Chute y1)), .f 4 2 0 (dlen (d_Inlet y2)), .f 5 1 0 (dlen (d_I64 l2)), .r (.v (.int .i64 a0_Now))] [])), (2, some (.arr 2 (d_Item x1))), (3, some (.arr 3 (d_Chute y1))), (4, some (.arr 2 (d_Inlet y2))), (5, some (.arr 1 (d_I64 l2)))] } : St)) 6 (fun y => o2 = y) ?_ ?_ ?_
    · refine Wk.of [(0, some 1), (1, some 2), (2, some 3), (3, some 4), (4, none), (5, some 5)] rfl rfl ?_ ?_
      · cbv
        all_goals try rw [show dlen (d_Inlet []) = 0 from dlen_nil_Inlet hg ht]
        all_goals try rw [hnil_Inlet]
        all_goals exact ⟨⟨_, rfl, rfl⟩, ⟨_, rfl, rfl⟩, ⟨_, rfl, rfl⟩, ⟨_, rfl, rfl⟩, ⟨_, rfl, rfl⟩, trivial⟩
      · cbv
        all_goals try rw [show dlen (d_Inlet []) = 0 from dlen_nil_Inlet hg ht]
        all_goals try rw [hnil_Inlet]
        all_goals exact ⟨⟨_, rfl, _, rfl, rfl, rfl, rfl, rfl, rfl, trivial⟩, ⟨_, rfl, _, rfl, rfl, rfl, ⟨⟨_, rfl⟩, rfl, rfl⟩, rfl, rfl, trivial⟩, ⟨_, rfl, rfl⟩, ⟨_, rfl, rfl⟩, ⟨_, rfl⟩, ⟨_, rfl, rfl⟩, trivial⟩
    · rintro ⟨⟨k2, v2, w2⟩, hk2, hi2, h_2⟩ hq2
      have hm2 := (hq2.1 40 _ _ rfl)
      try dsimp only at hk2 hi2 h_2
      clear hq2
      cbv
      by_cases hc2_ : k2 < a0_Inlets.length
      · have hb2 : lt v2 (llen (r_Inlet a0_Inlets)) = true := ltL_true_Inlet hg ht hi2 hc2_
        have hs2 := stepL_Inlet hg ht hi2 hc2_ hm2
        obtain ⟨z2, hz2⟩ := some_of_lt hc2_
        rw [drop_of_some hz2] at h_2
        rw [I_copyCentre_l2] at h_2
        obtain ⟨z2_Cell, z2_Wait⟩ := z2
        try rw [← hg] at h_2
        try rw [← ht] at h_2
        try dsimp only at h_2
        rw [hb2]
        cbv
        refine AStep.mk (nn_L hi2) ?_
        cbv
        refine AGet.mk _ (r_getL_Inlet hg ht hi2 hz2) ?_
        cbv
        obtain ⟨x3, hx3, h_2⟩ := of_cl h_2
        try dsimp only at h_2
        refine ACall.mk _ _ rfl (hF _ _ _ (c_I_copyItems hg ht hx3)) (.inl rfl) (Nat.le_of_ble_eq_true rfl) ?_
        cbv
        refine AStep.mk ⟨rfl, (dlen_Item hg ht _)⟩ ?_
        cbv
        obtain ⟨l5, hl5, h_2⟩ := of_lP h_2
        try dsimp only at h_2
        refine ANew.mk (d_Inlet l5) (dlen (d_Inlet l5)) (by rw [← hl5]; have e := lit_Inlet hg ht [(Inlet.mk z2_Cell x3)]; dsimp only [List.map, Inlet.ds] at e; (try simp only [hnil_Item, hnil_Chute, hnil_Inlet, hnil_I64, hnil_U8] at e); exact e) (by rw [← hl5]; exact litn_Inlet hg ht [(Inlet.mk z2_Cell x3)]) ?_
        cbv
        obtain ⟨hc2, h_2⟩ := of_gd h_2
        refine AStep.mk ⟨⟨rfl, (dlen_Inlet hg ht _)⟩, (app_ok_Inlet hg ht (dlen_Inlet hg ht _) rfl hc2)⟩ ?_
        cbv
        obtain ⟨l6, hl6, h_2⟩ := of_lP h_2
        try dsimp only at h_2
        refine ANew.mk (d_Inlet l6) (dlen (d_Inlet l6)) (by rw [← hl6]; exact app_Inlet hg ht (dlen_Inlet hg ht _) rfl) (by rw [← hl6]; exact appl_Inlet hg ht (dlen_Inlet hg ht _) rfl) ?_
        cbv
        try rw [hg] at h_2
        try rw [ht] at h_2
        refine ⟨⟨(k2 + 1, (wrap .i64 (add v2 1)), l6), hc2_, hs2, h_2⟩, Wk.of [(0, some 0), (1, some 1), (2, some 2), (3, some 3), (4, some 230), (5, some 5)] rfl rfl ?_ ?_, meas_L hc2_⟩
        · cbv
          all_goals exact ⟨⟨_, rfl, rfl⟩, ⟨_, rfl, rfl⟩, ⟨_, rfl, rfl⟩, ⟨_, rfl, rfl⟩, ⟨_, rfl, rfl⟩, trivial⟩
        · cbv
          all_goals exact ⟨⟨_, rfl, _, rfl, rfl, rfl, rfl, rfl, rfl, trivial⟩, ⟨_, rfl, _, rfl, rfl, rfl, rfl, rfl, rfl, trivial⟩, ⟨_, rfl, rfl⟩, ⟨_, rfl, rfl⟩, ⟨_, rfl, rfl⟩, ⟨_, rfl, rfl⟩, trivial⟩
      · have hb2 : lt v2 (llen (r_Inlet a0_Inlets)) = false := ltL_false_Inlet hg ht hi2 hc2_
        rw [List.drop_of_length_le (Nat.le_of_not_lt hc2_)] at h_2
        rw [I_copyCentre_l2] at h_2
        try rw [← hg] at h_2
        try rw [← ht] at h_2
        try dsimp only at h_2
        rw [hb2]
        cbv
        refine ⟨w2, Wk.of [(0, some 0), (1, some 1), (2, some 2), (3, some 3), (4, some 4), (5, some 5)] rfl rfl ?_ ?_, (Option.some.inj h_2).symm⟩
        · cbv
          all_goals exact ⟨⟨_, rfl, rfl⟩, ⟨_, rfl, rfl⟩, trivial⟩
        · cbv
          all_goals exact ⟨⟨_, rfl, _, rfl, rfl, rfl, rfl, rfl, rfl, trivial⟩, ⟨_, rfl, _, rfl, rfl, rfl, rfl, rfl, rfl, trivial⟩, ⟨_, rfl, rfl⟩, ⟨_, rfl, rfl⟩, ⟨_, rfl, rfl⟩, ⟨_, rfl, rfl⟩, trivial⟩
    · rintro y2 hy2
      replace hy2 := hy2.symm
      subst hy2
      try dsimp only [lr, lrL, lrp, lrpL] at h
      cbv
      obtain rfl := Option.some.inj h
      exact ARet.mk ⟨⟨rfl, (dlen_Item hg ht _)⟩, ⟨⟨rfl, (dlen_Chute hg ht _)⟩, ⟨⟨rfl, (dlen_Inlet hg ht _)⟩, ⟨rfl, (dlen_I64 hg ht _)⟩⟩⟩⟩ hX.symm
end Go.Vs
namespace Go.Vs
set_option maxRecDepth 100000
def ir95 : J :=
  .seq (.reg none [⟨(some 9), none, .mv (.t 0)⟩,
     ⟨(some 10), none, .nilc (.t 9)⟩,
     ⟨(some 11), none, .fa 0 (.t 10)⟩,
     ⟨(some 12), none, .ld false 1 (.t 11)⟩,
     ⟨(some 13), none, .len false (.t 12)⟩,
     ⟨(some 2), none, .mv (.t 13)⟩] [0, 2])
  (.seq (.reg (some [[], [0], [0, 1], [0, 1, 2], [], [4], [0, 1, 2, 3, 4, 5], [0, 1, 2, 3, 4, 5, 6], [0, 1, 2, 3, 4, 5, 6, 7], [], [9], [9, 10], [9, 10, 11], [], [13], [9, 10, 11, 12, 13, 14], [0, 1, 2, 3, 4, 5, 6, 7, 8, 9, 10, 11, 12, 13, 14, 15], [0, 1, 2, 3, 4, 5, 6, 7, 8, 9, 10, 11, 12, 13, 14, 15, 16]]) [⟨(some 14), none, .mv (.t 0)⟩,
     ⟨(some 15), none, .nilc (.t 14)⟩,
     ⟨(some 16), none, .fa 0 (.t 15)⟩,
     ⟨(some 17), none, .ld false 1 (.t 16)⟩,
     ⟨(some 18), none, .mv (.t 2)⟩,
     ⟨(some 19), none, .bin .sub .i (.t 18) (.k (V.i 1))⟩,
     ⟨(some 20), none, .ia 2 (.t 17) (.t 19)⟩,
     ⟨(some 21), none, .ld true 2 (.t 20)⟩,
     ⟨(some 22), none, .bsl 2 [(.t 21)]⟩,
     ⟨(some 23), none, .mv (.t 0)⟩,
     ⟨(some 24), none, .nilc (.t 23)⟩,
     ⟨(some 25), none, .fa 0 (.t 24)⟩,
     ⟨(some 26), none, .ld false 1 (.t 25)⟩,
     ⟨(some 27), none, .mv (.t 2)⟩,
     ⟨(some 28), none, .bin .sub .i (.t 27) (.k (V.i 1))⟩,
     ⟨(some 29), none, .sl 2 (.t 26) none (some (.t 28))⟩,
     ⟨(some 30), none, .app 2 16 false (.t 22) (.t 29)⟩,
     ⟨(some 3), none, .mv (.t 30)⟩] [0, 3])
  (.seq (.seq (.reg none [⟨(some 31), none, .mv (.t 0)⟩,
      ⟨(some 32), none, .nilc (.t 31)⟩,
      ⟨(some 33), none, .fa 1 (.t 32)⟩,
      ⟨(some 34), none, .ld false 1 (.t 33)⟩,
      ⟨(some 35), none, .len false (.t 34)⟩,
      ⟨(some 36), none, .mv (.k (V.i 0))⟩] [0, 3, 35, 36])
   (.bl 0 (.seq (.reg none [⟨(some 37), none, .bin .lss .i (.t 36) (.t 35)⟩] [0, 3, 35, 36, 37])
    (.seq (.cond (.t 37)
      (.skip)
      (.exit 0))
    (.seq (.block 1 (.seq (.reg none [⟨(some 38), none, .mv (.t 36)⟩,
         ⟨(some 4), none, .mv (.t 38)⟩] [0, 3, 4, 35, 36])
      (.seq (.reg none [⟨(some 39), none, .mv (.t 0)⟩,
         ⟨(some 40), none, .nilc (.t 39)⟩,
         ⟨(some 41), none, .fa 1 (.t 40)⟩,
         ⟨(some 42), none, .ld false 1 (.t 41)⟩,
         ⟨(some 43), none, .mv (.t 4)⟩,
         ⟨(some 44), none, .ia 3 (.t 42) (.t 43)⟩,
         ⟨(some 5), none, .mv (.t 44)⟩] [0, 3, 4, 5, 35, 36])
      (.seq (.reg none [⟨(some 45), none, .mv (.t 3)⟩,
         ⟨(some 46), none, .mv (.t 5)⟩,
         ⟨(some 47), none, .nilc (.t 46)⟩,
         ⟨(some 48), none, .fa 0 (.t 47)⟩,
         ⟨(some 49), none, .ld false 1 (.t 48)⟩,
         ⟨(some 50), none, .ia 2 (.t 45) (.t 49)⟩,
         ⟨(some 51), none, .ld true 2 (.t 50)⟩,
         ⟨(some 6), none, .alloc [.r (.v (.int .i64 0)), .r (.v (.int .i64 0))]⟩,
         ⟨none, none, .st 2 (.t 6) (.t 51)⟩] [0, 3, 4, 5, 6, 35, 36])
      (.seq (.gh (.ga (.reg (some [[], [], [0, 1], [0, 1, 2], [0, 1, 2, 3], [0, 1, 2, 3, 4], [0, 1, 2, 3, 4, 5], [0, 1, 2, 3, 4, 5, 6], [0, 1, 2, 3], [0, 1, 2, 3, 8], [0, 1, 2, 3, 4, 5, 6, 7, 8, 9], [0, 1, 2, 3, 4, 5, 6, 7, 8, 9, 10], [0, 1, 2, 3], [0, 1, 2, 3, 4, 5, 6, 7, 8, 9, 10, 11, 12], [0, 1, 2, 3, 4, 5, 6, 7, 8, 9, 10, 11, 12, 13], [0, 1, 2, 3, 4, 5, 6, 7, 8, 9, 10, 11, 12, 13, 14], [0, 1, 2, 3, 4, 5, 6, 7, 8, 9, 10, 11, 12, 13, 14, 15], [0, 1, 2, 3, 4, 5, 6, 7, 8, 9, 10, 11, 12, 13, 14, 15, 16], [0, 1, 2, 3, 4, 5, 6, 7, 8, 9, 10, 11, 12, 13, 14, 15, 16, 17], [0, 1, 2, 3, 4, 5, 6, 7, 8, 9, 10, 11, 12, 13, 14, 15, 16, 17, 18], [0, 1, 2, 3, 4, 5, 6, 7, 8, 9, 10, 11, 12, 13, 14, 15, 16, 17, 18, 19], [0, 1, 2, 3, 4, 5, 6, 7, 8, 9, 10, 11, 12, 13, 14, 15], [0, 1, 2, 3, 4, 5, 6, 7, 8, 9, 10, 11, 12, 13, 14, 15, 21], [0, 1, 2, 3, 4, 5, 6, 7, 8, 9, 10, 11, 12, 13, 14, 15, 21, 22], [0, 1, 2, 3, 4, 5, 6, 7, 8, 9, 10, 11, 12, 13, 14, 15, 21, 22, 23], [0, 1, 2, 3, 4, 5, 6, 7, 8, 9, 10, 11, 12, 13, 14, 15, 16, 17, 18, 19, 20, 21, 22, 23, 24], [0, 1, 2, 3, 4, 5, 6, 7, 8, 9, 10, 11, 12, 13, 14, 15, 16, 17, 18, 19, 20, 21, 22, 23, 24, 25]]) [⟨(some 52), none, .ld true 2 (.t 6)⟩,
          ⟨(some 53), none, .bld [.r (.v (.int .i64 0)), .r (.v (.int .i64 0))] []⟩,
          ⟨(some 54), none, .eqs true [.i, .i] (.t 52) (.t 53)⟩,
          ⟨(some 55), none, .mv (.t 54)⟩,
          ⟨(some 56), (some (55, true)), .mv (.t 0)⟩,
          ⟨(some 57), (some (55, true)), .nilc (.t 56)⟩,
          ⟨(some 58), (some (55, true)), .fa 3 (.t 57)⟩,
          ⟨(some 59), (some (55, true)), .ld false 1 (.t 58)⟩,
          ⟨(some 60), (some (55, true)), .fa 1 (.t 6)⟩,
          ⟨(some 61), (some (55, true)), .ld false 1 (.t 60)⟩,
          ⟨(some 62), (some (55, true)), .ia 1 (.t 59) (.t 61)⟩,
          ⟨(some 63), (some (55, true)), .ld false 1 (.t 62)⟩,
          ⟨(some 64), (some (55, true)), .mv (.t 4)⟩,
          ⟨(some 65), (some (55, true)), .bin .eql .i (.t 63) (.t 64)⟩,
          ⟨(some 66), none, .pick (.t 55) (.t 65) (.k (V.b false))⟩,
          ⟨(some 67), none, .mv (.t 66)⟩,
          ⟨(some 68), (some (67, true)), .mv (.t 5)⟩,
          ⟨(some 69), (some (67, true)), .nilc (.t 68)⟩,
          ⟨(some 70), (some (67, true)), .fa 2 (.t 69)⟩,
          ⟨(some 71), (some (67, true)), .ld false 1 (.t 70)⟩,
          ⟨(some 72), (some (67, true)), .len false (.t 71)⟩,
          ⟨(some 73), (some (67, true)), .mv (.t 5)⟩,
          ⟨(some 74), (some (67, true)), .nilc (.t 73)⟩,
          ⟨(some 75), (some (67, true)), .fa 1 (.t 74)⟩,
          ⟨(some 76), (some (67, true)), .ld false 1 (.t 75)⟩,
          ⟨(some 77), (some (67, true)), .bin .lss .i (.t 72) (.t 76)⟩,
          ⟨(some 78), none, .pick (.t 67) (.t 77) (.k (V.b false))⟩] [0, 3, 5, 6, 35, 36, 78])))
      (.cond (.t 78)
       (.seq (.gh (.ga (.reg (some [[], [], [1], [1, 2], [1, 2, 3], [], [5], [1, 2, 3, 4, 5, 6], [0, 1, 2, 3, 4, 5, 6, 7], [0, 1, 2, 3, 4, 5, 6, 7, 8], [0, 1, 2, 3, 4, 5, 6, 7, 8, 9]]) [⟨(some 79), none, .mv (.t 5)⟩,
            ⟨(some 80), none, .mv (.t 5)⟩,
            ⟨(some 81), none, .nilc (.t 80)⟩,
            ⟨(some 82), none, .fa 2 (.t 81)⟩,
            ⟨(some 83), none, .ld false 1 (.t 82)⟩,
            ⟨(some 84), none, .ld true 2 (.t 6)⟩,
            ⟨(some 85), none, .bsl 2 [(.t 84)]⟩,
            ⟨(some 86), none, .app 2 16 true (.t 83) (.t 85)⟩,
            ⟨(some 87), none, .nilc (.t 79)⟩,
            ⟨(some 88), none, .fa 2 (.t 87)⟩,
            ⟨none, none, .st 1 (.t 88) (.t 86)⟩] [0, 3, 5, 35, 36])))
        (.reg none [⟨(some 89), none, .mv (.t 3)⟩,
          ⟨(some 90), none, .mv (.t 5)⟩,
          ⟨(some 91), none, .nilc (.t 90)⟩,
          ⟨(some 92), none, .fa 0 (.t 91)⟩,
          ⟨(some 93), none, .ld false 1 (.t 92)⟩,
          ⟨(some 94), none, .bld [.r (.v (.int .i64 0)), .r (.v (.int .i64 0))] []⟩,
          ⟨(some 95), none, .ia 2 (.t 89) (.t 93)⟩,
          ⟨none, none, .st 2 (.t 95) (.t 94)⟩] [0, 3, 35, 36]))
       (.skip)))))))
    (.reg none [⟨(some 96), none, .bin .add .i (.t 36) (.k (V.i 1))⟩,
      ⟨(some 36), none, .mv (.t 96)⟩] [0, 3, 35, 36]))))))
  (.seq (.seq (.reg none [⟨(some 97), none, .mv (.t 0)⟩,
      ⟨(some 98), none, .nilc (.t 97)⟩,
      ⟨(some 99), none, .fa 2 (.t 98)⟩,
      ⟨(some 100), none, .ld false 1 (.t 99)⟩,
      ⟨(some 101), none, .len false (.t 100)⟩,
      ⟨(some 102), none, .mv (.k (V.i 0))⟩] [0, 3, 101, 102])
   (.bl 2 (.seq (.reg none [⟨(some 103), none, .bin .lss .i (.t 102) (.t 101)⟩] [0, 3, 101, 102, 103])
    (.seq (.cond (.t 103)
      (.skip)
      (.exit 2))
    (.seq (.block 3 (.seq (.reg none [⟨(some 104), none, .mv (.t 102)⟩,
         ⟨(some 7), none, .mv (.t 104)⟩] [0, 3, 7, 101, 102])
      (.seq (.reg none [⟨(some 105), none, .mv (.t 0)⟩,
         ⟨(some 106), none, .nilc (.t 105)⟩,
         ⟨(some 107), none, .fa 2 (.t 106)⟩,
         ⟨(some 108), none, .ld false 1 (.t 107)⟩,
         ⟨(some 109), none, .mv (.t 7)⟩,
         ⟨(some 110), none, .ia 2 (.t 108) (.t 109)⟩,
         ⟨(some 8), none, .mv (.t 110)⟩] [0, 3, 8, 101, 102])
      (.seq (.gh (.ga (.reg none [⟨(some 111), none, .mv (.t 8)⟩,
          ⟨(some 112), none, .nilc (.t 111)⟩,
          ⟨(some 113), none, .fa 1 (.t 112)⟩,
          ⟨(some 114), none, .ld false 1 (.t 113)⟩,
          ⟨(some 115), none, .len false (.t 114)⟩,
          ⟨(some 116), none, .bin .gtr .i (.t 115) (.k (V.i 0))⟩,
          ⟨(some 117), none, .mv (.t 116)⟩,
          ⟨(some 118), (some (117, true)), .mv (.t 3)⟩,
          ⟨(some 119), (some (117, true)), .mv (.t 8)⟩,
          ⟨(some 120), (some (117, true)), .nilc (.t 119)⟩,
          ⟨(some 121), (some (117, true)), .fa 0 (.t 120)⟩,
          ⟨(some 122), (some (117, true)), .ld false 1 (.t 121)⟩,
          ⟨(some 123), (some (117, true)), .ia 2 (.t 118) (.t 122)⟩,
          ⟨(some 124), (some (117, true)), .ld true 2 (.t 123)⟩,
          ⟨(some 125), (some (117, true)), .bld [.r (.v (.int .i64 0)), .r (.v (.int .i64 0))] []⟩,
          ⟨(some 126), (some (117, true)), .eqs false [.i, .i] (.t 124) (.t 125)⟩,
          ⟨(some 127), none, .pick (.t 117) (.t 126) (.k (V.b false))⟩] [0, 3, 8, 101, 102, 127])))
      (.cond (.t 127)
       (.seq (.gh (.ga (.reg (some [[], [], [1], [1, 2], [1, 2, 3], [], [5], [5, 6], [5, 6, 7], [5, 6, 7, 8], [5, 6, 7, 8, 9], [0, 1, 2, 3, 4, 5, 6, 7, 8, 9, 10], [0, 1, 2, 3, 4, 5, 6, 7, 8, 9, 10, 11]]) [⟨(some 128), none, .mv (.t 3)⟩,
            ⟨(some 129), none, .mv (.t 8)⟩,
            ⟨(some 130), none, .nilc (.t 129)⟩,
            ⟨(some 131), none, .fa 0 (.t 130)⟩,
            ⟨(some 132), none, .ld false 1 (.t 131)⟩,
            ⟨(some 133), none, .mv (.t 8)⟩,
            ⟨(some 134), none, .nilc (.t 133)⟩,
            ⟨(some 135), none, .fa 1 (.t 134)⟩,
            ⟨(some 136), none, .ld false 1 (.t 135)⟩,
            ⟨(some 137), none, .ia 2 (.t 136) (.k (V.i 0))⟩,
            ⟨(some 138), none, .ld true 2 (.t 137)⟩,
            ⟨(some 139), none, .ia 2 (.t 128) (.t 132)⟩,
            ⟨none, none, .st 2 (.t 139) (.t 138)⟩] [0, 3, 8, 101, 102])))
        (.gh (.ga (.reg none [⟨(some 140), none, .mv (.t 8)⟩,
           ⟨(some 141), none, .mv (.t 8)⟩,
           ⟨(some 142), none, .nilc (.t 141)⟩,
           ⟨(some 143), none, .fa 1 (.t 142)⟩,
           ⟨(some 144), none, .ld false 1 (.t 143)⟩,
           ⟨(some 145), none, .sl 2 (.t 144) (some (.k (V.i 1))) none⟩,
           ⟨(some 146), none, .call 109 true [(.t 145)]⟩,
           ⟨(some 147), none, .nilc (.t 140)⟩,
           ⟨(some 148), none, .fa 1 (.t 147)⟩,
           ⟨none, none, .st 1 (.t 148) (.t 146)⟩] [0, 3, 101, 102]))))
       (.skip))))))
    (.reg none [⟨(some 149), none, .bin .add .i (.t 102) (.k (V.i 1))⟩,
      ⟨(some 102), none, .mv (.t 149)⟩] [0, 3, 101, 102]))))))
  (.seq (.reg none [⟨(some 150), none, .mv (.t 0)⟩,
     ⟨(some 151), none, .mv (.t 3)⟩,
     ⟨(some 152), none, .nilc (.t 150)⟩,
     ⟨(some 153), none, .fa 0 (.t 152)⟩,
     ⟨none, none, .st 1 (.t 153) (.t 151)⟩] [0])
  (.reg none [⟨(some 154), none, .mv (.t 0)⟩,
    ⟨(some 155), none, .nilc (.t 154)⟩,
    ⟨(some 156), none, .fa 4 (.t 155)⟩,
    ⟨(some 157), none, .ld false 1 (.t 156)⟩,
    ⟨(some 158), none, .bin .add .i (.t 157) (.k (V.i 1))⟩,
    ⟨(some 159), none, .nilc (.t 154)⟩,
    ⟨(some 160), none, .fa 4 (.t 159)⟩,
    ⟨none, none, .st 1 (.t 160) (.t 158)⟩] [])))))
def rv95 : List RV := []
open Go.Proofs Go.IntWalk
set_option linter.unusedVariables false
set_option maxRecDepth 100000
set_option maxHeartbeats 4000000
def I_tick_l2 (g : G) (t : TE) : Nat → Int → List Inlet → List Item → Option ((List Inlet) × List Item)
  | 0, v2, w3, w4 =>
    some (w3, w4)
  | n2 + 1, v2, w3, w4 =>
    gd (((0 : Int) ≤ v2 ∧ v2 < (((g.dlen (t.d_Inlet w3)) : Nat) : Int))) <|
    gt w3 (g.nat v2) fun x7 =>
    br (g.lt 0 (g.int (g.dlen (t.d_Item x7.Wait))))
    (
     gd (((0 : Int) ≤ x7.Cell ∧ x7.Cell < (((g.dlen (t.d_Item w4)) : Nat) : Int))) <|
     gt w4 (g.nat x7.Cell) fun x8 =>
     br (g.all [(g.eq x8.Id 0), (g.eq x8.Dest 0)])
     (
      gd (((0 : Int) ≤ 0 ∧ 0 < (((g.dlen (t.d_Item x7.Wait)) : Nat) : Int))) <|
      gt x7.Wait (g.nat 0) fun x9 =>
      gd (((0 : Int) ≤ x7.Cell ∧ x7.Cell < (((g.dlen (t.d_Item w4)) : Nat) : Int))) <|
      lP (List.set w4 (g.nat x7.Cell) (Item.mk x9.Id x9.Dest)) fun (l7 : List Item) =>
      gd (((0 : Int) ≤ 1 ∧ 1 ≤ (g.int (g.dlen (t.d_Item x7.Wait))) ∧ (g.int (g.dlen (t.d_Item x7.Wait))) ≤ (((g.dlen (t.d_Item x7.Wait)) : Nat) : Int))) <|
      gd (((g.nat 1) + (g.nsub (g.nat (g.int (g.dlen (t.d_Item x7.Wait)))) (g.nat 1)) ≤ x7.Wait.length)) <|
      cl (I_copyItems g t (List.take (g.nsub (g.nat (g.int (g.dlen (t.d_Item x7.Wait)))) (g.nat 1)) (List.drop (g.nat 1) x7.Wait))) fun x10 =>
      lP (List.set w3 (g.nat v2) (Inlet.mk x7.Cell x10)) fun (l8 : List Inlet) =>
      I_tick_l2 g t n2 (g.wrap .i64 (g.add v2 1)) l8 l7)
     (
      I_tick_l2 g t n2 (g.wrap .i64 (g.add v2 1)) w3 w4))
    (
     I_tick_l2 g t n2 (g.wrap .i64 (g.add v2 1)) w3 w4)
def I_tick_l1 (g : G) (t : TE) (a0 : Centre) : Nat → Int → List Chute → List Item → Option ((List Chute) × List Item)
  | 0, v1, w1, w2 =>
    some (w1, w2)
  | n1 + 1, v1, w1, w2 =>
    gd (((0 : Int) ≤ v1 ∧ v1 < (((g.dlen (t.d_Chute w1)) : Nat) : Int))) <|
    gt w1 (g.nat v1) fun x2 =>
    gd (((0 : Int) ≤ x2.Cell ∧ x2.Cell < (((g.dlen (t.d_Item w2)) : Nat) : Int))) <|
    gt w2 (g.nat x2.Cell) fun x3 =>
    br (g.all [(g.eq x3.Id 0), (g.eq x3.Dest 0)])
    (
     I_tick_l1 g t a0 n1 (g.wrap .i64 (g.add v1 1)) w1 w2)
    (
     gd (((0 : Int) ≤ x3.Dest ∧ x3.Dest < (((g.dlen (t.d_I64 a0.Plan)) : Nat) : Int))) <|
     gt a0.Plan (g.nat x3.Dest) fun x4 =>
     br (g.eq x4 v1)
     (
      br (g.lt (g.int (g.dlen (t.d_Item x2.Held))) x2.Room)
      (
       lP ([x3]) fun (l3 : List Item) =>
       gd (((x2.Held.length + l3.length) * 16 ≤ 70368744177664)) <|
       lP (x2.Held ++ l3) fun (l4 : List Item) =>
       lP (List.set w1 (g.nat v1) (Chute.mk x2.Cell x2.Room l4)) fun (l5 : List Chute) =>
       gt l5 (g.nat v1) fun x5 =>
       gd (((0 : Int) ≤ x5.Cell ∧ x5.Cell < (((g.dlen (t.d_Item w2)) : Nat) : Int))) <|
       gt w2 (g.nat x5.Cell) fun x6 =>
       lP (List.set w2 (g.nat x5.Cell) (Item.mk 0 0)) fun (l6 : List Item) =>
       I_tick_l1 g t a0 n1 (g.wrap .i64 (g.add v1 1)) l5 l6)
      (
       I_tick_l1 g t a0 n1 (g.wrap .i64 (g.add v1 1)) w1 w2))
     (
      I_tick_l1 g t a0 n1 (g.wrap .i64 (g.add v1 1)) w1 w2))
def I_tick (g : G) (t : TE) (a0 : Centre) : Option Centre :=
  gd (((0 : Int) ≤ (g.wrap .i64 (g.sub (g.int (g.dlen (t.d_Item a0.Belt))) 1)) ∧ (g.wrap .i64 (g.sub (g.int (g.dlen (t.d_Item a0.Belt))) 1)) < (((g.dlen (t.d_Item a0.Belt)) : Nat) : Int))) <|
  gt a0.Belt (g.nat (g.wrap .i64 (g.sub (g.int (g.dlen (t.d_Item a0.Belt))) 1))) fun x1 =>
  lP ([x1]) fun (l1 : List Item) =>
  gd (((0 : Int) ≤ 0 ∧ 0 ≤ (g.wrap .i64 (g.sub (g.int (g.dlen (t.d_Item a0.Belt))) 1)) ∧ (g.wrap .i64 (g.sub (g.int (g.dlen (t.d_Item a0.Belt))) 1)) ≤ (((g.dlen (t.d_Item a0.Belt)) : Nat) : Int))) <|
  gd (((g.nat 0) + (g.nsub (g.nat (g.wrap .i64 (g.sub (g.int (g.dlen (t.d_Item a0.Belt))) 1))) (g.nat 0)) ≤ a0.Belt.length)) <|
  gd (((l1.length + (List.take (g.nsub (g.nat (g.wrap .i64 (g.sub (g.int (g.dlen (t.d_Item a0.Belt))) 1))) (g.nat 0)) (List.drop (g.nat 0) a0.Belt)).length) * 16 ≤ 70368744177664)) <|
  lP (l1 ++ (List.take (g.nsub (g.nat (g.wrap .i64 (g.sub (g.int (g.dlen (t.d_Item a0.Belt))) 1))) (g.nat 0)) (List.drop (g.nat 0) a0.Belt))) fun (l2 : List Item) =>
  gd (((g.int (g.dlen (t.d_Chute a0.Chutes))) ≤ 4611686018427387904)) <|
  cl (I_tick_l1 g t a0 (cntLt 0 (g.int (g.dlen (t.d_Chute a0.Chutes)))) 0 a0.Chutes l2) fun y1 =>
  gd (((g.int (g.dlen (t.d_Inlet a0.Inlets))) ≤ 4611686018427387904)) <|
  cl (I_tick_l2 g t (cntLt 0 (g.int (g.dlen (t.d_Inlet a0.Inlets)))) 0 a0.Inlets y1.2) fun y2 =>
  some (Centre.mk y2.2 y1.1 y2.1 a0.Plan (g.wrap .i64 (g.add a0.Now 1)))
theorem fit95 : codeFit Try.prog Try.f95.ntmps (Try.f95.body.getD .skip) ir95 = true := by kernel_rfl
theorem c_I_tick {g : G} {t : TE} {a0 : Centre} {r : Centre} (hg : g = G.real) (ht : t = TE.real) (h : I_tick g t a0 = some r) : FnM Try.prog 95 (.p (Centre.ds t a0)) [] (.u []) (.p (Centre.ds t r)) := by
  obtain ⟨X, hX⟩ := hide (.u [] : X)
  obtain ⟨Y, hY⟩ := hide (.p (Centre.ds t r) : AM)
  rw [← hX, ← hY]
  refine fnM_of (rvs := rv95) (j := ir95) Try.func95 rfl fit95 (Nat.le_of_ble_eq_true rfl) (by kernel_rfl) prog_mixed ?_
  intro g2 F hg2 hF
  obtain rfl : g2 = g := hg2.unique.trans hg.symm
  clear hg2
  obtain ⟨wrap, lt, le, eq, quo, rem, band, bor, bxor, shl, shr, nat, int, add, sub, mul, cat, seq, slt, sub3, byte, llen, nadd, nsub, dlen, dapp, dset, drep, rd, rda, up, rsub, dsub, all, sle, slen, hasI, putI, hasS, putS, imin, imax, fzc⟩ := g2
  obtain ⟨r_Item, d_Item, r_Chute, d_Chute, r_Inlet, d_Inlet, r_I64, d_I64, r_U8, d_U8, d_InletF⟩ := t
  obtain ⟨a0_Belt, a0_Chutes, a0_Inlets, a0_Plan, a0_Now⟩ := a0
  have hfr_Item : ∀ l, freshDss (d_Item l) = true := fresh_Item ht
  unfold I_tick at h
  try dsimp only at h
  cbv
  obtain ⟨hc1, h⟩ := of_gd h
  refine AStep.mk hc1 ?_
  cbv
  obtain ⟨x1, hx1, h⟩ := of_gt h
  obtain ⟨x1_Id, x1_Dest⟩ := x1
  try dsimp only at h
  refine AGet.mk _ (d_get_Item hg ht hx1) ?_
  cbv
  obtain ⟨l1, hl1, h⟩ := of_lP h
  try dsimp only at h
  refine ANew.mk (d_Item l1) (dlen (d_Item l1)) (by rw [← hl1]; exact lit_Item hg ht [(Item.mk x1_Id x1_Dest)]) (by rw [← hl1]; exact litn_Item hg ht [(Item.mk x1_Id x1_Dest)]) ?_
  cbv
  obtain ⟨hc2, h⟩ := of_gd h
  refine AStep.mk hc2 ?_
  cbv
  obtain ⟨hc14, h⟩ := of_gd h
  obtain ⟨hc15, h⟩ := of_gd h
  refine AStep.mk ⟨(subp_ok_Item hg ht hc14), (app_ok_Item hg ht (dlen_Item hg ht _) (dsub_Item hg ht _ _ _) hc15)⟩ ?_
  cbv
  obtain ⟨l2, hl2, h⟩ := of_lP h
  try dsimp only at h
  refine ANew.mk (d_Item l2) (dlen (d_Item l2)) (by rw [← hl2]; exact app_Item hg ht (dlen_Item hg ht _) (dsub_Item hg ht _ _ _)) (by rw [← hl2]; exact appl_Item hg ht (dlen_Item hg ht _) (dsub_Item hg ht _ _ _)) ?_
  cbv
  obtain ⟨hB1, h⟩ := of_gd h
  obtain ⟨o1, ho1, h⟩ := of_cl h
  try dsimp only at h
  try rw [hg] at ho1
  try rw [ht] at ho1
  refine ABL.mk { p : Nat × Int × (List Chute) × List Item // p.1 = cntLt p.2.1 (int (dlen (d_Chute a0_Chutes))) ∧ 0 ≤ p.2.1 ∧ I_tick_l1 G.real TE.real (Centre.mk a0_Belt a0_Chutes a0_Inlets a0_Plan a0_Now) p.1 p.2.1 p.2.2.1 p.2.2.2 = some o1 } (fun ⟨⟨n1, v1, w1, w2⟩, _⟩ => ({ sl := [(0, .c (.p 5 5 0 0)), (3, .c (.f 4 2 0 (dlen (d_Item w2)))), (35, .c (.r (.v (.int .i64 (int (dlen (d_Chute a0_Chutes))))))), (36, .c (.r (.v (.int .i64 v1))))], tab := [(0, some (.arr 2 (d_Item a0_Belt))), (1, some (.arr 3 (d_Chute w1))), (2, some (.arr 2 (d_Inlet a0_Inlets))), (3, some (.arr 1 (d_I64 a0_Plan))), (4, some (.arr 2 (d_Item w2))), (5, some (.foc 5 [] [.f 0 2 0 (dlen (d_Item a0_Belt)), .f 1 3 0 (dlen (d_Chute w1)), .f 2 2 0 (dlen (d_Inlet a0_Inlets)), .f 3 1 0 (dlen (d_I64 a0_Plan)), .r (.v (.int .i64 a0_Now))] []))] } : St)) 6 (fun p => p.1.1) ⟨(cntLt 0 (int (dlen (d_Chute a0_Chutes))), 0, a0_Chutes, l2), rfl, Int.le_refl _, ho1⟩ ((List Chute) × List Item) (fun ⟨y1_1, y1_2⟩ => ({ sl := [(0, .c (.p 5 5 0 0)), (3, .c (.f 4 2 0 (dlen (d_Item y1_2))))], tab := [(0, some (.arr 2 (d_Item a0_Belt))), (1, some (.arr 3 (d_Chute y1_1))), (2, some (.arr 2 (d_Inlet a0_Inlets))), (3, some (.arr 1 (d_I64 a0_Plan))), (4, some (.arr 2 (d_Item y1_2))), (5, some (.foc 5 [] [.f 0 2 0 (dlen (d_Item a0_Belt)), .f 1 3 0 (dlen (d_Chute y1_1)), .f 2 2 0 (dlen (d_Inlet a0_Inlets)), .f 3 1 0 (dlen (d_I64 a0_Plan)), .r (.v (.int .i64 a0_Now))] []))] } : St)) 6 (fun y => o1 = y) ?_ ?_ ?_
  · refine Wk.of [(0, some 0), (1, some 1), (2, some 2), (3, some 3), (4, some 358), (5, some 5)] rfl rfl ?_ ?_
    · cbv
      all_goals exact ⟨⟨_, rfl, rfl⟩, ⟨_, rfl, rfl⟩, ⟨_, rfl, rfl⟩, ⟨_, rfl, rfl⟩, trivial⟩
    · cbv
      all_goals exact ⟨⟨_, rfl, rfl⟩, ⟨_, rfl, rfl⟩, ⟨_, rfl, rfl⟩, ⟨_, rfl, rfl⟩, ⟨_, rfl, rfl⟩, ⟨_, rfl, _, rfl, rfl, rfl, rfl, rfl, rfl, trivial⟩, trivial⟩
  · rintro ⟨⟨n1, v1, w1, w2⟩, hn1, hi1, h_1⟩ hq1
    try dsimp only at hn1 hi1 h_1
    clear hq1
    cbv
    rcases n1 with _ | n1
    · have hb1 : lt v1 (int (dlen (d_Chute a0_Chutes))) = false := ltC_false hg hn1
      rw [I_tick_l1] at h_1
      try rw [← hg] at h_1
      try rw [← ht] at h_1
      try dsimp only at h_1
      rw [hb1]
      cbv
      refine ⟨(w1, w2), Wk.of [(0, some 0), (1, some 1), (2, some 2), (3, some 3), (4, some 4), (5, some 5)] rfl rfl ?_ ?_, (Option.some.inj h_1).symm⟩
      · cbv
        all_goals exact ⟨⟨_, rfl, rfl⟩, ⟨_, rfl, rfl⟩, trivial⟩
      · cbv
        all_goals exact ⟨⟨_, rfl, rfl⟩, ⟨_, rfl, rfl⟩, ⟨_, rfl, rfl⟩, ⟨_, rfl, rfl⟩, ⟨_, rfl, rfl⟩, ⟨_, rfl, _, rfl, rfl, rfl, rfl, rfl, rfl, trivial⟩, trivial⟩
    · have hb1 : lt v1 (int (dlen (d_Chute a0_Chutes))) = true := ltC_true hg hn1
      have hl1 := ltC_le hn1
      have hs1 := stepltC hg hn1 hi1 hB1 (by decide)
      rw [I_tick_l1] at h_1
      try rw [← hg] at h_1
      try rw [← ht] at h_1
      try dsimp only at h_1
      rw [hb1]
      cbv
      obtain ⟨hc3, h_1⟩ := of_gd h_1
      refine AStep.mk hc3 ?_
      cbv
      obtain ⟨x2, hx2, h_1⟩ := of_gt h_1
      obtain ⟨x2_Cell, x2_Room, x2_Held⟩ := x2
      try dsimp only at h_1
      refine AGet.mk _ (d_get_Chute hg ht hx2) ?_
      cbv
      obtain ⟨hc4, h_1⟩ := of_gd h_1
      refine AStep.mk hc4 ?_
      cbv
      obtain ⟨x3, hx3, h_1⟩ := of_gt h_1
      obtain ⟨x3_Id, x3_Dest⟩ := x3
      try dsimp only at h_1
      refine AGet.mk _ (d_get_Item hg ht hx3) ?_
      cbv
      refine AGh.opn 1 3 (nat v1) (d_Chute w1) _ rfl (d_get_Chute hg ht hx2) rfl ?_
      cbv
      refine AGh.nil ?_
      cbv
      cases hb2 : (all [(eq x3_Id 0), (eq x3_Dest 0)]) with
      | true =>
        rw [br_true hb2] at h_1
        cbv
        try (rw [hb2]; cbv)
        try (rw [hb2]; cbv)
        try (rw [hb2]; cbv)
        try (rw [hb2]; cbv)
        try (rw [hb2]; cbv)
        try (rw [hb2]; cbv)
        try (rw [hb2]; cbv)
        try (rw [hb2]; cbv)
        try (rw [hb2]; cbv)
        try (rw [hb2]; cbv)
        refine AGh.cls 1 3 (nat v1) (d_Chute w1) _ _ _ _ (d_Chute w1) rfl rfl ⟨rfl, (dlen_Item hg ht _)⟩ (dsets_Chute hg ht hx2) ?_
        cbv
        refine AGh.nil ?_
        cbv
        try rw [hg] at h_1
        try rw [ht] at h_1
        refine ⟨⟨(n1, (wrap .i64 (add v1 1)), w1, w2), hs1.1, hs1.2, h_1⟩, Wk.of [(0, some 0), (1, some 1), (2, some 2), (3, some 3), (4, some 4), (5, some 5)] rfl rfl ?_ ?_, Nat.lt_succ_self _⟩
        · cbv
          all_goals exact ⟨⟨_, rfl, rfl⟩, ⟨_, rfl, rfl⟩, ⟨_, rfl, rfl⟩, ⟨_, rfl, rfl⟩, trivial⟩
        · cbv
          all_goals exact ⟨⟨_, rfl, rfl⟩, ⟨_, rfl, rfl⟩, ⟨_, rfl, rfl⟩, ⟨_, rfl, rfl⟩, ⟨_, rfl, rfl⟩, ⟨_, rfl, _, rfl, rfl, rfl, rfl, rfl, rfl, trivial⟩, trivial⟩
      | false =>
        rw [br_false hb2] at h_1
        cbv
        try (rw [hb2]; cbv)
        try (rw [hb2]; cbv)
        try (rw [hb2]; cbv)
        try (rw [hb2]; cbv)
        try (rw [hb2]; cbv)
        try (rw [hb2]; cbv)
        obtain ⟨hc5, h_1⟩ := of_gd h_1
        refine AStep.mk hc5 ?_
        cbv
        try (rw [hb2]; cbv)
        obtain ⟨x4, hx4, h_1⟩ := of_gt h_1
        try dsimp only at h_1
        refine AGet.mk _ (d_get_I64 hg ht hx4) ?_
        cbv
        try (rw [hb2]; cbv)
        try (rw [hb2]; cbv)
        try (rw [hb2]; cbv)
        cases hb3 : (eq x4 v1) with
        | true =>
          rw [br_true hb3] at h_1
          cbv
          try (rw [hb3]; cbv)
          try (rw [hb3]; cbv)
          try (rw [hb3]; cbv)
          refine AStep.mk rfl ?_
          cbv
          try (rw [hb3]; cbv)
          try (rw [hb3]; cbv)
          try (rw [hb3]; cbv)
          try (rw [hb3]; cbv)
          try (rw [hb3]; cbv)
          refine AStep.mk rfl ?_
          cbv
          try (rw [hb3]; cbv)
          try (rw [hb3]; cbv)
          refine AGh.cls 1 3 (nat v1) (d_Chute w1) _ _ _ _ (d_Chute w1) rfl rfl ⟨rfl, (dlen_Item hg ht _)⟩ (dsets_Chute hg ht hx2) ?_
          cbv
          refine AGh.nil ?_
          cbv
          cases hb4 : (lt (int (dlen (d_Item x2_Held))) x2_Room) with
          | true =>
            rw [br_true hb4] at h_1
            cbv
            refine AGh.opn 1 3 (nat v1) (d_Chute w1) _ rfl (d_get_Chute hg ht hx2) rfl ?_
            cbv
            refine AGh.nil ?_
            cbv
            refine AStep.mk rfl ?_
            cbv
            obtain ⟨l3, hl3, h_1⟩ := of_lP h_1
            try dsimp only at h_1
            refine ANew.mk (d_Item l3) (dlen (d_Item l3)) (by rw [← hl3]; exact lit_Item hg ht [(Item.mk x3_Id x3_Dest)]) (by rw [← hl3]; exact litn_Item hg ht [(Item.mk x3_Id x3_Dest)]) ?_
            cbv
            obtain ⟨hc7, h_1⟩ := of_gd h_1
            refine AStep.mk ⟨⟨rfl, (dlen_Item hg ht _)⟩, (app_ok_Item hg ht (dlen_Item hg ht _) rfl hc7)⟩ ?_
            cbv
            obtain ⟨l4, hl4, h_1⟩ := of_lP h_1
            try dsimp only at h_1
            refine ANew.mk (d_Item l4) (dlen (d_Item l4)) (by rw [← hl4]; exact app_Item hg ht (dlen_Item hg ht _) rfl) (by rw [← hl4]; exact appl_Item hg ht (dlen_Item hg ht _) rfl) ?_
            cbv
            refine AStep.mk rfl ?_
            cbv
            obtain ⟨l5, hl5, h_1⟩ := of_lP h_1
            try dsimp only at h_1
            refine AGh.cls 1 3 (nat v1) (d_Chute w1) _ _ _ _ (d_Chute l5) rfl rfl ⟨rfl, (dlen_Item hg ht _)⟩ (by rw [← hl5]; exact dset_Chute hg ht _ _ (Chute.mk x2_Cell x2_Room l4)) ?_
            have hnl5 : (dlen (d_Chute w1)) = (d_Chute l5).length := (by rw [← hl5, dsetl_Chute ht]; exact (dlen_Chute hg ht _))
            cbv
            refine AGh.nil ?_
            cbv
            obtain ⟨x5, hx5, h_1⟩ := of_gt h_1
            obtain ⟨x5_Cell, x5_Room, x5_Held⟩ := x5
            try dsimp only at h_1
            refine AGet.mk _ (d_get_Chute hg ht hx5) ?_
            cbv
            obtain ⟨hc6, h_1⟩ := of_gd h_1
            refine AStep.mk hc6 ?_
            cbv
            obtain ⟨x6, hx6, h_1⟩ := of_gt h_1
            obtain ⟨x6_Id, x6_Dest⟩ := x6
            try dsimp only at h_1
            refine AGet.mk _ (d_get_Item hg ht hx6) ?_
            cbv
            obtain ⟨l6, hl6, h_1⟩ := of_lP h_1
            try dsimp only at h_1
            refine ANew.mk (d_Item l6) _ (by rw [← hl6]; exact dset_Item hg ht _ _ (Item.mk 0 0)) rfl ?_
            have hnl6 : (dlen (d_Item w2)) = (d_Item l6).length := (by rw [← hl6, dsetl_Item ht]; exact (dlen_Item hg ht _))
            cbv
            try rw [hg] at h_1
            try rw [ht] at h_1
            refine ⟨⟨(n1, (wrap .i64 (add v1 1)), l5, l6), hs1.1, hs1.2, h_1⟩, Wk.of [(0, some 0), (1, some 1), (2, some 2), (3, some 3), (4, some 4), (5, some 5)] rfl rfl ?_ ?_, Nat.lt_succ_self _⟩
            · cbv
              all_goals try rw [show (dlen (d_Chute w1)) = (dlen (d_Chute l5)) from (hnl5).trans (dlen_Chute hg ht _).symm]
              all_goals try rw [show (dlen (d_Item w2)) = (dlen (d_Item l6)) from (hnl6).trans (dlen_Item hg ht _).symm]
              all_goals exact ⟨⟨_, rfl, rfl⟩, ⟨_, rfl, rfl⟩, ⟨_, rfl, rfl⟩, ⟨_, rfl, rfl⟩, trivial⟩
            · cbv
              all_goals try rw [show (dlen (d_Chute w1)) = (dlen (d_Chute l5)) from (hnl5).trans (dlen_Chute hg ht _).symm]
              all_goals try rw [show (dlen (d_Item w2)) = (dlen (d_Item l6)) from (hnl6).trans (dlen_Item hg ht _).symm]
              all_goals exact ⟨⟨_, rfl, rfl⟩, ⟨_, rfl, rfl⟩, ⟨_, rfl, rfl⟩, ⟨_, rfl, rfl⟩, ⟨_, rfl, rfl⟩, ⟨_, rfl, _, rfl, rfl, rfl, rfl, rfl, rfl, trivial⟩, trivial⟩
          | false =>
            rw [br_false hb4] at h_1
            cbv
            try rw [hg] at h_1
            try rw [ht] at h_1
            refine ⟨⟨(n1, (wrap .i64 (add v1 1)), w1, w2), hs1.1, hs1.2, h_1⟩, Wk.of [(0, some 0), (1, some 1), (2, some 2), (3, some 3), (4, some 4), (5, some 5)] rfl rfl ?_ ?_, Nat.lt_succ_self _⟩
            · cbv
              all_goals exact ⟨⟨_, rfl, rfl⟩, ⟨_, rfl, rfl⟩, ⟨_, rfl, rfl⟩, ⟨_, rfl, rfl⟩, trivial⟩
            · cbv
              all_goals exact ⟨⟨_, rfl, rfl⟩, ⟨_, rfl, rfl⟩, ⟨_, rfl, rfl⟩, ⟨_, rfl, rfl⟩, ⟨_, rfl, rfl⟩, ⟨_, rfl, _, rfl, rfl, rfl, rfl, rfl, rfl, trivial⟩, trivial⟩
        | false =>
          rw [br_false hb3] at h_1
          cbv
          try (rw [hb3]; cbv)
          try (rw [hb3]; cbv)
          try (rw [hb3]; cbv)
          try (rw [hb3]; cbv)
          try (rw [hb3]; cbv)
          try (rw [hb3]; cbv)
          try (rw [hb3]; cbv)
          try (rw [hb3]; cbv)
          try (rw [hb3]; cbv)
          try (rw [hb3]; cbv)
          refine AGh.cls 1 3 (nat v1) (d_Chute w1) _ _ _ _ (d_Chute w1) rfl rfl ⟨rfl, (dlen_Item hg ht _)⟩ (dsets_Chute hg ht hx2) ?_
          cbv
          refine AGh.nil ?_
          cbv
          try rw [hg] at h_1
          try rw [ht] at h_1
          refine ⟨⟨(n1, (wrap .i64 (add v1 1)), w1, w2), hs1.1, hs1.2, h_1⟩, Wk.of [(0, some 0), (1, some 1), (2, some 2), (3, some 3), (4, some 4), (5, some 5)] rfl rfl ?_ ?_, Nat.lt_succ_self _⟩
          · cbv
            all_goals exact ⟨⟨_, rfl, rfl⟩, ⟨_, rfl, rfl⟩, ⟨_, rfl, rfl⟩, ⟨_, rfl, rfl⟩, trivial⟩
          · cbv
            all_goals exact ⟨⟨_, rfl, rfl⟩, ⟨_, rfl, rfl⟩, ⟨_, rfl, rfl⟩, ⟨_, rfl, rfl⟩, ⟨_, rfl, rfl⟩, ⟨_, rfl, _, rfl, rfl, rfl, rfl, rfl, rfl, trivial⟩, trivial⟩
  · rintro ⟨y1_1, y1_2⟩ hy1
    replace hy1 := hy1.symm
    subst hy1
    try dsimp only [lr, lrL, lrp, lrpL] at h
    cbv
    obtain ⟨hB2, h⟩ := of_gd h
    obtain ⟨o2, ho2, h⟩ := of_cl h
    try dsimp only at h
    try rw [hg] at ho2
    try rw [ht] at ho2
    refine ABL.mk { p : Nat × Int × (List Inlet) × List Item // p.1 = cntLt p.2.1 (int (dlen (d_Inlet a0_Inlets))) ∧ 0 ≤ p.2.1 ∧ I_tick_l2 G.real TE.real p.1 p.2.1 p.2.2.1 p.2.2.2 = some o2 } (fun ⟨⟨n2, v2, w3, w4⟩, _⟩ => ({ sl := [(0, .c (.p 5 5 0 0)), (3, .c (.f 4 2 0 (dlen (d_Item w4)))), (101, .c (.r (.v (.int .i64 (int (dlen (d_Inlet a0_Inlets))))))), (102, .c (.r (.v (.int .i64 v2))))], tab := [(0, some (.arr 2 (d_Item a0_Belt))), (1, some (.arr 3 (d_Chute y1_1))), (2, some (.arr 2 (d_Inlet w3))), (3, some (.arr 1 (d_I64 a0_Plan))), (4, some (.arr 2 (d_Item w4))), (5, some (.foc 5 [] [.f 0 2 0 (dlen (d_Item a0_Belt)), .f 1 3 0 (dlen (d_Chute y1_1)), .f 2 2 0 (dlen (d_Inlet w3)), .f 3 1 0 (dlen (d_I64 a0_Plan)), .r (.v (.int .i64 a0_Now))] []))] } : St)) 6 (fun p => p.1.1) ⟨(cntLt 0 (int (dlen (d_Inlet a0_Inlets))), 0, a0_Inlets, y1_2), rfl, Int.le_refl _, ho2⟩ ((List Inlet) × List Item) (fun ⟨y2_1, y2_2⟩ => ({ sl := [(0, .c (.p 5 5 0 0)), (3, .c (.f 4 2 0 (dlen (d_Item y2_2))))], tab := [(0, some (.arr 2 (d_Item a0_Belt))), (1, some (.arr 3 (d_Chute y1_1))), (2, some (.arr 2 (d_Inlet y2_1))), (3, some (.arr 1 (d_I64 a0_Plan))), (4, some (.arr 2 (d_Item y2_2))), (5, some (.foc 5 [] [.f 0 2 0 (dlen (d_Item a0_Belt)), .f 1 3 0 (dlen (d_Chute y1_1)), .f 2 2 0 (dlen (d_Inlet y2_1)), .f 3 1 0 (dlen (d_I64 a0_Plan)), .r (.v (.int .i64 a0_Now))] []))] } : St)) 6 (fun y => o2 = y) ?_ ?_ ?_
    · refine Wk.of [(0, some 0), (1, some 1), (2, some 2), (3, some 3), (4, some 4), (5, some 5)] rfl rfl ?_ ?_
      · cbv
        all_goals exact ⟨⟨_, rfl, rfl⟩, ⟨_, rfl, rfl⟩, ⟨_, rfl, rfl⟩, ⟨_, rfl, rfl⟩, trivial⟩
      · cbv
        all_goals exact ⟨⟨_, rfl, rfl⟩, ⟨_, rfl, rfl⟩, ⟨_, rfl, rfl⟩, ⟨_, rfl, rfl⟩, ⟨_, rfl, rfl⟩, ⟨_, rfl, _, rfl, rfl, rfl, rfl, rfl, rfl, trivial⟩, trivial⟩
    · rintro ⟨⟨n2, v2, w3, w4⟩, hn2, hi2, h_2⟩ hq2
      try dsimp only at hn2 hi2 h_2
      clear hq2
      cbv
      rcases n2 with _ | n2
      · have hb5 : lt v2 (int (dlen (d_Inlet a0_Inlets))) = false := ltC_false hg hn2
        rw [I_tick_l2] at h_2
        try rw [← hg] at h_2
        try rw [← ht] at h_2
        try dsimp only at h_2
        rw [hb5]
        cbv
        refine ⟨(w3, w4), Wk.of [(0, some 0), (1, some 1), (2, some 2), (3, some 3), (4, some 4), (5, some 5)] rfl rfl ?_ ?_, (Option.some.inj h_2).symm⟩
        · cbv
          all_goals exact ⟨⟨_, rfl, rfl⟩, ⟨_, rfl, rfl⟩, trivial⟩
        · cbv
          all_goals exact ⟨⟨_, rfl, rfl⟩, ⟨_, rfl, rfl⟩, ⟨_, rfl, rfl⟩, ⟨_, rfl, rfl⟩, ⟨_, rfl, rfl⟩, ⟨_, rfl, _, rfl, rfl, rfl, rfl, rfl, rfl, trivial⟩, trivial⟩
      · have hb5 : lt v2 (int (dlen (d_Inlet a0_Inlets))) = true := ltC_true hg hn2
        have hl2 := ltC_le hn2
        have hs2 := stepltC hg hn2 hi2 hB2 (by decide)
        rw [I_tick_l2] at h_2
        try rw [← hg] at h_2
        try rw [← ht] at h_2
        try dsimp only at h_2
        rw [hb5]
        cbv
        obtain ⟨hc8, h_2⟩ := of_gd h_2
        refine AStep.mk hc8 ?_
        cbv
        obtain ⟨x7, hx7, h_2⟩ := of_gt h_2
        obtain ⟨x7_Cell, x7_Wait⟩ := x7
        try dsimp only at h_2
        refine AGh.opn 2 2 (nat v2) (d_Inlet w3) _ rfl (d_get_Inlet hg ht hx7) rfl ?_
        cbv
        refine AGh.nil ?_
        cbv
        refine AStep.mk rfl ?_
        cbv
        cases hb6 : (lt 0 (int (dlen (d_Item x7_Wait)))) with
        | true =>
          rw [br_true hb6] at h_2
          cbv
          try (rw [hb6]; cbv)
          try (rw [hb6]; cbv)
          try (rw [hb6]; cbv)
          try (rw [hb6]; cbv)
          refine AStep.mk rfl ?_
          cbv
          try (rw [hb6]; cbv)
          obtain ⟨hc9, h_2⟩ := of_gd h_2
          refine AStep.mk hc9 ?_
          cbv
          try (rw [hb6]; cbv)
          obtain ⟨x8, hx8, h_2⟩ := of_gt h_2
          obtain ⟨x8_Id, x8_Dest⟩ := x8
          try dsimp only at h_2
          refine AGet.mk _ (d_get_Item hg ht hx8) ?_
          cbv
          try (rw [hb6]; cbv)
          try (rw [hb6]; cbv)
          try (rw [hb6]; cbv)
          refine AGh.cls 2 2 (nat v2) (d_Inlet w3) _ _ _ _ (d_Inlet w3) rfl rfl ⟨rfl, (dlen_Item hg ht _)⟩ (dsets_Inlet hg ht hx7) ?_
          cbv
          refine AGh.nil ?_
          cbv
          cases hb7 : (all [(eq x8_Id 0), (eq x8_Dest 0)]) with
          | true =>
            rw [br_true hb7] at h_2
            cbv
            refine AGh.opn 2 2 (nat v2) (d_Inlet w3) _ rfl (d_get_Inlet hg ht hx7) rfl ?_
            cbv
            refine AGh.nil ?_
            cbv
            refine AStep.mk rfl ?_
            cbv
            refine AStep.mk rfl ?_
            cbv
            obtain ⟨hc10, h_2⟩ := of_gd h_2
            refine AStep.mk hc10 ?_
            cbv
            obtain ⟨x9, hx9, h_2⟩ := of_gt h_2
            obtain ⟨x9_Id, x9_Dest⟩ := x9
            try dsimp only at h_2
            refine AGet.mk _ (d_get_Item hg ht hx9) ?_
            cbv
            obtain ⟨hc11, h_2⟩ := of_gd h_2
            refine AStep.mk hc11 ?_
            cbv
            refine AGet.mk _ (d_get_Item hg ht hx8) ?_
            cbv
            obtain ⟨l7, hl7, h_2⟩ := of_lP h_2
            try dsimp only at h_2
            refine ANew.mk (d_Item l7) _ (by rw [← hl7]; exact dset_Item hg ht _ _ (Item.mk x9_Id x9_Dest)) rfl ?_
            have hnl7 : (dlen (d_Item w4)) = (d_Item l7).length := (by rw [← hl7, dsetl_Item ht]; exact (dlen_Item hg ht _))
            cbv
            refine AGh.cls 2 2 (nat v2) (d_Inlet w3) _ _ _ _ (d_Inlet w3) rfl rfl ⟨rfl, (dlen_Item hg ht _)⟩ (dsets_Inlet hg ht hx7) ?_
            cbv
            refine AGh.nil ?_
            cbv
            refine AGh.opn 2 2 (nat v2) (d_Inlet w3) _ rfl (d_get_Inlet hg ht hx7) rfl ?_
            cbv
            refine AGh.nil ?_
            cbv
            refine AStep.mk rfl ?_
            cbv
            obtain ⟨hc12, h_2⟩ := of_gd h_2
            refine AStep.mk hc12 ?_
            cbv
            obtain ⟨hc13, h_2⟩ := of_gd h_2
            refine AStep.mk (lendp_Item ht hc13) ?_
            cbv
            obtain ⟨x10, hx10, h_2⟩ := of_cl h_2
            try dsimp only at h_2
            refine ACall.mk _ _ (by rw [show rd (d_Item x7_Wait) (nat 1) (nsub (nat (int (dlen (d_Item x7_Wait)))) (nat 1)) = r_Item (List.take (nsub (nat (int (dlen (d_Item x7_Wait)))) (nat 1)) (List.drop (nat 1) x7_Wait)) from rd_Item hg ht _ _ _]; try rfl) (hF _ _ _ (c_I_copyItems hg ht hx10)) (.inr (by simp only [Go.Vs.X.fresh, Go.Vs.X.freshs, freshD, freshDs, Bool.and_self, hfr_Item])) (Nat.le_of_ble_eq_true rfl) ?_
            cbv
            refine AStep.mk rfl ?_
            cbv
            obtain ⟨l8, hl8, h_2⟩ := of_lP h_2
            try dsimp only at h_2
            refine AGh.cls 2 2 (nat v2) (d_Inlet w3) _ _ _ _ (d_Inlet l8) rfl rfl ⟨rfl, (dlen_Item hg ht _)⟩ (by rw [← hl8]; exact dset_Inlet hg ht _ _ (Inlet.mk x7_Cell x10)) ?_
            have hnl8 : (dlen (d_Inlet w3)) = (d_Inlet l8).length := (by rw [← hl8, dsetl_Inlet ht]; exact (dlen_Inlet hg ht _))
            cbv
            refine AGh.nil ?_
            cbv
            try rw [hg] at h_2
            try rw [ht] at h_2
            refine ⟨⟨(n2, (wrap .i64 (add v2 1)), l8, l7), hs2.1, hs2.2, h_2⟩, Wk.of [(0, some 0), (1, some 1), (2, some 2), (3, some 3), (4, some 4), (5, some 5)] rfl rfl ?_ ?_, Nat.lt_succ_self _⟩
            · cbv
              all_goals try rw [show (dlen (d_Inlet w3)) = (dlen (d_Inlet l8)) from (hnl8).trans (dlen_Inlet hg ht _).symm]
              all_goals try rw [show (dlen (d_Item w4)) = (dlen (d_Item l7)) from (hnl7).trans (dlen_Item hg ht _).symm]
              all_goals exact ⟨⟨_, rfl, rfl⟩, ⟨_, rfl, rfl⟩, ⟨_, rfl, rfl⟩, ⟨_, rfl, rfl⟩, trivial⟩
            · cbv
              all_goals try rw [show (dlen (d_Inlet w3)) = (dlen (d_Inlet l8)) from (hnl8).trans (dlen_Inlet hg ht _).symm]
              all_goals try rw [show (dlen (d_Item w4)) = (dlen (d_Item l7)) from (hnl7).trans (dlen_Item hg ht _).symm]
              all_goals exact ⟨⟨_, rfl, rfl⟩, ⟨_, rfl, rfl⟩, ⟨_, rfl, rfl⟩, ⟨_, rfl, rfl⟩, ⟨_, rfl, rfl⟩, ⟨_, rfl, _, rfl, rfl, rfl, rfl, rfl, rfl, trivial⟩, trivial⟩
          | false =>
            rw [br_false hb7] at h_2
            cbv
            try rw [hg] at h_2
            try rw [ht] at h_2
            refine ⟨⟨(n2, (wrap .i64 (add v2 1)), w3, w4), hs2.1, hs2.2, h_2⟩, Wk.of [(0, some 0), (1, some 1), (2, some 2), (3, some 3), (4, some 4), (5, some 5)] rfl rfl ?_ ?_, Nat.lt_succ_self _⟩
            · cbv
              all_goals exact ⟨⟨_, rfl, rfl⟩, ⟨_, rfl, rfl⟩, ⟨_, rfl, rfl⟩, ⟨_, rfl, rfl⟩, trivial⟩
            · cbv
              all_goals exact ⟨⟨_, rfl, rfl⟩, ⟨_, rfl, rfl⟩, ⟨_, rfl, rfl⟩, ⟨_, rfl, rfl⟩, ⟨_, rfl, rfl⟩, ⟨_, rfl, _, rfl, rfl, rfl, rfl, rfl, rfl, trivial⟩, trivial⟩
        | false =>
          rw [br_false hb6] at h_2
          cbv
          try (rw [hb6]; cbv)
          try (rw [hb6]; cbv)
          try (rw [hb6]; cbv)
          try (rw [hb6]; cbv)
          try (rw [hb6]; cbv)
          try (rw [hb6]; cbv)
          try (rw [hb6]; cbv)
          try (rw [hb6]; cbv)
          try (rw [hb6]; cbv)
          refine AGh.cls 2 2 (nat v2) (d_Inlet w3) _ _ _ _ (d_Inlet w3) rfl rfl ⟨rfl, (dlen_Item hg ht _)⟩ (dsets_Inlet hg ht hx7) ?_
          cbv
          refine AGh.nil ?_
          cbv
          try rw [hg] at h_2
          try rw [ht] at h_2
          refine ⟨⟨(n2, (wrap .i64 (add v2 1)), w3, w4), hs2.1, hs2.2, h_2⟩, Wk.of [(0, some 0), (1, some 1), (2, some 2), (3, some 3), (4, some 4), (5, some 5)] rfl rfl ?_ ?_, Nat.lt_succ_self _⟩
          · cbv
            all_goals exact ⟨⟨_, rfl, rfl⟩, ⟨_, rfl, rfl⟩, ⟨_, rfl, rfl⟩, ⟨_, rfl, rfl⟩, trivial⟩
          · cbv
            all_goals exact ⟨⟨_, rfl, rfl⟩, ⟨_, rfl, rfl⟩, ⟨_, rfl, rfl⟩, ⟨_, rfl, rfl⟩, ⟨_, rfl, rfl⟩, ⟨_, rfl, _, rfl, rfl, rfl, rfl, rfl, rfl, trivial⟩, trivial⟩
    · rintro ⟨y2_1, y2_2⟩ hy2
      replace hy2 := hy2.symm
      subst hy2
      try dsimp only [lr, lrL, lrp, lrpL] at h
      cbv
      obtain rfl := Option.some.inj h
      exact ARetM.mk ⟨⟨rfl, (dlen_Item hg ht _)⟩, ⟨⟨rfl, (dlen_Chute hg ht _)⟩, ⟨⟨rfl, (dlen_Inlet hg ht _)⟩, ⟨rfl, (dlen_I64 hg ht _)⟩⟩⟩⟩ hX.symm hY.symm
end Go.Vs
namespace Go.Vs
set_option maxRecDepth 100000
def ir36 : J :=
  .seq (.reg none [⟨(some 2), none, .box (.t 0)⟩,
     ⟨(some 4), none, .alloc [.n 2, .n 3, .n 2, .n 1, .r (.v (.int .i64 0))]⟩] [1, 2, 4])
  (.seq (.reg none [⟨(some 7), none, .ld true 5 (.t 2)⟩,
     ⟨(some 8), none, .call 94 true [(.t 7)]⟩,
     ⟨(some 5), none, .alloc [.n 2, .n 3, .n 2, .n 1, .r (.v (.int .i64 0))]⟩,
     ⟨none, none, .st 5 (.t 5) (.t 8)⟩] [1, 2, 4, 5])
  (.seq (.seq (.reg none [⟨(some 9), none, .ld true 5 (.t 2)⟩,
      ⟨(some 10), none, .call 32 true [(.t 9)]⟩,
      ⟨(some 11), none, .not (.t 10)⟩,
      ⟨(some 12), none, .mv (.t 11)⟩,
      ⟨(some 13), (some (12, false)), .mv (.t 1)⟩,
      ⟨(some 14), (some (12, false)), .call 89 true [(.t 13), (.k (V.i 0)), (.k (V.i 1000))]⟩,
      ⟨(some 15), (some (12, false)), .not (.t 14)⟩,
      ⟨(some 16), none, .pick (.t 12) (.k (V.b true)) (.t 15)⟩,
      ⟨(some 17), none, .mv (.t 16)⟩,
      ⟨(some 18), (some (17, false)), .fa 4 (.t 2)⟩,
      ⟨(some 19), (some (17, false)), .ld false 1 (.t 18)⟩,
      ⟨(some 20), (some (17, false)), .mv (.t 1)⟩,
      ⟨(some 21), (some (17, false)), .bin .add .i (.t 19) (.t 20)⟩,
      ⟨(some 22), (some (17, false)), .bin .gtr .i (.t 21) (.k (V.i 100000))⟩,
      ⟨(some 23), none, .pick (.t 17) (.k (V.b true)) (.t 22)⟩] [1, 4, 5, 23])
   (.cond (.t 23)
    (.seq (.reg none [⟨(some 24), none, .ld true 5 (.t 5)⟩,
        ⟨none, none, .st 5 (.t 4) (.t 24)⟩] [4])
     (.ret))
    (.skip)))
  (.seq (.seq (.reg none [⟨(some 6), none, .mv (.k (V.i 0))⟩] [1, 4, 5, 6])
   (.bl 0 (.seq (.seq (.reg none [⟨(some 25), none, .mv (.t 6)⟩,
        ⟨(some 26), none, .mv (.t 1)⟩,
        ⟨(some 27), none, .bin .lss .i (.t 25) (.t 26)⟩] [1, 4, 5, 6, 27])
     (.cond (.t 27)
      (.skip)
      (.exit 0)))
    (.seq (.block 1 (.reg none [⟨(some 30), none, .callm 95 (.t 5) []⟩] [1, 4, 5, 6]))
    (.reg none [⟨(some 28), none, .mv (.t 6)⟩,
      ⟨(some 29), none, .bin .add .i (.t 28) (.k (V.i 1))⟩,
      ⟨(some 6), none, .mv (.t 29)⟩] [1, 4, 5, 6])))))
  (.seq (.reg none [⟨(some 31), none, .ld true 5 (.t 5)⟩,
     ⟨none, none, .st 5 (.t 4) (.t 31)⟩] [4])
  (.ret)))))
def rv36 : List RV := [.c 4 true 5]
open Go.Proofs Go.IntWalk
set_option linter.unusedVariables false
set_option maxRecDepth 100000
set_option maxHeartbeats 4000000
def I_RunCentre_l1 (g : G) (t : TE) : Nat → List Item → List Chute → List Inlet → List Int → Int → Option ((List Item) × (List Chute) × (List Inlet) × (List Int) × Int)
  | 0, w1, w2, w3, w4, v1 =>
    some (w1, w2, w3, w4, v1)
  | n1 + 1, w1, w2, w3, w4, v1 =>
    cl (I_tick g t (Centre.mk w1 w2 w3 w4 v1)) fun x4 =>
    I_RunCentre_l1 g t n1 x4.Belt x4.Chutes x4.Inlets x4.Plan x4.Now
def I_RunCentre (g : G) (t : TE) (a0 : Centre) (a1 : Int) : Option Centre :=
  cl (I_copyCentre g t a0) fun x1 =>
  cl (I_IsCentre g t a0) fun x2 =>
  br x2
  (
   lP (I_within g t a1 0 1000) fun x3 =>
   br x3
   (
    br (g.lt 100000 (g.wrap .i64 (g.add a0.Now a1)))
    (
     some x1)
    (
     gd ((a1 ≤ 4611686018427387904)) <|
     cl (I_RunCentre_l1 g t (cntLt 0 a1) x1.Belt x1.Chutes x1.Inlets x1.Plan x1.Now) fun y1 =>
     some (Centre.mk y1.1 y1.2.1 y1.2.2.1 y1.2.2.2.1 y1.2.2.2.2)))
   (
    some x1))
  (
   some x1)
theorem fit36 : codeFit Try.prog Try.f36.ntmps (Try.f36.body.getD .skip) ir36 = true := by kernel_rfl
theorem c_I_RunCentre {g : G} {t : TE} {a0 : Centre} {a1 : Int} {r : Centre} (hg : g = G.real) (ht : t = TE.real) (h : I_RunCentre g t a0 a1 = some r) : Fn Try.prog 36 [.g (Centre.rs t a0), .c (.v (.int .i64 a1))] (.g (Centre.ds t r)) := by
  obtain ⟨X, hX⟩ := hide (.g (Centre.ds t r) : X)
  rw [← hX]
  refine fn_of (rvs := rv36) (j := ir36) Try.func36 rfl fit36 (Nat.le_of_ble_eq_true rfl) (by kernel_rfl) prog_mixed ?_
  intro g2 F hg2 hF
  obtain rfl : g2 = g := hg2.unique.trans hg.symm
  clear hg2
  obtain ⟨wrap, lt, le, eq, quo, rem, band, bor, bxor, shl, shr, nat, int, add, sub, mul, cat, seq, slt, sub3, byte, llen, nadd, nsub, dlen, dapp, dset, drep, rd, rda, up, rsub, dsub, all, sle, slen, hasI, putI, hasS, putS, imin, imax, fzc⟩ := g2
  obtain ⟨r_Item, d_Item, r_Chute, d_Chute, r_Inlet, d_Inlet, r_I64, d_I64, r_U8, d_U8, d_InletF⟩ := t
  obtain ⟨a0_Belt, a0_Chutes, a0_Inlets, a0_Plan, a0_Now⟩ := a0
  unfold I_RunCentre at h
  try dsimp only at h
  cbv
  obtain ⟨x1, hx1, h⟩ := of_cl h
  obtain ⟨x1_Belt, x1_Chutes, x1_Inlets, x1_Plan, x1_Now⟩ := x1
  try dsimp only at h
  refine ACall.mk _ _ rfl (hF _ _ _ (c_I_copyCentre hg ht hx1)) (.inl rfl) (Nat.le_of_ble_eq_true rfl) ?_
  cbv
  obtain ⟨x2, hx2, h⟩ := of_cl h
  try dsimp only at h
  refine ACall.mk _ _ rfl (hF _ _ _ (c_I_IsCentre hg ht hx2)) (.inl rfl) (Nat.le_of_ble_eq_true rfl) ?_
  cbv
  cases hb1 : x2 with
  | true =>
    rw [br_true hb1] at h
    cbv
    try (rw [hb1]; cbv)
    obtain ⟨x3, hx3, h⟩ := of_lP h
    try dsimp only at h
    refine ACall.mk _ _ rfl (hF _ _ _ (c_I_within hg ht hx3)) (.inl rfl) (Nat.le_of_ble_eq_true rfl) ?_
    cbv
    try (rw [hb1]; cbv)
    try (rw [hb1]; cbv)
    cases hb2 : x3 with
    | true =>
      rw [br_true hb2] at h
      cbv
      try (rw [hb2]; cbv)
      try (rw [hb2]; cbv)
      try (rw [hb2]; cbv)
      try (rw [hb2]; cbv)
      try (rw [hb2]; cbv)
      cases hb3 : (lt 100000 (wrap .i64 (add a0_Now a1))) with
      | true =>
        rw [br_true hb3] at h
        cbv
        obtain rfl := Option.some.inj h
        exact ARet.mk ⟨⟨rfl, (dlen_Item hg ht _)⟩, ⟨⟨rfl, (dlen_Chute hg ht _)⟩, ⟨⟨rfl, (dlen_Inlet hg ht _)⟩, ⟨rfl, (dlen_I64 hg ht _)⟩⟩⟩⟩ hX.symm
      | false =>
        rw [br_false hb3] at h
        cbv
        obtain ⟨hB1, h⟩ := of_gd h
        obtain ⟨o1, ho1, h⟩ := of_cl h
        try dsimp only at h
        try rw [hg] at ho1
        try rw [ht] at ho1
        refine ABL.mk { p : Nat × Int × (List Item) × (List Chute) × (List Inlet) × (List Int) × Int // p.1 = cntLt p.2.1 a1 ∧ 0 ≤ p.2.1 ∧ I_RunCentre_l1 G.real TE.real p.1 p.2.2.1 p.2.2.2.1 p.2.2.2.2.1 p.2.2.2.2.2.1 p.2.2.2.2.2.2 = some o1 } (fun ⟨⟨n1, v2, w1, w2, w3, w4, v1⟩, _⟩ => ({ sl := [(1, .c (.r (.v (.int .i64 a1)))), (4, .c (.p 0 5 0 0)), (5, .c (.p 1 5 0 0)), (6, .c (.r (.v (.int .i64 v2))))], tab := [(0, some (.foc 5 [] [.n 2, .n 3, .n 2, .n 1, .r (.v (.int .i64 0))] [])), (1, some (.foc 5 [] [.f 2 2 0 (dlen (d_Item w1)), .f 3 3 0 (dlen (d_Chute w2)), .f 4 2 0 (dlen (d_Inlet w3)), .f 5 1 0 (dlen (d_I64 w4)), .r (.v (.int .i64 v1))] [])), (2, some (.arr 2 (d_Item w1))), (3, some (.arr 3 (d_Chute w2))), (4, some (.arr 2 (d_Inlet w3))), (5, some (.arr 1 (d_I64 w4)))] } : St)) 6 (fun p => p.1.1) ⟨(cntLt 0 a1, 0, x1_Belt, x1_Chutes, x1_Inlets, x1_Plan, x1_Now), rfl, Int.le_refl _, ho1⟩ ((List Item) × (List Chute) × (List Inlet) × (List Int) × Int) (fun ⟨y1_1, y1_2_1, y1_2_2_1, y1_2_2_2_1, y1_2_2_2_2⟩ => ({ sl := [(4, .c (.p 0 5 0 0)), (5, .c (.p 1 5 0 0))], tab := [(0, some (.foc 5 [] [.n 2, .n 3, .n 2, .n 1, .r (.v (.int .i64 0))] [])), (1, some (.foc 5 [] [.f 2 2 0 (dlen (d_Item y1_1)), .f 3 3 0 (dlen (d_Chute y1_2_1)), .f 4 2 0 (dlen (d_Inlet y1_2_2_1)), .f 5 1 0 (dlen (d_I64 y1_2_2_2_1)), .r (.v (.int .i64 y1_2_2_2_2))] [])), (2, some (.arr 2 (d_Item y1_1))), (3, some (.arr 3 (d_Chute y1_2_1))), (4, some (.arr 2 (d_Inlet y1_2_2_1))), (5, some (.arr 1 (d_I64 y1_2_2_2_1)))] } : St)) 6 (fun y => o1 = y) ?_ ?_ ?_
        · refine Wk.of [(0, some 16), (1, some 64), (2, some 48), (3, some 49), (4, some 50), (5, some 51)] rfl rfl ?_ ?_
          · cbv
            all_goals exact ⟨⟨_, rfl, rfl⟩, ⟨_, rfl, rfl⟩, ⟨_, rfl, rfl⟩, ⟨_, rfl, rfl⟩, trivial⟩
          · cbv
            all_goals exact ⟨⟨_, rfl, _, rfl, rfl, rfl, rfl, rfl, rfl, trivial⟩, ⟨_, rfl, _, rfl, rfl, rfl, rfl, rfl, rfl, trivial⟩, ⟨_, rfl, rfl⟩, ⟨_, rfl, rfl⟩, ⟨_, rfl, rfl⟩, ⟨_, rfl, rfl⟩, trivial⟩
        · rintro ⟨⟨n1, v2, w1, w2, w3, w4, v1⟩, hn1, hi1, h_1⟩ hq1
          try dsimp only at hn1 hi1 h_1
          clear hq1
          cbv
          rcases n1 with _ | n1
          · have hb4 : lt v2 a1 = false := ltC_false hg hn1
            rw [I_RunCentre_l1] at h_1
            try rw [← hg] at h_1
            try rw [← ht] at h_1
            try dsimp only at h_1
            rw [hb4]
            cbv
            refine ⟨(w1, w2, w3, w4, v1), Wk.of [(0, some 0), (1, some 1), (2, some 2), (3, some 3), (4, some 4), (5, some 5)] rfl rfl ?_ ?_, (Option.some.inj h_1).symm⟩
            · cbv
              all_goals exact ⟨⟨_, rfl, rfl⟩, ⟨_, rfl, rfl⟩, trivial⟩
            · cbv
              all_goals exact ⟨⟨_, rfl, _, rfl, rfl, rfl, rfl, rfl, rfl, trivial⟩, ⟨_, rfl, _, rfl, rfl, rfl, rfl, rfl, rfl, trivial⟩, ⟨_, rfl, rfl⟩, ⟨_, rfl, rfl⟩, ⟨_, rfl, rfl⟩, ⟨_, rfl, rfl⟩, trivial⟩
          · have hb4 : lt v2 a1 = true := ltC_true hg hn1
            have hl1 := ltC_le hn1
            have hs1 := stepltC hg hn1 hi1 hB1 (by decide)
            rw [I_RunCentre_l1] at h_1
            try rw [← hg] at h_1
            try rw [← ht] at h_1
            try dsimp only at h_1
            rw [hb4]
            cbv
            refine AStep.mk ⟨⟨rfl, (dlen_Item hg ht _)⟩, ⟨⟨rfl, (dlen_Chute hg ht _)⟩, ⟨⟨rfl, (dlen_Inlet hg ht _)⟩, ⟨rfl, (dlen_I64 hg ht _)⟩⟩⟩⟩ ?_
            cbv
            obtain ⟨x4, hx4, h_1⟩ := of_cl h_1
            obtain ⟨x4_Belt, x4_Chutes, x4_Inlets, x4_Plan, x4_Now⟩ := x4
            try dsimp only at h_1
            refine ACallM.mk _ _ _ _ rfl rfl (hF _ _ _ (c_I_tick hg ht hx4)) rfl (Nat.le_of_ble_eq_true rfl) (Nat.le_of_ble_eq_true rfl) ?_
            cbv
            try rw [hg] at h_1
            try rw [ht] at h_1
            refine ⟨⟨(n1, (wrap .i64 (add v2 1)), x4_Belt, x4_Chutes, x4_Inlets, x4_Plan, x4_Now), hs1.1, hs1.2, h_1⟩, Wk.of [(0, some 0), (1, some 1), (2, some 62), (3, some 63), (4, some 64), (5, some 65)] rfl rfl ?_ ?_, Nat.lt_succ_self _⟩
            · cbv
              all_goals exact ⟨⟨_, rfl, rfl⟩, ⟨_, rfl, rfl⟩, ⟨_, rfl, rfl⟩, ⟨_, rfl, rfl⟩, trivial⟩
            · cbv
              all_goals exact ⟨⟨_, rfl, _, rfl, rfl, rfl, rfl, rfl, rfl, trivial⟩, ⟨_, rfl, _, rfl, rfl, rfl, rfl, rfl, rfl, trivial⟩, ⟨_, rfl, rfl⟩, ⟨_, rfl, rfl⟩, ⟨_, rfl, rfl⟩, ⟨_, rfl, rfl⟩, trivial⟩
        · rintro ⟨y1_1, y1_2_1, y1_2_2_1, y1_2_2_2_1, y1_2_2_2_2⟩ hy1
          replace hy1 := hy1.symm
          subst hy1
          try dsimp only [lr, lrL, lrp, lrpL] at h
          cbv
          obtain rfl := Option.some.inj h
          exact ARet.mk ⟨⟨rfl, (dlen_Item hg ht _)⟩, ⟨⟨rfl, (dlen_Chute hg ht _)⟩, ⟨⟨rfl, (dlen_Inlet hg ht _)⟩, ⟨rfl, (dlen_I64 hg ht _)⟩⟩⟩⟩ hX.symm
    | false =>
      rw [br_false hb2] at h
      cbv
      try (rw [hb2]; cbv)
      try (rw [hb2]; cbv)
      try (rw [hb2]; cbv)
      try (rw [hb2]; cbv)
      try (rw [hb2]; cbv)
      obtain rfl := Option.some.inj h
      exact ARet.mk ⟨⟨rfl, (dlen_Item hg ht _)⟩, ⟨⟨rfl, (dlen_Chute hg ht _)⟩, ⟨⟨rfl, (dlen_Inlet hg ht _)⟩, ⟨rfl, (dlen_I64 hg ht _)⟩⟩⟩⟩ hX.symm
  | false =>
    rw [br_false hb1] at h
    cbv
    try (rw [hb1]; cbv)
    try (rw [hb1]; cbv)
    try (rw [hb1]; cbv)
    obtain rfl := Option.some.inj h
    exact ARet.mk ⟨⟨rfl, (dlen_Item hg ht _)⟩, ⟨⟨rfl, (dlen_Chute hg ht _)⟩, ⟨⟨rfl, (dlen_Inlet hg ht _)⟩, ⟨rfl, (dlen_I64 hg ht _)⟩⟩⟩⟩ hX.symm
end Go.Vs
namespace Go.Vs
set_option maxRecDepth 100000
def ir91 : J :=
  .seq (.reg none [⟨(some 2), none, .mv (.k (.c .un))⟩] [0])
  (.seq (.reg none [⟨(some 5), none, .mv (.t 0)⟩,
     ⟨(some 6), none, .len false (.t 5)⟩,
     ⟨(some 7), none, .bin .mul .i (.k (V.i 3)) (.t 6)⟩,
     ⟨(some 8), none, .bin .add .i (.k (V.i 744201)) (.t 7)⟩,
     ⟨(some 3), none, .mv (.t 8)⟩] [0, 3])
  (.seq (.seq (.reg none [⟨(some 4), none, .mv (.k (V.i 0))⟩] [0, 3, 4])
   (.bl 0 (.seq (.seq (.reg none [⟨(some 9), none, .mv (.t 4)⟩,
        ⟨(some 10), none, .mv (.t 0)⟩,
        ⟨(some 11), none, .len false (.t 10)⟩,
        ⟨(some 12), none, .bin .lss .i (.t 9) (.t 11)⟩,
        ⟨(some 13), none, .mv (.t 12)⟩,
        ⟨(some 14), (some (13, true)), .mv (.t 4)⟩,
        ⟨(some 15), (some (13, true)), .bin .lss .i (.t 14) (.k (V.i 4000))⟩,
        ⟨(some 16), none, .pick (.t 13) (.t 15) (.k (V.b false))⟩] [0, 3, 4, 16])
     (.cond (.t 16)
      (.skip)
      (.exit 0)))
    (.seq (.block 1 (.reg none [⟨(some 19), none, .mv (.t 3)⟩,
        ⟨(some 20), none, .bin .mul .i (.t 19) (.k (V.i 167))⟩,
        ⟨(some 21), none, .mv (.t 0)⟩,
        ⟨(some 22), none, .mv (.t 4)⟩,
        ⟨(some 23), none, .ia 1 (.t 21) (.t 22)⟩,
        ⟨(some 24), none, .ld false 1 (.t 23)⟩,
        ⟨(some 25), none, .cvt .i64 (.t 24)⟩,
        ⟨(some 26), none, .bin .add .i (.t 20) (.t 25)⟩,
        ⟨(some 27), none, .bin .add .i (.t 26) (.k (V.i 29))⟩,
        ⟨(some 28), none, .bin .and .i (.t 27) (.k (V.i 1073741823))⟩,
        ⟨(some 3), none, .mv (.t 28)⟩] [0, 3, 4]))
    (.reg none [⟨(some 17), none, .mv (.t 4)⟩,
      ⟨(some 18), none, .bin .add .i (.t 17) (.k (V.i 1))⟩,
      ⟨(some 4), none, .mv (.t 18)⟩] [0, 3, 4])))))
  (.seq (.reg none [⟨(some 29), none, .mv (.t 0)⟩,
     ⟨(some 30), none, .mv (.t 3)⟩,
     ⟨(some 31), none, .bld [.n 1, .r (.v (.int .i64 0)), .r (.v (.int .i64 0))] [(0, 1, (.t 29)), (2, 1, (.t 30))]⟩,
     ⟨(some 32), none, .box (.t 31)⟩,
     ⟨(some 2), none, .mv (.t 32)⟩] [2])
  (.ret))))
def rv91 : List RV := [.t 2]
open Go.Proofs Go.IntWalk
set_option linter.unusedVariables false
set_option maxRecDepth 100000
set_option maxHeartbeats 4000000
def S_l1New_l1 (g : G) (t : TE) : List Int → Int → Int → Int
  | [], v2, v1 =>
    v1
  | z1 :: ls1, v2, v1 =>
    br (g.lt v2 4000)
    (
     S_l1New_l1 g t ls1 (g.wrap .i64 (g.add v2 1)) (g.band .i64 (g.wrap .i64 (g.add (g.wrap .i64 (g.add (g.wrap .i64 (g.mul v1 167)) (g.wrap .i64 z1))) 29)) 1073741823))
    (
     v1)
def S_l1New (g : G) (t : TE) (a0 : List Int) : Cur :=
  lP (S_l1New_l1 g t a0 0 (g.wrap .i64 (g.add 744201 (g.wrap .i64 (g.mul 3 (g.llen (t.r_U8 a0))))))) fun y1 =>
  (Cur.mk a0 0 y1)
theorem fit91 : codeFit Try.prog Try.f91.ntmps (Try.f91.body.getD .skip) ir91 = true := by kernel_rfl
theorem c_S_l1New {g : G} {t : TE} {a0 : List Int} {r : Cur} (hg : g = G.real) (ht : t = TE.real) (h : S_l1New g t a0 = r) : Fn Try.prog 91 [.c (.s 1 (t.r_U8 a0))] (.p (Cur.ds t r)) := by
  obtain ⟨X, hX⟩ := hide (.p (Cur.ds t r) : X)
  rw [← hX]
  refine fn_of (rvs := rv91) (j := ir91) Try.func91 rfl fit91 (Nat.le_of_ble_eq_true rfl) (by kernel_rfl) prog_mixed ?_
  intro g2 F hg2 hF
  obtain rfl : g2 = g := hg2.unique.trans hg.symm
  clear hg2
  obtain ⟨wrap, lt, le, eq, quo, rem, band, bor, bxor, shl, shr, nat, int, add, sub, mul, cat, seq, slt, sub3, byte, llen, nadd, nsub, dlen, dapp, dset, drep, rd, rda, up, rsub, dsub, all, sle, slen, hasI, putI, hasS, putS, imin, imax, fzc⟩ := g2
  obtain ⟨r_Item, d_Item, r_Chute, d_Chute, r_Inlet, d_Inlet, r_I64, d_I64, r_U8, d_U8, d_InletF⟩ := t
  unfold S_l1New at h
  try dsimp only at h
  cbv
  obtain ⟨o1, ho1, h⟩ := of_lP h
  try dsimp only at h
  try rw [hg] at ho1
  try rw [ht] at ho1
  refine ABL.mk { p : Nat × Int × Int // p.1 ≤ a0.length ∧ p.2.1 = ((p.1 : Nat) : Int) ∧ S_l1New_l1 G.real TE.real (List.drop p.1 a0) p.2.1 p.2.2 = o1 } (fun ⟨⟨k1, v2, v1⟩, _⟩ => ({ sl := [(0, .c (.r (.s 1 (r_U8 a0)))), (3, .c (.r (.v (.int .i64 v1)))), (4, .c (.r (.v (.int .i64 v2))))], tab := [] } : St)) 0 (fun p => a0.length - p.1.1) ⟨(0, 0, (wrap .i64 (add 744201 (wrap .i64 (mul 3 (llen (r_U8 a0))))))), Nat.zero_le _, rfl, ho1⟩ (Int) (fun y1 => ({ sl := [(0, .c (.r (.s 1 (r_U8 a0)))), (3, .c (.r (.v (.int .i64 y1))))], tab := [] } : St)) 0 (fun y => o1 = y) ?_ ?_ ?_
  · refine Wk.of [] rfl rfl ?_ ?_
    · cbv
      all_goals exact ⟨⟨_, rfl, rfl⟩, ⟨_, rfl, rfl⟩, ⟨_, rfl, rfl⟩, trivial⟩
    · cbv
      all_goals exact trivial
  · rintro ⟨⟨k1, v2, v1⟩, hk1, hi1, h_1⟩ hq1
    have hm1 := (hq1.1 0 _ _ rfl)
    try dsimp only at hk1 hi1 h_1
    clear hq1
    cbv
    by_cases hc1_ : k1 < a0.length
    · have hb1 : lt v2 (llen (r_U8 a0)) = true := ltL_true_U8 hg ht hi1 hc1_
      have hs1 := stepL_U8 hg ht hi1 hc1_ hm1
      obtain ⟨z1, hz1⟩ := some_of_lt hc1_
      rw [drop_of_some hz1] at h_1
      rw [S_l1New_l1] at h_1
      try rw [← hg] at h_1
      try rw [← ht] at h_1
      try dsimp only at h_1
      rw [hb1]
      cbv
      try (rw [hb1]; cbv)
      try (rw [hb1]; cbv)
      cases hb2 : (lt v2 4000) with
      | true =>
        rw [br_true hb2] at h_1
        cbv
        refine AStep.mk (nn_L hi1) ?_
        cbv
        refine AGet.mk _ (r_getL_U8 hg ht hi1 hz1) ?_
        cbv
        try rw [hg] at h_1
        try rw [ht] at h_1
        refine ⟨⟨(k1 + 1, (wrap .i64 (add v2 1)), (band .i64 (wrap .i64 (add (wrap .i64 (add (wrap .i64 (mul v1 167)) (wrap .i64 z1))) 29)) 1073741823)), hc1_, hs1, h_1⟩, Wk.of [] rfl rfl ?_ ?_, meas_L hc1_⟩
        · cbv
          all_goals exact ⟨⟨_, rfl, rfl⟩, ⟨_, rfl, rfl⟩, ⟨_, rfl, rfl⟩, trivial⟩
        · cbv
          all_goals exact trivial
      | false =>
        rw [br_false hb2] at h_1
        cbv
        refine ⟨v1, Wk.of [] rfl rfl ?_ ?_, h_1.symm⟩
        · cbv
          all_goals exact ⟨⟨_, rfl, rfl⟩, ⟨_, rfl, rfl⟩, trivial⟩
        · cbv
          all_goals exact trivial
    · have hb1 : lt v2 (llen (r_U8 a0)) = false := ltL_false_U8 hg ht hi1 hc1_
      rw [List.drop_of_length_le (Nat.le_of_not_lt hc1_)] at h_1
      rw [S_l1New_l1] at h_1
      try rw [← hg] at h_1
      try rw [← ht] at h_1
      try dsimp only at h_1
      rw [hb1]
      cbv
      try (rw [hb1]; cbv)
      try (rw [hb1]; cbv)
      refine ⟨v1, Wk.of [] rfl rfl ?_ ?_, h_1.symm⟩
      · cbv
        all_goals exact ⟨⟨_, rfl, rfl⟩, ⟨_, rfl, rfl⟩, trivial⟩
      · cbv
        all_goals exact trivial
  · rintro y1 hy1
    replace hy1 := hy1.symm
    subst hy1
    try dsimp only [lr, lrL, lrp, lrpL] at h
    cbv
    subst h
    exact ARet.mk trivial hX.symm
end Go.Vs
namespace Go.Vs
set_option maxRecDepth 100000
def ir119 : J :=
  .seq (.reg none [⟨(some 2), none, .mv (.k (V.i 0))⟩] [0])
  (.seq (.reg none [⟨(some 4), none, .mv (.t 0)⟩,
     ⟨(some 5), none, .mv (.t 0)⟩,
     ⟨(some 6), none, .nilc (.t 5)⟩,
     ⟨(some 7), none, .fa 2 (.t 6)⟩,
     ⟨(some 8), none, .ld false 1 (.t 7)⟩,
     ⟨(some 9), none, .bin .mul .i (.t 8) (.k (V.i 6364136223846793005))⟩,
     ⟨(some 10), none, .bin .add .i (.t 9) (.k (V.i 1442695040888963407))⟩,
     ⟨(some 11), none, .nilc (.t 4)⟩,
     ⟨(some 12), none, .fa 2 (.t 11)⟩,
     ⟨none, none, .st 1 (.t 12) (.t 10)⟩] [0])
  (.seq (.reg (some [[], [0], [0, 1], [0, 1, 2], [0, 1, 2, 3], [], [5], [5, 6], [5, 6, 7], [5, 6, 7, 8], [0, 1, 2, 3, 4, 5, 6, 7, 8, 9], [0, 1, 2, 3, 4, 5, 6, 7, 8, 9, 10], [0, 1, 2, 3, 4, 5, 6, 7, 8, 9, 10, 11]]) [⟨(some 13), none, .mv (.t 0)⟩,
     ⟨(some 14), none, .nilc (.t 13)⟩,
     ⟨(some 15), none, .fa 2 (.t 14)⟩,
     ⟨(some 16), none, .ld false 1 (.t 15)⟩,
     ⟨(some 17), none, .bin .shr .i (.t 16) (.k (.c (.r (.v (.int .u64 35)))))⟩,
     ⟨(some 18), none, .mv (.t 0)⟩,
     ⟨(some 19), none, .nilc (.t 18)⟩,
     ⟨(some 20), none, .fa 2 (.t 19)⟩,
     ⟨(some 21), none, .ld false 1 (.t 20)⟩,
     ⟨(some 22), none, .bin .shr .i (.t 21) (.k (.c (.r (.v (.int .u64 45)))))⟩,
     ⟨(some 23), none, .bin .xor .i (.t 17) (.t 22)⟩,
     ⟨(some 24), none, .bin .and .i (.t 23) (.k (V.i 255))⟩,
     ⟨(some 3), none, .mv (.t 24)⟩] [0, 3])
  (.seq (.seq (.reg (some [[], [0], [0, 1], [0, 1, 2], [], [4], [4, 5], [4, 5, 6], [4, 5, 6, 7], [0, 1, 2, 3, 4, 5, 6, 7, 8]]) [⟨(some 25), none, .mv (.t 0)⟩,
      ⟨(some 26), none, .nilc (.t 25)⟩,
      ⟨(some 27), none, .fa 1 (.t 26)⟩,
      ⟨(some 28), none, .ld false 1 (.t 27)⟩,
      ⟨(some 29), none, .mv (.t 0)⟩,
      ⟨(some 30), none, .nilc (.t 29)⟩,
      ⟨(some 31), none, .fa 0 (.t 30)⟩,
      ⟨(some 32), none, .ld false 1 (.t 31)⟩,
      ⟨(some 33), none, .len false (.t 32)⟩,
      ⟨(some 34), none, .bin .lss .i (.t 28) (.t 33)⟩] [0, 3, 34])
   (.cond (.t 34)
    (.seq (.reg (some [[], [], [1], [1, 2], [1, 2, 3], [], [5], [5, 6], [5, 6, 7], [1, 2, 3, 4, 5, 6, 7, 8], [1, 2, 3, 4, 5, 6, 7, 8, 9], [1, 2, 3, 4, 5, 6, 7, 8, 9, 10], [0, 1, 2, 3, 4, 5, 6, 7, 8, 9, 10, 11], [0, 1, 2, 3, 4, 5, 6, 7, 8, 9, 10, 11, 12], [0, 1, 2, 3, 4, 5, 6, 7, 8, 9, 10, 11, 12, 13]]) [⟨(some 35), none, .mv (.t 3)⟩,
        ⟨(some 36), none, .mv (.t 0)⟩,
        ⟨(some 37), none, .nilc (.t 36)⟩,
        ⟨(some 38), none, .fa 0 (.t 37)⟩,
        ⟨(some 39), none, .ld false 1 (.t 38)⟩,
        ⟨(some 40), none, .mv (.t 0)⟩,
        ⟨(some 41), none, .nilc (.t 40)⟩,
        ⟨(some 42), none, .fa 1 (.t 41)⟩,
        ⟨(some 43), none, .ld false 1 (.t 42)⟩,
        ⟨(some 44), none, .ia 1 (.t 39) (.t 43)⟩,
        ⟨(some 45), none, .ld false 1 (.t 44)⟩,
        ⟨(some 46), none, .cvt .i64 (.t 45)⟩,
        ⟨(some 47), none, .bin .add .i (.t 35) (.t 46)⟩,
        ⟨(some 48), none, .bin .and .i (.t 47) (.k (V.i 255))⟩,
        ⟨(some 3), none, .mv (.t 48)⟩] [0, 3])
     (.reg none [⟨(some 49), none, .mv (.t 0)⟩,
       ⟨(some 50), none, .mv (.t 0)⟩,
       ⟨(some 51), none, .nilc (.t 50)⟩,
       ⟨(some 52), none, .fa 1 (.t 51)⟩,
       ⟨(some 53), none, .ld false 1 (.t 52)⟩,
       ⟨(some 54), none, .bin .add .i (.t 53) (.k (V.i 1))⟩,
       ⟨(some 55), none, .nilc (.t 49)⟩,
       ⟨(some 56), none, .fa 1 (.t 55)⟩,
       ⟨none, none, .st 1 (.t 56) (.t 54)⟩] [3]))
    (.skip)))
  (.seq (.reg none [⟨(some 57), none, .mv (.t 3)⟩,
     ⟨(some 2), none, .mv (.t 57)⟩] [2])
  (.ret)))))
def rv119 : List RV := [.t 2]
open Go.Proofs Go.IntWalk
set_option linter.unusedVariables false
set_option maxRecDepth 100000
set_option maxHeartbeats 4000000
def S_l1Byte (g : G) (t : TE) (a0 : Cur) : Option (Int × Cur) :=
  br (g.lt a0.i (g.llen (t.r_U8 a0.b)))
  (
   gd (((0 : Int) ≤ a0.i)) <|
   gt a0.b (g.nat a0.i) fun x1 =>
   some (((g.band .i64 (g.wrap .i64 (g.add (g.band .i64 (g.bxor .i64 (g.shr .i64 (g.wrap .i64 (g.add (g.wrap .i64 (g.mul a0.h 6364136223846793005)) 1442695040888963407)) 35) (g.shr .i64 (g.wrap .i64 (g.add (g.wrap .i64 (g.mul a0.h 6364136223846793005)) 1442695040888963407)) 45)) 255) (g.wrap .i64 x1))) 255), (Cur.mk a0.b (g.wrap .i64 (g.add a0.i 1)) (g.wrap .i64 (g.add (g.wrap .i64 (g.mul a0.h 6364136223846793005)) 1442695040888963407))))))
  (
   some (((g.band .i64 (g.bxor .i64 (g.shr .i64 (g.wrap .i64 (g.add (g.wrap .i64 (g.mul a0.h 6364136223846793005)) 1442695040888963407)) 35) (g.shr .i64 (g.wrap .i64 (g.add (g.wrap .i64 (g.mul a0.h 6364136223846793005)) 1442695040888963407)) 45)) 255), (Cur.mk a0.b a0.i (g.wrap .i64 (g.add (g.wrap .i64 (g.mul a0.h 6364136223846793005)) 1442695040888963407))))))
theorem fit119 : codeFit Try.prog Try.f119.ntmps (Try.f119.body.getD .skip) ir119 = true := by kernel_rfl
theorem c_S_l1Byte {g : G} {t : TE} {a0 : Cur} {r : Int × Cur} (hg : g = G.real) (ht : t = TE.real) (h : S_l1Byte g t a0 = some r) : FnM Try.prog 119 (.p (Cur.ds t a0)) [] (.c (.r (.v (.int .i64 r.1)))) (.p (Cur.ds t r.2)) := by
  obtain ⟨X, hX⟩ := hide (.c (.r (.v (.int .i64 r.1))) : X)
  obtain ⟨Y, hY⟩ := hide (.p (Cur.ds t r.2) : AM)
  rw [← hX, ← hY]
  refine fnM_of (rvs := rv119) (j := ir119) Try.func119 rfl fit119 (Nat.le_of_ble_eq_true rfl) (by kernel_rfl) prog_mixed ?_
  intro g2 F hg2 hF
  obtain rfl : g2 = g := hg2.unique.trans hg.symm
  clear hg2
  obtain ⟨wrap, lt, le, eq, quo, rem, band, bor, bxor, shl, shr, nat, int, add, sub, mul, cat, seq, slt, sub3, byte, llen, nadd, nsub, dlen, dapp, dset, drep, rd, rda, up, rsub, dsub, all, sle, slen, hasI, putI, hasS, putS, imin, imax, fzc⟩ := g2
  obtain ⟨r_Item, d_Item, r_Chute, d_Chute, r_Inlet, d_Inlet, r_I64, d_I64, r_U8, d_U8, d_InletF⟩ := t
  obtain ⟨a0_b, a0_i, a0_h⟩ := a0
  unfold S_l1Byte at h
  try dsimp only at h
  cbv
  refine AStep.mk (by decide) ?_
  cbv
  refine AStep.mk (by decide) ?_
  cbv
  cases hb1 : (lt a0_i (llen (r_U8 a0_b))) with
  | true =>
    rw [br_true hb1] at h
    cbv
    obtain ⟨hc1, h⟩ := of_gd h
    refine AStep.mk hc1 ?_
    cbv
    obtain ⟨x1, hx1, h⟩ := of_gt h
    try dsimp only at h
    refine AGet.mk _ (r_get_U8 hg ht hx1) ?_
    cbv
    obtain rfl := Option.some.inj h
    exact ARetM.mk trivial hX.symm hY.symm
  | false =>
    rw [br_false hb1] at h
    cbv
    obtain rfl := Option.some.inj h
    exact ARetM.mk trivial hX.symm hY.symm
end Go.Vs
namespace Go.Vs
set_option maxRecDepth 100000
def ir101 : J :=
  .seq (.reg none [⟨(some 4), none, .mv (.k (V.i 0))⟩] [0, 1])
  (.seq (.seq (.reg none [⟨(some 8), none, .mv (.t 1)⟩,
      ⟨(some 9), none, .bin .leq .i (.t 8) (.k (V.i 0))⟩] [0, 1, 9])
   (.cond (.t 9)
    (.seq (.reg none [⟨(some 4), none, .mv (.k (V.i 0))⟩] [4])
     (.ret))
    (.skip)))
  (.seq (.seq (.reg none [⟨(some 10), none, .mv (.t 1)⟩,
      ⟨(some 11), none, .bin .leq .i (.t 10) (.k (V.i 256))⟩] [0, 1, 11])
   (.cond (.t 11)
    (.seq (.reg none [⟨(some 12), none, .mv (.t 0)⟩,
        ⟨(some 13), none, .callm 119 (.t 12) []⟩,
        ⟨(some 14), none, .mv (.t 1)⟩,
        ⟨(some 15), none, .bin .rem .i (.t 13) (.t 14)⟩,
        ⟨(some 4), none, .mv (.t 15)⟩] [4])
     (.ret))
    (.skip)))
  (.seq (.reg none [⟨(some 16), none, .mv (.t 0)⟩,
     ⟨(some 17), none, .callm 119 (.t 16) []⟩,
     ⟨(some 5), none, .mv (.t 17)⟩] [0, 1, 5])
  (.seq (.reg none [⟨(some 18), none, .mv (.t 0)⟩,
     ⟨(some 19), none, .callm 119 (.t 18) []⟩,
     ⟨(some 6), none, .mv (.t 19)⟩] [0, 1, 5, 6])
  (.seq (.reg none [⟨(some 20), none, .mv (.t 0)⟩,
     ⟨(some 21), none, .callm 119 (.t 20) []⟩,
     ⟨(some 7), none, .mv (.t 21)⟩] [1, 5, 6, 7])
  (.seq (.reg none [⟨(some 22), none, .mv (.t 5)⟩,
     ⟨(some 23), none, .bin .mul .i (.t 22) (.k (V.i 65536))⟩,
     ⟨(some 24), none, .mv (.t 6)⟩,
     ⟨(some 25), none, .bin .mul .i (.t 24) (.k (V.i 256))⟩,
     ⟨(some 26), none, .bin .add .i (.t 23) (.t 25)⟩,
     ⟨(some 27), none, .mv (.t 7)⟩,
     ⟨(some 28), none, .bin .add .i (.t 26) (.t 27)⟩,
     ⟨(some 29), none, .mv (.t 1)⟩,
     ⟨(some 30), none, .bin .rem .i (.t 28) (.t 29)⟩,
     ⟨(some 4), none, .mv (.t 30)⟩] [4])
  (.ret)))))))
def rv101 : List RV := [.t 4]
open Go.Proofs Go.IntWalk
set_option linter.unusedVariables false
set_option maxRecDepth 100000
set_option maxHeartbeats 4000000
def S_l1Below (g : G) (t : TE) (a0 : Cur) (a1 : Int) : Option (Int × Cur) :=
  br (g.le a1 0)
  (
   some ((0, a0)))
  (
   br (g.le a1 256)
   (
    cl (S_l1Byte g t a0) fun x1 =>
    gd ((a1 ≠ 0)) <|
    some (((g.rem x1.1 a1), (Cur.mk x1.2.b x1.2.i x1.2.h))))
   (
    cl (S_l1Byte g t a0) fun x2 =>
    cl (S_l1Byte g t (Cur.mk x2.2.b x2.2.i x2.2.h)) fun x3 =>
    cl (S_l1Byte g t (Cur.mk x3.2.b x3.2.i x3.2.h)) fun x4 =>
    gd ((a1 ≠ 0)) <|
    some (((g.rem (g.wrap .i64 (g.add (g.wrap .i64 (g.add (g.wrap .i64 (g.mul x2.1 65536)) (g.wrap .i64 (g.mul x3.1 256)))) x4.1)) a1), (Cur.mk x4.2.b x4.2.i x4.2.h)))))
theorem fit101 : codeFit Try.prog Try.f101.ntmps (Try.f101.body.getD .skip) ir101 = true := by kernel_rfl
theorem c_S_l1Below {g : G} {t : TE} {a0 : Cur} {a1 : Int} {r : Int × Cur} (hg : g = G.real) (ht : t = TE.real) (h : S_l1Below g t a0 a1 = some r) : FnM Try.prog 101 (.p (Cur.ds t a0)) [.c (.v (.int .i64 a1))] (.c (.r (.v (.int .i64 r.1)))) (.p (Cur.ds t r.2)) := by
  obtain ⟨X, hX⟩ := hide (.c (.r (.v (.int .i64 r.1))) : X)
  obtain ⟨Y, hY⟩ := hide (.p (Cur.ds t r.2) : AM)
  rw [← hX, ← hY]
  refine fnM_of (rvs := rv101) (j := ir101) Try.func101 rfl fit101 (Nat.le_of_ble_eq_true rfl) (by kernel_rfl) prog_mixed ?_
  intro g2 F hg2 hF
  obtain rfl : g2 = g := hg2.unique.trans hg.symm
  clear hg2
  obtain ⟨wrap, lt, le, eq, quo, rem, band, bor, bxor, shl, shr, nat, int, add, sub, mul, cat, seq, slt, sub3, byte, llen, nadd, nsub, dlen, dapp, dset, drep, rd, rda, up, rsub, dsub, all, sle, slen, hasI, putI, hasS, putS, imin, imax, fzc⟩ := g2
  obtain ⟨r_Item, d_Item, r_Chute, d_Chute, r_Inlet, d_Inlet, r_I64, d_I64, r_U8, d_U8, d_InletF⟩ := t
  obtain ⟨a0_b, a0_i, a0_h⟩ := a0
  unfold S_l1Below at h
  try dsimp only at h
  cbv
  cases hb1 : (le a1 0) with
  | true =>
    rw [br_true hb1] at h
    cbv
    obtain rfl := Option.some.inj h
    exact ARetM.mk trivial hX.symm hY.symm
  | false =>
    rw [br_false hb1] at h
    cbv
    cases hb2 : (le a1 256) with
    | true =>
      rw [br_true hb2] at h
      cbv
      obtain ⟨x1, hx1, h⟩ := of_cl h
      obtain ⟨x1_1, ⟨x1_2_b, x1_2_i, x1_2_h⟩⟩ := x1
      try dsimp only at h
      refine ACallM.mk _ _ _ _ rfl rfl (hF _ _ _ (c_S_l1Byte hg ht hx1)) rfl (Nat.le_of_ble_eq_true rfl) (Nat.le_of_ble_eq_true rfl) ?_
      cbv
      obtain ⟨hc1, h⟩ := of_gd h
      refine AStep.mk hc1 ?_
      cbv
      obtain rfl := Option.some.inj h
      exact ARetM.mk trivial hX.symm hY.symm
    | false =>
      rw [br_false hb2] at h
      cbv
      obtain ⟨x2, hx2, h⟩ := of_cl h
      obtain ⟨x2_1, ⟨x2_2_b, x2_2_i, x2_2_h⟩⟩ := x2
      try dsimp only at h
      refine ACallM.mk _ _ _ _ rfl rfl (hF _ _ _ (c_S_l1Byte hg ht hx2)) rfl (Nat.le_of_ble_eq_true rfl) (Nat.le_of_ble_eq_true rfl) ?_
      cbv
      obtain ⟨x3, hx3, h⟩ := of_cl h
      obtain ⟨x3_1, ⟨x3_2_b, x3_2_i, x3_2_h⟩⟩ := x3
      try dsimp only at h
      refine ACallM.mk _ _ _ _ rfl rfl (hF _ _ _ (c_S_l1Byte hg ht hx3)) rfl (Nat.le_of_ble_eq_true rfl) (Nat.le_of_ble_eq_true rfl) ?_
      cbv
      obtain ⟨x4, hx4, h⟩ := of_cl h
      obtain ⟨x4_1, ⟨x4_2_b, x4_2_i, x4_2_h⟩⟩ := x4
      try dsimp only at h
      refine ACallM.mk _ _ _ _ rfl rfl (hF _ _ _ (c_S_l1Byte hg ht hx4)) rfl (Nat.le_of_ble_eq_true rfl) (Nat.le_of_ble_eq_true rfl) ?_
      cbv
      obtain ⟨hc2, h⟩ := of_gd h
      refine AStep.mk hc2 ?_
      cbv
      obtain rfl := Option.some.inj h
      exact ARetM.mk trivial hX.symm hY.symm
end Go.Vs
namespace Go.Vs
set_option maxRecDepth 100000
def ir93 : J :=
  .seq (.reg none [⟨(some 4), none, .mv (.k (V.i 0))⟩] [0, 1])
  (.seq (.reg none [⟨(some 5), none, .mv (.t 1)⟩,
     ⟨(some 6), none, .mv (.t 0)⟩,
     ⟨(some 7), none, .mv (.t 1)⟩,
     ⟨(some 8), none, .len false (.t 7)⟩,
     ⟨(some 9), none, .callm 101 (.t 6) [(.t 8)]⟩,
     ⟨(some 10), none, .ia 1 (.t 5) (.t 9)⟩,
     ⟨(some 11), none, .ld false 1 (.t 10)⟩,
     ⟨(some 4), none, .mv (.t 11)⟩] [4])
  (.ret))
def rv93 : List RV := [.t 4]
open Go.Proofs Go.IntWalk
set_option linter.unusedVariables false
set_option maxRecDepth 100000
set_option maxHeartbeats 4000000
def S_l1Int (g : G) (t : TE) (a0 : Cur) (a1 : List Int) : Option (Int × Cur) :=
  cl (S_l1Below g t a0 (g.llen (t.r_I64 a1))) fun x1 =>
  gd (((0 : Int) ≤ x1.1)) <|
  gt a1 (g.nat x1.1) fun x2 =>
  some ((x2, (Cur.mk x1.2.b x1.2.i x1.2.h)))
theorem fit93 : codeFit Try.prog Try.f93.ntmps (Try.f93.body.getD .skip) ir93 = true := by kernel_rfl
theorem c_S_l1Int {g : G} {t : TE} {a0 : Cur} {a1 : List Int} {r : Int × Cur} (hg : g = G.real) (ht : t = TE.real) (h : S_l1Int g t a0 a1 = some r) : FnM Try.prog 93 (.p (Cur.ds t a0)) [.c (.s 1 (t.r_I64 a1))] (.c (.r (.v (.int .i64 r.1)))) (.p (Cur.ds t r.2)) := by
  obtain ⟨X, hX⟩ := hide (.c (.r (.v (.int .i64 r.1))) : X)
  obtain ⟨Y, hY⟩ := hide (.p (Cur.ds t r.2) : AM)
  rw [← hX, ← hY]
  refine fnM_of (rvs := rv93) (j := ir93) Try.func93 rfl fit93 (Nat.le_of_ble_eq_true rfl) (by kernel_rfl) prog_mixed ?_
  intro g2 F hg2 hF
  obtain rfl : g2 = g := hg2.unique.trans hg.symm
  clear hg2
  obtain ⟨wrap, lt, le, eq, quo, rem, band, bor, bxor, shl, shr, nat, int, add, sub, mul, cat, seq, slt, sub3, byte, llen, nadd, nsub, dlen, dapp, dset, drep, rd, rda, up, rsub, dsub, all, sle, slen, hasI, putI, hasS, putS, imin, imax, fzc⟩ := g2
  obtain ⟨r_Item, d_Item, r_Chute, d_Chute, r_Inlet, d_Inlet, r_I64, d_I64, r_U8, d_U8, d_InletF⟩ := t
  obtain ⟨a0_b, a0_i, a0_h⟩ := a0
  unfold S_l1Int at h
  try dsimp only at h
  cbv
  obtain ⟨x1, hx1, h⟩ := of_cl h
  obtain ⟨x1_1, ⟨x1_2_b, x1_2_i, x1_2_h⟩⟩ := x1
  try dsimp only at h
  refine ACallM.mk _ _ _ _ rfl rfl (hF _ _ _ (c_S_l1Below hg ht hx1)) rfl (Nat.le_of_ble_eq_true rfl) (Nat.le_of_ble_eq_true rfl) ?_
  cbv
  obtain ⟨hc1, h⟩ := of_gd h
  refine AStep.mk hc1 ?_
  cbv
  obtain ⟨x2, hx2, h⟩ := of_gt h
  try dsimp only at h
  refine AGet.mk _ (r_get_I64 hg ht hx2) ?_
  cbv
  obtain rfl := Option.some.inj h
  exact ARetM.mk trivial hX.symm hY.symm
end Go.Vs
namespace Go.Vs
set_option maxRecDepth 100000
def ir96 : J :=
  .seq (.reg none [⟨(some 2), none, .mv (.k (.c (.n 1)))⟩] [0])
  (.seq (.reg none [⟨(some 3), none, .bsl 1 []⟩,
     ⟨(some 4), none, .mv (.t 0)⟩,
     ⟨(some 5), none, .app 1 8 false (.t 3) (.t 4)⟩,
     ⟨(some 2), none, .mv (.t 5)⟩] [2])
  (.ret))
def rv96 : List RV := [.t 2]
open Go.Proofs Go.IntWalk
set_option linter.unusedVariables false
set_option maxRecDepth 100000
set_option maxHeartbeats 4000000
def S_l1Ints (g : G) (t : TE) (a0 : List Int) : Option (List Int) :=
  lP ([]) fun (l1 : List Int) =>
  gd (((l1.length + a0.length) * 8 ≤ 70368744177664)) <|
  lP (l1 ++ a0) fun (l2 : List Int) =>
  some l2
theorem fit96 : codeFit Try.prog Try.f96.ntmps (Try.f96.body.getD .skip) ir96 = true := by kernel_rfl
theorem c_S_l1Ints {g : G} {t : TE} {a0 : List Int} {r : List Int} (hg : g = G.real) (ht : t = TE.real) (h : S_l1Ints g t a0 = some r) : Fn Try.prog 96 [.c (.s 1 (t.r_I64 a0))] (.c (.o 1 (t.d_I64 r))) := by
  obtain ⟨X, hX⟩ := hide (.c (.o 1 (t.d_I64 r)) : X)
  rw [← hX]
  refine fn_of (rvs := rv96) (j := ir96) Try.func96 rfl fit96 (Nat.le_of_ble_eq_true rfl) (by kernel_rfl) prog_mixed ?_
  intro g2 F hg2 hF
  obtain rfl : g2 = g := hg2.unique.trans hg.symm
  clear hg2
  obtain ⟨wrap, lt, le, eq, quo, rem, band, bor, bxor, shl, shr, nat, int, add, sub, mul, cat, seq, slt, sub3, byte, llen, nadd, nsub, dlen, dapp, dset, drep, rd, rda, up, rsub, dsub, all, sle, slen, hasI, putI, hasS, putS, imin, imax, fzc⟩ := g2
  obtain ⟨r_Item, d_Item, r_Chute, d_Chute, r_Inlet, d_Inlet, r_I64, d_I64, r_U8, d_U8, d_InletF⟩ := t
  unfold S_l1Ints at h
  try dsimp only at h
  cbv
  obtain ⟨l1, hl1, h⟩ := of_lP h
  try dsimp only at h
  refine ANew.mk (d_I64 l1) (dlen (d_I64 l1)) (by rw [← hl1]; exact lit_I64 hg ht []) (by rw [← hl1]; exact litn_I64 hg ht []) ?_
  cbv
  obtain ⟨hc1, h⟩ := of_gd h
  refine AStep.mk (app_ok_I64 hg ht (dlen_I64 hg ht _) (up_I64 hg ht _) hc1) ?_
  cbv
  obtain ⟨l2, hl2, h⟩ := of_lP h
  try dsimp only at h
  refine ANew.mk (d_I64 l2) (dlen (d_I64 l2)) (by rw [← hl2]; exact app_I64 hg ht (dlen_I64 hg ht _) (up_I64 hg ht _)) (by rw [← hl2]; exact appl_I64 hg ht (dlen_I64 hg ht _) (up_I64 hg ht _)) ?_
  cbv
  obtain rfl := Option.some.inj h
  exact ARet.mk ⟨rfl, (dlen_I64 hg ht _)⟩ hX.symm
end Go.Vs
namespace Go.Vs
set_option maxRecDepth 100000
def ir44 : J :=
  .seq (.reg none [⟨(some 10), none, .alloc [.n 2, .n 3, .n 2, .n 1, .r (.v (.int .i64 0))]⟩,
     ⟨(some 11), none, .mv (.k (V.b false))⟩] [0, 1, 2, 3, 4, 10])
  (.seq (.seq (.reg none [⟨(some 15), none, .mv (.t 0)⟩,
      ⟨(some 16), none, .call 85 true [(.t 15), (.k (V.i 2)), (.k (V.i 24))]⟩,
      ⟨(some 17), none, .not (.t 16)⟩] [0, 1, 2, 3, 4, 10, 17])
   (.cond (.t 17)
    (.seq (.reg none [⟨(some 18), none, .bld [.n 2, .n 3, .n 2, .n 1, .r (.v (.int .i64 0))] []⟩,
        ⟨none, none, .st 5 (.t 10) (.t 18)⟩,
        ⟨(some 11), none, .mv (.k (V.b false))⟩] [10, 11])
     (.ret))
    (.skip)))
  (.seq (.reg (some [[], [0], [], [2], [0, 1, 2, 3], [], [0, 1, 2, 3, 4, 5]]) [⟨(some 19), none, .mv (.t 0)⟩,
     ⟨(some 20), none, .mk 2 16 [.r (.v (.int .i64 0)), .r (.v (.int .i64 0))] (.t 19)⟩,
     ⟨(some 21), none, .mv (.t 4)⟩,
     ⟨(some 22), none, .call 96 true [(.t 21)]⟩,
     ⟨(some 23), none, .bld [.n 2, .n 3, .n 2, .n 1, .r (.v (.int .i64 0))] [(0, 1, (.t 20)), (3, 1, (.t 22))]⟩,
     ⟨(some 12), none, .alloc [.n 2, .n 3, .n 2, .n 1, .r (.v (.int .i64 0))]⟩,
     ⟨none, none, .st 5 (.t 12) (.t 23)⟩] [1, 2, 3, 10, 12])
  (.seq (.seq (.reg none [⟨(some 13), none, .mv (.k (V.i 0))⟩] [1, 2, 3, 10, 12, 13])
   (.bl 0 (.seq (.seq (.reg none [⟨(some 24), none, .mv (.t 13)⟩,
        ⟨(some 25), none, .mv (.t 1)⟩,
        ⟨(some 26), none, .len false (.t 25)⟩,
        ⟨(some 27), none, .bin .lss .i (.t 24) (.t 26)⟩] [1, 2, 3, 10, 12, 13, 27])
     (.cond (.t 27)
      (.skip)
      (.exit 0)))
    (.seq (.block 1 (.reg (some [[], [0], [], [], [2, 3], [2, 3, 4], [], [2, 3, 4, 5, 6], [2, 3, 4, 5, 6, 7], [0, 1, 2, 3, 4, 5, 6, 7, 8], [0, 1, 2, 3, 4, 5, 6, 7, 8, 9], [0, 1, 2, 3, 4, 5, 6, 7, 8, 9, 10]]) [⟨(some 30), none, .fa 1 (.t 12)⟩,
        ⟨(some 31), none, .ld false 1 (.t 30)⟩,
        ⟨(some 32), none, .mv (.t 1)⟩,
        ⟨(some 33), none, .mv (.t 13)⟩,
        ⟨(some 34), none, .ia 1 (.t 32) (.t 33)⟩,
        ⟨(some 35), none, .ld false 1 (.t 34)⟩,
        ⟨(some 36), none, .mv (.t 2)⟩,
        ⟨(some 37), none, .bld [.r (.v (.int .i64 0)), .r (.v (.int .i64 0)), .n 2] [(0, 1, (.t 35)), (1, 1, (.t 36))]⟩,
        ⟨(some 38), none, .bsl 3 [(.t 37)]⟩,
        ⟨(some 39), none, .app 3 40 true (.t 31) (.t 38)⟩,
        ⟨(some 40), none, .fa 1 (.t 12)⟩,
        ⟨none, none, .st 1 (.t 40) (.t 39)⟩] [1, 2, 3, 10, 12, 13]))
    (.reg none [⟨(some 28), none, .mv (.t 13)⟩,
      ⟨(some 29), none, .bin .add .i (.t 28) (.k (V.i 1))⟩,
      ⟨(some 13), none, .mv (.t 29)⟩] [1, 2, 3, 10, 12, 13])))))
  (.seq (.seq (.reg none [⟨(some 14), none, .mv (.k (V.i 0))⟩] [3, 10, 12, 14])
   (.bl 2 (.seq (.seq (.reg none [⟨(some 41), none, .mv (.t 14)⟩,
        ⟨(some 42), none, .mv (.t 3)⟩,
        ⟨(some 43), none, .len false (.t 42)⟩,
        ⟨(some 44), none, .bin .lss .i (.t 41) (.t 43)⟩] [3, 10, 12, 14, 44])
     (.cond (.t 44)
      (.skip)
      (.exit 2)))
    (.seq (.block 3 (.reg (some [[], [0], [], [], [2, 3], [2, 3, 4], [2, 3, 4, 5], [2, 3, 4, 5, 6], [0, 1, 2, 3, 4, 5, 6, 7], [0, 1, 2, 3, 4, 5, 6, 7, 8], [0, 1, 2, 3, 4, 5, 6, 7, 8, 9]]) [⟨(some 47), none, .fa 2 (.t 12)⟩,
        ⟨(some 48), none, .ld false 1 (.t 47)⟩,
        ⟨(some 49), none, .mv (.t 3)⟩,
        ⟨(some 50), none, .mv (.t 14)⟩,
        ⟨(some 51), none, .ia 1 (.t 49) (.t 50)⟩,
        ⟨(some 52), none, .ld false 1 (.t 51)⟩,
        ⟨(some 53), none, .bld [.r (.v (.int .i64 0)), .n 2] [(0, 1, (.t 52))]⟩,
        ⟨(some 54), none, .bsl 2 [(.t 53)]⟩,
        ⟨(some 55), none, .app 2 32 true (.t 48) (.t 54)⟩,
        ⟨(some 56), none, .fa 2 (.t 12)⟩,
        ⟨none, none, .st 1 (.t 56) (.t 55)⟩] [3, 10, 12, 14]))
    (.reg none [⟨(some 45), none, .mv (.t 14)⟩,
      ⟨(some 46), none, .bin .add .i (.t 45) (.k (V.i 1))⟩,
      ⟨(some 14), none, .mv (.t 46)⟩] [3, 10, 12, 14])))))
  (.seq (.seq (.reg none [⟨(some 57), none, .ld true 5 (.t 12)⟩,
      ⟨(some 58), none, .call 31 true [(.t 57)]⟩,
      ⟨(some 59), none, .not (.t 58)⟩] [10, 12, 59])
   (.cond (.t 59)
    (.seq (.reg none [⟨(some 60), none, .bld [.n 2, .n 3, .n 2, .n 1, .r (.v (.int .i64 0))] []⟩,
        ⟨none, none, .st 5 (.t 10) (.t 60)⟩,
        ⟨(some 11), none, .mv (.k (V.b false))⟩] [10, 11])
     (.ret))
    (.skip)))
  (.seq (.reg none [⟨(some 61), none, .ld true 5 (.t 12)⟩,
     ⟨none, none, .st 5 (.t 10) (.t 61)⟩,
     ⟨(some 11), none, .mv (.k (V.b true))⟩] [10, 11])
  (.ret)))))))
def rv44 : List RV := [.c 10 true 5, .t 11]
open Go.Proofs Go.IntWalk
set_option linter.unusedVariables false
set_option maxRecDepth 100000
set_option maxHeartbeats 4000000
def S_NewCentre_l2 (g : G) (t : TE) : List Int → List Inlet → Option (List Inlet)
  | [], w2 =>
    some w2
  | z2 :: ls2, w2 =>
    lP ([(Inlet.mk z2 [])]) fun (l4 : List Inlet) =>
    gd (((w2.length + l4.length) * 32 ≤ 70368744177664)) <|
    lP (w2 ++ l4) fun (l5 : List Inlet) =>
    S_NewCentre_l2 g t ls2 l5
def S_NewCentre_l1 (g : G) (t : TE) (a2 : Int) : List Int → List Chute → Option (List Chute)
  | [], w1 =>
    some w1
  | z1 :: ls1, w1 =>
    lP ([(Chute.mk z1 a2 [])]) fun (l2 : List Chute) =>
    gd (((w1.length + l2.length) * 40 ≤ 70368744177664)) <|
    lP (w1 ++ l2) fun (l3 : List Chute) =>
    S_NewCentre_l1 g t a2 ls1 l3
def S_NewCentre (g : G) (t : TE) (a0 : Int) (a1 : List Int) (a2 : Int) (a3 : List Int) (a4 : List Int) : Option (Centre × Bool) :=
  lP (S_l1In g t a0 2 24) fun x1 =>
  br x1
  (
   gd (((0 : Int) ≤ a0 ∧ 16 * a0 ≤ 70368744177664 ∧ a0 ≤ 4611686018427387904)) <|
   lP (List.replicate (g.nat a0) (Item.mk 0 0)) fun (l1 : List Item) =>
   cl (S_l1Ints g t a4) fun x2 =>
   cl (S_NewCentre_l1 g t a2 a1 []) fun y1 =>
   cl (S_NewCentre_l2 g t a3 []) fun y2 =>
   cl (S_IsCentre g t (Centre.mk l1 y1 y2 x2 0)) fun x3 =>
   br x3
   (
    some (((Centre.mk l1 y1 y2 x2 0), true)))
   (
    some (((Centre.mk [] [] [] [] 0), false))))
  (
   some (((Centre.mk [] [] [] [] 0), false)))
theorem fit44 : codeFit Try.prog Try.f44.ntmps (Try.f44.body.getD .skip) ir44 = true := by kernel_rfl
theorem c_S_NewCentre {g : G} {t : TE} {a0 : Int} {a1 : List Int} {a2 : Int} {a3 : List Int} {a4 : List Int} {r : Centre × Bool} (hg : g = G.real) (ht : t = TE.real) (h : S_NewCentre g t a0 a1 a2 a3 a4 = some r) : Fn Try.prog 44 [.c (.v (.int .i64 a0)), .c (.s 1 (t.r_I64 a1)), .c (.v (.int .i64 a2)), .c (.s 1 (t.r_I64 a3)), .c (.s 1 (t.r_I64 a4))] (.u [.g (Centre.ds t r.1), .c (.r (.v (.bool r.2)))]) := by
  obtain ⟨X, hX⟩ := hide (.u [.g (Centre.ds t r.1), .c (.r (.v (.bool r.2)))] : X)
  rw [← hX]
  refine fn_of (rvs := rv44) (j := ir44) Try.func44 rfl fit44 (Nat.le_of_ble_eq_true rfl) (by kernel_rfl) prog_mixed ?_
  intro g2 F hg2 hF
  obtain rfl : g2 = g := hg2.unique.trans hg.symm
  clear hg2
  obtain ⟨wrap, lt, le, eq, quo, rem, band, bor, bxor, shl, shr, nat, int, add, sub, mul, cat, seq, slt, sub3, byte, llen, nadd, nsub, dlen, dapp, dset, drep, rd, rda, up, rsub, dsub, all, sle, slen, hasI, putI, hasS, putS, imin, imax, fzc⟩ := g2
  obtain ⟨r_Item, d_Item, r_Chute, d_Chute, r_Inlet, d_Inlet, r_I64, d_I64, r_U8, d_U8, d_InletF⟩ := t
  have hnil_Item : d_Item [] = [] := d_nil_Item ht
  have hnil_Chute : d_Chute [] = [] := d_nil_Chute ht
  have hnil_Inlet : d_Inlet [] = [] := d_nil_Inlet ht
  have hnil_I64 : d_I64 [] = [] := d_nil_I64 ht
  have hnil_U8 : d_U8 [] = [] := d_nil_U8 ht
  unfold S_NewCentre at h
  try dsimp only at h
  cbv
  obtain ⟨x1, hx1, h⟩ := of_lP h
  try dsimp only at h
  refine ACall.mk _ _ rfl (hF _ _ _ (c_S_l1In hg ht hx1)) (.inl rfl) (Nat.le_of_ble_eq_true rfl) ?_
  cbv
  cases hb1 : x1 with
  | true =>
    rw [br_true hb1] at h
    cbv
    obtain ⟨hc3, h⟩ := of_gd h
    refine AStep.mk (mk_ok hc3) ?_
    cbv
    obtain ⟨l1, hl1, h⟩ := of_lP h
    try dsimp only at h
    refine ANew.mk (d_Item l1) (dlen (d_Item l1)) (by rw [← hl1]; exact drep_Item hg ht _ (Item.mk 0 0)) (by rw [← hl1]; exact drepn_Item hg ht _ (Item.mk 0 0)) ?_
    cbv
    obtain ⟨x2, hx2, h⟩ := of_cl h
    try dsimp only at h
    refine ACall.mk _ _ rfl (hF _ _ _ (c_S_l1Ints hg ht hx2)) (.inl rfl) (Nat.le_of_ble_eq_true rfl) ?_
    cbv
    obtain ⟨o1, ho1, h⟩ := of_cl h
    try dsimp only at h
    try rw [hg] at ho1
    try rw [ht] at ho1
    refine ABL.mk { p : Nat × Int × List Chute // p.1 ≤ a1.length ∧ p.2.1 = ((p.1 : Nat) : Int) ∧ S_NewCentre_l1 G.real TE.real a2 (List.drop p.1 a1) p.2.2 = some o1 } (fun ⟨⟨k1, v1, w1⟩, _⟩ => ({ sl := [(1, .c (.r (.s 1 (r_I64 a1)))), (2, .c (.r (.v (.int .i64 a2)))), (3, .c (.r (.s 1 (r_I64 a3)))), (10, .c (.p 0 5 0 0)), (12, .c (.p 1 5 0 0)), (13, .c (.r (.v (.int .i64 v1))))], tab := [(0, some (.foc 5 [] [.n 2, .n 3, .n 2, .n 1, .r (.v (.int .i64 0))] [])), (1, some (.foc 5 [] [.f 2 2 0 (dlen (d_Item l1)), .f 3 3 0 (dlen (d_Chute w1)), .n 2, .f 4 1 0 (dlen (d_I64 x2)), .r (.v (.int .i64 0))] [])), (2, some (.arr 2 (d_Item l1))), (3, some (.arr 3 (d_Chute w1))), (4, some (.arr 1 (d_I64 x2)))] } : St)) 5 (fun p => a1.length - p.1.1) ⟨(0, 0, []), Nat.zero_le _, rfl, ho1⟩ (List Chute) (fun y1 => ({ sl := [(3, .c (.r (.s 1 (r_I64 a3)))), (10, .c (.p 0 5 0 0)), (12, .c (.p 1 5 0 0))], tab := [(0, some (.foc 5 [] [.n 2, .n 3, .n 2, .n 1, .r (.v (.int .i64 0))] [])), (1, some (.foc 5 [] [.f 2 2 0 (dlen (d_Item l1)), .f 3 3 0 (dlen (d_Chute y1)), .n 2, .f 4 1 0 (dlen (d_I64 x2)), .r (.v (.int .i64 0))] [])), (2, some (.arr 2 (d_Item l1))), (3, some (.arr 3 (d_Chute y1))), (4, some (.arr 1 (d_I64 x2)))] } : St)) 5 (fun y => o1 = y) ?_ ?_ ?_
    · refine Wk.of [(0, some 0), (1, some 160), (2, some 96), (3, none), (4, some 128)] rfl rfl ?_ ?_
      · cbv
        all_goals try rw [show dlen (d_Chute []) = 0 from dlen_nil_Chute hg ht]
        all_goals try rw [hnil_Chute]
        all_goals exact ⟨⟨_, rfl, rfl⟩, ⟨_, rfl, rfl⟩, ⟨_, rfl, rfl⟩, ⟨_, rfl, rfl⟩, ⟨_, rfl, rfl⟩, ⟨_, rfl, rfl⟩, trivial⟩
      · cbv
        all_goals try rw [show dlen (d_Chute []) = 0 from dlen_nil_Chute hg ht]
        all_goals try rw [hnil_Chute]
        all_goals exact ⟨⟨_, rfl, _, rfl, rfl, rfl, rfl, rfl, rfl, trivial⟩, ⟨_, rfl, _, rfl, rfl, ⟨⟨_, rfl⟩, rfl, rfl⟩, rfl, rfl, rfl, trivial⟩, ⟨_, rfl, rfl⟩, ⟨_, rfl⟩, ⟨_, rfl, rfl⟩, trivial⟩
    · rintro ⟨⟨k1, v1, w1⟩, hk1, hi1, h_1⟩ hq1
      have hm1 := (hq1.1 1 _ _ rfl)
      try dsimp only at hk1 hi1 h_1
      clear hq1
      cbv
      by_cases hc1_ : k1 < a1.length
      · have hb2 : lt v1 (llen (r_I64 a1)) = true := ltL_true_I64 hg ht hi1 hc1_
        have hs1 := stepL_I64 hg ht hi1 hc1_ hm1
        obtain ⟨z1, hz1⟩ := some_of_lt hc1_
        rw [drop_of_some hz1] at h_1
        rw [S_NewCentre_l1] at h_1
        try rw [← hg] at h_1
        try rw [← ht] at h_1
        try dsimp only at h_1
        rw [hb2]
        cbv
        refine AStep.mk (nn_L hi1) ?_
        cbv
        refine AGet.mk _ (r_getL_I64 hg ht hi1 hz1) ?_
        cbv
        obtain ⟨l2, hl2, h_1⟩ := of_lP h_1
        try dsimp only at h_1
        refine ANew.mk (d_Chute l2) (dlen (d_Chute l2)) (by rw [← hl2]; have e := lit_Chute hg ht [(Chute.mk z1 a2 [])]; dsimp only [List.map, Chute.ds] at e; (try simp only [hnil_Item, hnil_Chute, hnil_Inlet, hnil_I64, hnil_U8] at e); exact e) (by rw [← hl2]; exact litn_Chute hg ht [(Chute.mk z1 a2 [])]) ?_
        cbv
        obtain ⟨hc1, h_1⟩ := of_gd h_1
        refine AStep.mk ⟨⟨rfl, (dlen_Chute hg ht _)⟩, (app_ok_Chute hg ht (dlen_Chute hg ht _) rfl hc1)⟩ ?_
        cbv
        obtain ⟨l3, hl3, h_1⟩ := of_lP h_1
        try dsimp only at h_1
        refine ANew.mk (d_Chute l3) (dlen (d_Chute l3)) (by rw [← hl3]; exact app_Chute hg ht (dlen_Chute hg ht _) rfl) (by rw [← hl3]; exact appl_Chute hg ht (dlen_Chute hg ht _) rfl) ?_
        cbv
        try rw [hg] at h_1
        try rw [ht] at h_1
        refine ⟨⟨(k1 + 1, (wrap .i64 (add v1 1)), l3), hc1_, hs1, h_1⟩, Wk.of [(0, some 0), (1, some 1), (2, some 2), (3, some 213), (4, some 4)] rfl rfl ?_ ?_, meas_L hc1_⟩
        · cbv
          all_goals exact ⟨⟨_, rfl, rfl⟩, ⟨_, rfl, rfl⟩, ⟨_, rfl, rfl⟩, ⟨_, rfl, rfl⟩, ⟨_, rfl, rfl⟩, ⟨_, rfl, rfl⟩, trivial⟩
        · cbv
          all_goals exact ⟨⟨_, rfl, _, rfl, rfl, rfl, rfl, rfl, rfl, trivial⟩, ⟨_, rfl, _, rfl, rfl, rfl, rfl, rfl, rfl, trivial⟩, ⟨_, rfl, rfl⟩, ⟨_, rfl, rfl⟩, ⟨_, rfl, rfl⟩, trivial⟩
      · have hb2 : lt v1 (llen (r_I64 a1)) = false := ltL_false_I64 hg ht hi1 hc1_
        rw [List.drop_of_length_le (Nat.le_of_not_lt hc1_)] at h_1
        rw [S_NewCentre_l1] at h_1
        try rw [← hg] at h_1
        try rw [← ht] at h_1
        try dsimp only at h_1
        rw [hb2]
        cbv
        refine ⟨w1, Wk.of [(0, some 0), (1, some 1), (2, some 2), (3, some 3), (4, some 4)] rfl rfl ?_ ?_, (Option.some.inj h_1).symm⟩
        · cbv
          all_goals exact ⟨⟨_, rfl, rfl⟩, ⟨_, rfl, rfl⟩, ⟨_, rfl, rfl⟩, trivial⟩
        · cbv
          all_goals exact ⟨⟨_, rfl, _, rfl, rfl, rfl, rfl, rfl, rfl, trivial⟩, ⟨_, rfl, _, rfl, rfl, rfl, rfl, rfl, rfl, trivial⟩, ⟨_, rfl, rfl⟩, ⟨_, rfl, rfl⟩, ⟨_, rfl, rfl⟩, trivial⟩
    · rintro y1 hy1
      replace hy1 := hy1.symm
      subst hy1
      try dsimp only [lr, lrL, lrp, lrpL] at h
      cbv
      obtain ⟨o2, ho2, h⟩ := of_cl h
      try dsimp only at h
      try rw [hg] at ho2
      try rw [ht] at ho2
      refine ABL.mk { p : Nat × Int × List Inlet // p.1 ≤ a3.length ∧ p.2.1 = ((p.1 : Nat) : Int) ∧ S_NewCentre_l2 G.real TE.real (List.drop p.1 a3) p.2.2 = some o2 } (fun ⟨⟨k2, v2, w2⟩, _⟩ => ({ sl := [(3, .c (.r (.s 1 (r_I64 a3)))), (10, .c (.p 0 5 0 0)), (12, .c (.p 1 5 0 0)), (14, .c (.r (.v (.int .i64 v2))))], tab := [(0, some (.foc 5 [] [.n 2, .n 3, .n 2, .n 1, .r (.v (.int .i64 0))] [])), (1, some (.foc 5 [] [.f 2 2 0 (dlen (d_Item l1)), .f 3 3 0 (dlen (d_Chute y1)), .f 4 2 0 (dlen (d_Inlet w2)), .f 5 1 0 (dlen (d_I64 x2)), .r (.v (.int .i64 0))] [])), (2, some (.arr 2 (d_Item l1))), (3, some (.arr 3 (d_Chute y1))), (4, some (.arr 2 (d_Inlet w2))), (5, some (.arr 1 (d_I64 x2)))] } : St)) 6 (fun p => a3.length - p.1.1) ⟨(0, 0, []), Nat.zero_le _, rfl, ho2⟩ (List Inlet) (fun y2 => ({ sl := [(10, .c (.p 0 5 0 0)), (12, .c (.p 1 5 0 0))], tab := [(0, some (.foc 5 [] [.n 2, .n 3, .n 2, .n 1, .r (.v (.int .i64 0))] [])), (1, some (.foc 5 [] [.f 2 2 0 (dlen (d_Item l1)), .f 3 3 0 (dlen (d_Chute y1)), .f 4 2 0 (dlen (d_Inlet y2)), .f 5 1 0 (dlen (d_I64 x2)), .r (.v (.int .i64 0))] [])), (2, some (.arr 2 (d_Item l1))), (3, some (.arr 3 (d_Chute y1))), (4, some (.arr 2 (d_Inlet y2))), (5, some (.arr 1 (d_I64 x2)))] } : St)) 6 (fun y => o2 = y) ?_ ?_ ?_
      · refine Wk.of [(0, some 0), (1, some 1), (2, some 2), (3, some 3), (4, none), (5, some 4)] rfl rfl ?_ ?_
        · cbv
          all_goals try rw [show dlen (d_Inlet []) = 0 from dlen_nil_Inlet hg ht]
          all_goals try rw [hnil_Inlet]
          all_goals exact ⟨⟨_, rfl, rfl⟩, ⟨_, rfl, rfl⟩, ⟨_, rfl, rfl⟩, ⟨_, rfl, rfl⟩, trivial⟩
        · cbv
          all_goals try rw [show dlen (d_Inlet []) = 0 from dlen_nil_Inlet hg ht]
          all_goals try rw [hnil_Inlet]
          all_goals exact ⟨⟨_, rfl, _, rfl, rfl, rfl, rfl, rfl, rfl, trivial⟩, ⟨_, rfl, _, rfl, rfl, rfl, ⟨⟨_, rfl⟩, rfl, rfl⟩, rfl, rfl, trivial⟩, ⟨_, rfl, rfl⟩, ⟨_, rfl, rfl⟩, ⟨_, rfl⟩, ⟨_, rfl, rfl⟩, trivial⟩
      · rintro ⟨⟨k2, v2, w2⟩, hk2, hi2, h_2⟩ hq2
        have hm2 := (hq2.1 3 _ _ rfl)
        try dsimp only at hk2 hi2 h_2
        clear hq2
        cbv
        by_cases hc2_ : k2 < a3.length
        · have hb3 : lt v2 (llen (r_I64 a3)) = true := ltL_true_I64 hg ht hi2 hc2_
          have hs2 := stepL_I64 hg ht hi2 hc2_ hm2
          obtain ⟨z2, hz2⟩ := some_of_lt hc2_
          rw [drop_of_some hz2] at h_2
          rw [S_NewCentre_l2] at h_2
          try rw [← hg] at h_2
          try rw [← ht] at h_2
          try dsimp only at h_2
          rw [hb3]
          cbv
          refine AStep.mk (nn_L hi2) ?_
          cbv
          refine AGet.mk _ (r_getL_I64 hg ht hi2 hz2) ?_
          cbv
          obtain ⟨l4, hl4, h_2⟩ := of_lP h_2
          try dsimp only at h_2
          refine ANew.mk (d_Inlet l4) (dlen (d_Inlet l4)) (by rw [← hl4]; have e := lit_Inlet hg ht [(Inlet.mk z2 [])]; dsimp only [List.map, Inlet.ds] at e; (try simp only [hnil_Item, hnil_Chute, hnil_Inlet, hnil_I64, hnil_U8] at e); exact e) (by rw [← hl4]; exact litn_Inlet hg ht [(Inlet.mk z2 [])]) ?_
          cbv
          obtain ⟨hc2, h_2⟩ := of_gd h_2
          refine AStep.mk ⟨⟨rfl, (dlen_Inlet hg ht _)⟩, (app_ok_Inlet hg ht (dlen_Inlet hg ht _) rfl hc2)⟩ ?_
          cbv
          obtain ⟨l5, hl5, h_2⟩ := of_lP h_2
          try dsimp only at h_2
          refine ANew.mk (d_Inlet l5) (dlen (d_Inlet l5)) (by rw [← hl5]; exact app_Inlet hg ht (dlen_Inlet hg ht _) rfl) (by rw [← hl5]; exact appl_Inlet hg ht (dlen_Inlet hg ht _) rfl) ?_
          cbv
          try rw [hg] at h_2
          try rw [ht] at h_2
          refine ⟨⟨(k2 + 1, (wrap .i64 (add v2 1)), l5), hc2_, hs2, h_2⟩, Wk.of [(0, some 0), (1, some 1), (2, some 2), (3, some 3), (4, some 198), (5, some 5)] rfl rfl ?_ ?_, meas_L hc2_⟩
          · cbv
            all_goals exact ⟨⟨_, rfl, rfl⟩, ⟨_, rfl, rfl⟩, ⟨_, rfl, rfl⟩, ⟨_, rfl, rfl⟩, trivial⟩
          · cbv
            all_goals exact ⟨⟨_, rfl, _, rfl, rfl, rfl, rfl, rfl, rfl, trivial⟩, ⟨_, rfl, _, rfl, rfl, rfl, rfl, rfl, rfl, trivial⟩, ⟨_, rfl, rfl⟩, ⟨_, rfl, rfl⟩, ⟨_, rfl, rfl⟩, ⟨_, rfl, rfl⟩, trivial⟩
        · have hb3 : lt v2 (llen (r_I64 a3)) = false := ltL_false_I64 hg ht hi2 hc2_
          rw [List.drop_of_length_le (Nat.le_of_not_lt hc2_)] at h_2
          rw [S_NewCentre_l2] at h_2
          try rw [← hg] at h_2
          try rw [← ht] at h_2
          try dsimp only at h_2
          rw [hb3]
          cbv
          refine ⟨w2, Wk.of [(0, some 0), (1, some 1), (2, some 2), (3, some 3), (4, some 4), (5, some 5)] rfl rfl ?_ ?_, (Option.some.inj h_2).symm⟩
          · cbv
            all_goals exact ⟨⟨_, rfl, rfl⟩, ⟨_, rfl, rfl⟩, trivial⟩
          · cbv
            all_goals exact ⟨⟨_, rfl, _, rfl, rfl, rfl, rfl, rfl, rfl, trivial⟩, ⟨_, rfl, _, rfl, rfl, rfl, rfl, rfl, rfl, trivial⟩, ⟨_, rfl, rfl⟩, ⟨_, rfl, rfl⟩, ⟨_, rfl, rfl⟩, ⟨_, rfl, rfl⟩, trivial⟩
      · rintro y2 hy2
        replace hy2 := hy2.symm
        subst hy2
        try dsimp only [lr, lrL, lrp, lrpL] at h
        cbv
        refine AStep.mk ⟨(lend_Item ht (dlen_Item hg ht _)), ⟨(lend_Chute ht (dlen_Chute hg ht _)), ⟨(lend_Inlet ht (dlen_Inlet hg ht _)), (lend_I64 ht (dlen_I64 hg ht _))⟩⟩⟩ ?_
        cbv
        obtain ⟨x3, hx3, h⟩ := of_cl h
        try dsimp only at h
        refine ACall.mk _ _ (by rw [show rd (d_Item l1) 0 (dlen (d_Item l1)) = r_Item l1 from rdw_Item hg ht (dlen_Item hg ht _), show rd (d_Chute y1) 0 (dlen (d_Chute y1)) = r_Chute y1 from rdw_Chute hg ht (dlen_Chute hg ht _), show rd (d_Inlet y2) 0 (dlen (d_Inlet y2)) = r_Inlet y2 from rdw_Inlet hg ht (dlen_Inlet hg ht _), show rd (d_I64 x2) 0 (dlen (d_I64 x2)) = r_I64 x2 from rdw_I64 hg ht (dlen_I64 hg ht _)]; try rfl) (hF _ _ _ (c_S_IsCentre hg ht hx3)) (.inr rfl) (Nat.le_of_ble_eq_true rfl) ?_
        cbv
        cases hb4 : x3 with
        | true =>
          rw [br_true hb4] at h
          cbv
          obtain rfl := Option.some.inj h
          exact ARet.mk ⟨⟨rfl, (dlen_Item hg ht _)⟩, ⟨⟨rfl, (dlen_Chute hg ht _)⟩, ⟨⟨rfl, (dlen_Inlet hg ht _)⟩, ⟨rfl, (dlen_I64 hg ht _)⟩⟩⟩⟩ hX.symm
        | false =>
          rw [br_false hb4] at h
          cbv
          obtain rfl := Option.some.inj h
          exact ARet.mk trivial (by rw [hX]; first | rfl | (simp only [Item.ds, Inlet.ds, Chute.ds, Centre.ds, Cur.ds, CentreF.ds, InletF.ds, hnil_Chute, hnil_I64, hnil_Inlet, hnil_Item]; try rfl))
  | false =>
    rw [br_false hb1] at h
    cbv
    obtain rfl := Option.some.inj h
    exact ARet.mk trivial (by rw [hX]; first | rfl | (simp only [Item.ds, Inlet.ds, Chute.ds, Centre.ds, Cur.ds, CentreF.ds, InletF.ds, hnil_Chute, hnil_I64, hnil_Inlet, hnil_Item]; try rfl))
end Go.Vs
namespace Go.Vs
set_option maxRecDepth 100000
def ir108 : J :=
  .seq (.reg none [⟨(some 2), none, .mv (.k (.c (.n 2)))⟩] [0])
  (.seq (.reg none [⟨(some 3), none, .bsl 2 []⟩,
     ⟨(some 4), none, .mv (.t 0)⟩,
     ⟨(some 5), none, .app 2 16 false (.t 3) (.t 4)⟩,
     ⟨(some 2), none, .mv (.t 5)⟩] [2])
  (.ret))
def rv108 : List RV := [.t 2]
open Go.Proofs Go.IntWalk
set_option linter.unusedVariables false
set_option maxRecDepth 100000
set_option maxHeartbeats 4000000
def S_l7Items (g : G) (t : TE) (a0 : List Item) : Option (List Item) :=
  lP ([]) fun (l1 : List Item) =>
  gd (((l1.length + a0.length) * 16 ≤ 70368744177664)) <|
  lP (l1 ++ a0) fun (l2 : List Item) =>
  some l2
theorem fit108 : codeFit Try.prog Try.f108.ntmps (Try.f108.body.getD .skip) ir108 = true := by kernel_rfl
theorem c_S_l7Items {g : G} {t : TE} {a0 : List Item} {r : List Item} (hg : g = G.real) (ht : t = TE.real) (h : S_l7Items g t a0 = some r) : Fn Try.prog 108 [.c (.s 2 (t.r_Item a0))] (.c (.o 2 (t.d_Item r))) := by
  obtain ⟨X, hX⟩ := hide (.c (.o 2 (t.d_Item r)) : X)
  rw [← hX]
  refine fn_of (rvs := rv108) (j := ir108) Try.func108 rfl fit108 (Nat.le_of_ble_eq_true rfl) (by kernel_rfl) prog_mixed ?_
  intro g2 F hg2 hF
  obtain rfl : g2 = g := hg2.unique.trans hg.symm
  clear hg2
  obtain ⟨wrap, lt, le, eq, quo, rem, band, bor, bxor, shl, shr, nat, int, add, sub, mul, cat, seq, slt, sub3, byte, llen, nadd, nsub, dlen, dapp, dset, drep, rd, rda, up, rsub, dsub, all, sle, slen, hasI, putI, hasS, putS, imin, imax, fzc⟩ := g2
  obtain ⟨r_Item, d_Item, r_Chute, d_Chute, r_Inlet, d_Inlet, r_I64, d_I64, r_U8, d_U8, d_InletF⟩ := t
  unfold S_l7Items at h
  try dsimp only at h
  cbv
  obtain ⟨l1, hl1, h⟩ := of_lP h
  try dsimp only at h
  refine ANew.mk (d_Item l1) (dlen (d_Item l1)) (by rw [← hl1]; exact lit_Item hg ht []) (by rw [← hl1]; exact litn_Item hg ht []) ?_
  cbv
  obtain ⟨hc1, h⟩ := of_gd h
  refine AStep.mk (app_ok_Item hg ht (dlen_Item hg ht _) (up_Item hg ht _) hc1) ?_
  cbv
  obtain ⟨l2, hl2, h⟩ := of_lP h
  try dsimp only at h
  refine ANew.mk (d_Item l2) (dlen (d_Item l2)) (by rw [← hl2]; exact app_Item hg ht (dlen_Item hg ht _) (up_Item hg ht _)) (by rw [← hl2]; exact appl_Item hg ht (dlen_Item hg ht _) (up_Item hg ht _)) ?_
  cbv
  obtain rfl := Option.some.inj h
  exact ARet.mk ⟨rfl, (dlen_Item hg ht _)⟩ hX.symm
end Go.Vs
namespace Go.Vs
set_option maxRecDepth 100000
def ir106 : J :=
  .seq (.reg none [⟨(some 1), none, .box (.t 0)⟩,
     ⟨(some 2), none, .alloc [.n 2, .n 3, .n 2, .n 1, .r (.v (.int .i64 0))]⟩] [1, 2])
  (.seq (.reg (some [[], [0], [0, 1], [], [3], [0, 1, 2, 3, 4], [], [6], [0, 1, 2, 3, 4, 5, 6, 7], [], [0, 1, 2, 3, 4, 5, 6, 7, 8, 9]]) [⟨(some 6), none, .fa 0 (.t 1)⟩,
     ⟨(some 7), none, .ld false 1 (.t 6)⟩,
     ⟨(some 8), none, .call 108 true [(.t 7)]⟩,
     ⟨(some 9), none, .fa 3 (.t 1)⟩,
     ⟨(some 10), none, .ld false 1 (.t 9)⟩,
     ⟨(some 11), none, .call 96 true [(.t 10)]⟩,
     ⟨(some 12), none, .fa 4 (.t 1)⟩,
     ⟨(some 13), none, .ld false 1 (.t 12)⟩,
     ⟨(some 14), none, .bld [.n 2, .n 3, .n 2, .n 1, .r (.v (.int .i64 0))] [(0, 1, (.t 8)), (3, 1, (.t 11)), (4, 1, (.t 13))]⟩,
     ⟨(some 3), none, .alloc [.n 2, .n 3, .n 2, .n 1, .r (.v (.int .i64 0))]⟩,
     ⟨none, none, .st 5 (.t 3) (.t 14)⟩] [1, 2, 3])
  (.seq (.seq (.reg none [⟨(some 4), none, .mv (.k (V.i 0))⟩] [1, 2, 3, 4])
   (.bl 0 (.seq (.seq (.reg none [⟨(some 15), none, .mv (.t 4)⟩,
        ⟨(some 16), none, .fa 1 (.t 1)⟩,
        ⟨(some 17), none, .ld false 1 (.t 16)⟩,
        ⟨(some 18), none, .len false (.t 17)⟩,
        ⟨(some 19), none, .bin .lss .i (.t 15) (.t 18)⟩] [1, 2, 3, 4, 19])
     (.cond (.t 19)
      (.skip)
      (.exit 0)))
    (.seq (.block 1 (.reg (some [[], [0], [], [2], [], [2, 3, 4], [2, 3, 4, 5], [2, 3, 4, 5, 6], [], [8], [], [8, 9, 10], [8, 9, 10, 11], [8, 9, 10, 11, 12], [], [14], [], [14, 15, 16], [14, 15, 16, 17], [14, 15, 16, 17, 18], [14, 15, 16, 17, 18, 19], [2, 3, 4, 5, 6, 7, 8, 9, 10, 11, 12, 13, 14, 15, 16, 17, 18, 19, 20], [2, 3, 4, 5, 6, 7, 8, 9, 10, 11, 12, 13, 14, 15, 16, 17, 18, 19, 20, 21], [0, 1, 2, 3, 4, 5, 6, 7, 8, 9, 10, 11, 12, 13, 14, 15, 16, 17, 18, 19, 20, 21, 22], [0, 1, 2, 3, 4, 5, 6, 7, 8, 9, 10, 11, 12, 13, 14, 15, 16, 17, 18, 19, 20, 21, 22, 23], [0, 1, 2, 3, 4, 5, 6, 7, 8, 9, 10, 11, 12, 13, 14, 15, 16, 17, 18, 19, 20, 21, 22, 23, 24]]) [⟨(some 22), none, .fa 1 (.t 3)⟩,
        ⟨(some 23), none, .ld false 1 (.t 22)⟩,
        ⟨(some 24), none, .fa 1 (.t 1)⟩,
        ⟨(some 25), none, .ld false 1 (.t 24)⟩,
        ⟨(some 26), none, .mv (.t 4)⟩,
        ⟨(some 27), none, .ia 3 (.t 25) (.t 26)⟩,
        ⟨(some 28), none, .fa 0 (.t 27)⟩,
        ⟨(some 29), none, .ld false 1 (.t 28)⟩,
        ⟨(some 30), none, .fa 1 (.t 1)⟩,
        ⟨(some 31), none, .ld false 1 (.t 30)⟩,
        ⟨(some 32), none, .mv (.t 4)⟩,
        ⟨(some 33), none, .ia 3 (.t 31) (.t 32)⟩,
        ⟨(some 34), none, .fa 1 (.t 33)⟩,
        ⟨(some 35), none, .ld false 1 (.t 34)⟩,
        ⟨(some 36), none, .fa 1 (.t 1)⟩,
        ⟨(some 37), none, .ld false 1 (.t 36)⟩,
        ⟨(some 38), none, .mv (.t 4)⟩,
        ⟨(some 39), none, .ia 3 (.t 37) (.t 38)⟩,
        ⟨(some 40), none, .fa 2 (.t 39)⟩,
        ⟨(some 41), none, .ld false 1 (.t 40)⟩,
        ⟨(some 42), none, .call 108 true [(.t 41)]⟩,
        ⟨(some 43), none, .bld [.r (.v (.int .i64 0)), .r (.v (.int .i64 0)), .n 2] [(0, 1, (.t 29)), (1, 1, (.t 35)), (2, 1, (.t 42))]⟩,
        ⟨(some 44), none, .bsl 3 [(.t 43)]⟩,
        ⟨(some 45), none, .app 3 40 true (.t 23) (.t 44)⟩,
        ⟨(some 46), none, .fa 1 (.t 3)⟩,
        ⟨none, none, .st 1 (.t 46) (.t 45)⟩] [1, 2, 3, 4]))
    (.reg none [⟨(some 20), none, .mv (.t 4)⟩,
      ⟨(some 21), none, .bin .add .i (.t 20) (.k (V.i 1))⟩,
      ⟨(some 4), none, .mv (.t 21)⟩] [1, 2, 3, 4])))))
  (.seq (.seq (.reg none [⟨(some 5), none, .mv (.k (V.i 0))⟩] [1, 2, 3, 5])
   (.bl 2 (.seq (.seq (.reg none [⟨(some 47), none, .mv (.t 5)⟩,
        ⟨(some 48), none, .fa 2 (.t 1)⟩,
        ⟨(some 49), none, .ld false 1 (.t 48)⟩,
        ⟨(some 50), none, .len false (.t 49)⟩,
        ⟨(some 51), none, .bin .lss .i (.t 47) (.t 50)⟩] [1, 2, 3, 5, 51])
     (.cond (.t 51)
      (.skip)
      (.exit 2)))
    (.seq (.block 3 (.reg (some [[], [0], [], [2], [], [2, 3, 4], [2, 3, 4, 5], [2, 3, 4, 5, 6], [], [8], [], [8, 9, 10], [8, 9, 10, 11], [8, 9, 10, 11, 12], [8, 9, 10, 11, 12, 13], [2, 3, 4, 5, 6, 7, 8, 9, 10, 11, 12, 13, 14], [2, 3, 4, 5, 6, 7, 8, 9, 10, 11, 12, 13, 14, 15], [0, 1, 2, 3, 4, 5, 6, 7, 8, 9, 10, 11, 12, 13, 14, 15, 16], [0, 1, 2, 3, 4, 5, 6, 7, 8, 9, 10, 11, 12, 13, 14, 15, 16, 17], [0, 1, 2, 3, 4, 5, 6, 7, 8, 9, 10, 11, 12, 13, 14, 15, 16, 17, 18]]) [⟨(some 54), none, .fa 2 (.t 3)⟩,
        ⟨(some 55), none, .ld false 1 (.t 54)⟩,
        ⟨(some 56), none, .fa 2 (.t 1)⟩,
        ⟨(some 57), none, .ld false 1 (.t 56)⟩,
        ⟨(some 58), none, .mv (.t 5)⟩,
        ⟨(some 59), none, .ia 2 (.t 57) (.t 58)⟩,
        ⟨(some 60), none, .fa 0 (.t 59)⟩,
        ⟨(some 61), none, .ld false 1 (.t 60)⟩,
        ⟨(some 62), none, .fa 2 (.t 1)⟩,
        ⟨(some 63), none, .ld false 1 (.t 62)⟩,
        ⟨(some 64), none, .mv (.t 5)⟩,
        ⟨(some 65), none, .ia 2 (.t 63) (.t 64)⟩,
        ⟨(some 66), none, .fa 1 (.t 65)⟩,
        ⟨(some 67), none, .ld false 1 (.t 66)⟩,
        ⟨(some 68), none, .call 108 true [(.t 67)]⟩,
        ⟨(some 69), none, .bld [.r (.v (.int .i64 0)), .n 2] [(0, 1, (.t 61)), (1, 1, (.t 68))]⟩,
        ⟨(some 70), none, .bsl 2 [(.t 69)]⟩,
        ⟨(some 71), none, .app 2 32 true (.t 55) (.t 70)⟩,
        ⟨(some 72), none, .fa 2 (.t 3)⟩,
        ⟨none, none, .st 1 (.t 72) (.t 71)⟩] [1, 2, 3, 5]))
    (.reg none [⟨(some 52), none, .mv (.t 5)⟩,
      ⟨(some 53), none, .bin .add .i (.t 52) (.k (V.i 1))⟩,
      ⟨(some 5), none, .mv (.t 53)⟩] [1, 2, 3, 5])))))
  (.seq (.reg none [⟨(some 73), none, .ld true 5 (.t 3)⟩,
     ⟨none, none, .st 5 (.t 2) (.t 73)⟩] [2])
  (.ret)))))
def rv106 : List RV := [.c 2 true 5]
open Go.Proofs Go.IntWalk
set_option linter.unusedVariables false
set_option maxRecDepth 100000
set_option maxHeartbeats 4000000
def S_l7Copy_l2 (g : G) (t : TE) : List Inlet → List Inlet → Option (List Inlet)
  | [], w2 =>
    some w2
  | z2 :: ls2, w2 =>
    cl (S_l7Items g t z2.Wait) fun x4 =>
    lP ([(Inlet.mk z2.Cell x4)]) fun (l3 : List Inlet) =>
    gd (((w2.length + l3.length) * 32 ≤ 70368744177664)) <|
    lP (w2 ++ l3) fun (l4 : List Inlet) =>
    S_l7Copy_l2 g t ls2 l4
def S_l7Copy_l1 (g : G) (t : TE) : List Chute → List Chute → Option (List Chute)
  | [], w1 =>
    some w1
  | z1 :: ls1, w1 =>
    cl (S_l7Items g t z1.Held) fun x3 =>
    lP ([(Chute.mk z1.Cell z1.Room x3)]) fun (l1 : List Chute) =>
    gd (((w1.length + l1.length) * 40 ≤ 70368744177664)) <|
    lP (w1 ++ l1) fun (l2 : List Chute) =>
    S_l7Copy_l1 g t ls1 l2
def S_l7Copy (g : G) (t : TE) (a0 : Centre) : Option Centre :=
  cl (S_l7Items g t a0.Belt) fun x1 =>
  cl (S_l1Ints g t a0.Plan) fun x2 =>
  cl (S_l7Copy_l1 g t a0.Chutes []) fun y1 =>
  cl (S_l7Copy_l2 g t a0.Inlets []) fun y2 =>
  some (Centre.mk x1 y1 y2 x2 a0.Now)
theorem fit106 : codeFit Try.prog Try.f106.ntmps (Try.f106.body.getD .skip) ir106 = true := by kernel_rfl
theorem c_S_l7Copy {g : G} {t : TE} {a0 : Centre} {r : Centre} (hg : g = G.real) (ht : t = TE.real) (h : S_l7Copy g t a0 = some r) : Fn Try.prog 106 [.g (Centre.rs t a0)] (.g (Centre.ds t r)) := by
  obtain ⟨X, hX⟩ := hide (.g (Centre.ds t r) : X)
  rw [← hX]
  refine fn_of (rvs := rv106) (j := ir106) Try.func106 rfl fit106 (Nat.le_of_ble_eq_true rfl) (by kernel_rfl) prog_mixed ?_
  intro g2 F hg2 hF
  obtain rfl : g2 = g := hg2.unique.trans hg.symm
  clear hg2
  obtain ⟨wrap, lt, le, eq, quo, rem, band, bor, bxor, shl, shr, nat, int, add, sub, mul, cat, seq, slt, sub3, byte, llen, nadd, nsub, dlen, dapp, dset, drep, rd, rda, up, rsub, dsub, all, sle, slen, hasI, putI, hasS, putS, imin, imax, fzc⟩ := g2
  obtain ⟨r_Item, d_Item, r_Chute, d_Chute, r_Inlet, d_Inlet, r_I64, d_I64, r_U8, d_U8, d_InletF⟩ := t
  obtain ⟨a0_Belt, a0_Chutes, a0_Inlets, a0_Plan, a0_Now⟩ := a0
  have hnil_Item : d_Item [] = [] := d_nil_Item ht
  have hnil_Chute : d_Chute [] = [] := d_nil_Chute ht
  have hnil_Inlet : d_Inlet [] = [] := d_nil_Inlet ht
  have hnil_I64 : d_I64 [] = [] := d_nil_I64 ht
  have hnil_U8 : d_U8 [] = [] := d_nil_U8 ht
  unfold S_l7Copy at h
  try dsimp only at h
  cbv
  obtain ⟨x1, hx1, h⟩ := of_cl h
  try dsimp only at h
  refine ACall.mk _ _ rfl (hF _ _ _ (c_S_l7Items hg ht hx1)) (.inl rfl) (Nat.le_of_ble_eq_true rfl) ?_
  cbv
  obtain ⟨x2, hx2, h⟩ := of_cl h
  try dsimp only at h
  refine ACall.mk _ _ rfl (hF _ _ _ (c_S_l1Ints hg ht hx2)) (.inl rfl) (Nat.le_of_ble_eq_true rfl) ?_
  cbv
  obtain ⟨o1, ho1, h⟩ := of_cl h
  try dsimp only at h
  try rw [hg] at ho1
  try rw [ht] at ho1
  refine ABL.mk { p : Nat × Int × List Chute // p.1 ≤ a0_Chutes.length ∧ p.2.1 = ((p.1 : Nat) : Int) ∧ S_l7Copy_l1 G.real TE.real (List.drop p.1 a0_Chutes) p.2.2 = some o1 } (fun ⟨⟨k1, v1, w1⟩, _⟩ => ({ sl := [(1, .c (.p 0 5 0 0)), (2, .c (.p 1 5 0 0)), (3, .c (.p 2 5 0 0)), (4, .c (.r (.v (.int .i64 v1))))], tab := [(0, some (.foc 5 [] [.r (.s 2 (r_Item a0_Belt)), .r (.s 3 (r_Chute a0_Chutes)), .r (.s 2 (r_Inlet a0_Inlets)), .r (.s 1 (r_I64 a0_Plan)), .r (.v (.int .i64 a0_Now))] [])), (1, some (.foc 5 [] [.n 2, .n 3, .n 2, .n 1, .r (.v (.int .i64 0))] [])), (2, some (.foc 5 [] [.f 3 2 0 (dlen (d_Item x1)), .f 4 3 0 (dlen (d_Chute w1)), .n 2, .f 5 1 0 (dlen (d_I64 x2)), .r (.v (.int .i64 a0_Now))] [])), (3, some (.arr 2 (d_Item x1))), (4, some (.arr 3 (d_Chute w1))), (5, some (.arr 1 (d_I64 x2)))] } : St)) 6 (fun p => a0_Chutes.length - p.1.1) ⟨(0, 0, []), Nat.zero_le _, rfl, ho1⟩ (List Chute) (fun y1 => ({ sl := [(1, .c (.p 0 5 0 0)), (2, .c (.p 1 5 0 0)), (3, .c (.p 2 5 0 0))], tab := [(0, some (.foc 5 [] [.r (.s 2 (r_Item a0_Belt)), .r (.s 3 (r_Chute a0_Chutes)), .r (.s 2 (r_Inlet a0_Inlets)), .r (.s 1 (r_I64 a0_Plan)), .r (.v (.int .i64 a0_Now))] [])), (1, some (.foc 5 [] [.n 2, .n 3, .n 2, .n 1, .r (.v (.int .i64 0))] [])), (2, some (.foc 5 [] [.f 3 2 0 (dlen (d_Item x1)), .f 4 3 0 (dlen (d_Chute y1)), .n 2, .f 5 1 0 (dlen (d_I64 x2)), .r (.v (.int .i64 a0_Now))] [])), (3, some (.arr 2 (d_Item x1))), (4, some (.arr 3 (d_Chute y1))), (5, some (.arr 1 (d_I64 x2)))] } : St)) 6 (fun y => o1 = y) ?_ ?_ ?_
  · refine Wk.of [(0, some 0), (1, some 16), (2, some 176), (3, some 64), (4, none), (5, some 112)] rfl rfl ?_ ?_
    · cbv
      all_goals try rw [show dlen (d_Chute []) = 0 from dlen_nil_Chute hg ht]
      all_goals try rw [hnil_Chute]
      all_goals exact ⟨⟨_, rfl, rfl⟩, ⟨_, rfl, rfl⟩, ⟨_, rfl, rfl⟩, ⟨_, rfl, rfl⟩, trivial⟩
    · cbv
      all_goals try rw [show dlen (d_Chute []) = 0 from dlen_nil_Chute hg ht]
      all_goals try rw [hnil_Chute]
      all_goals exact ⟨⟨_, rfl, _, rfl, rfl, rfl, rfl, rfl, rfl, trivial⟩, ⟨_, rfl, _, rfl, rfl, rfl, rfl, rfl, rfl, trivial⟩, ⟨_, rfl, _, rfl, rfl, ⟨⟨_, rfl⟩, rfl, rfl⟩, rfl, rfl, rfl, trivial⟩, ⟨_, rfl, rfl⟩, ⟨_, rfl⟩, ⟨_, rfl, rfl⟩, trivial⟩
  · rintro ⟨⟨k1, v1, w1⟩, hk1, hi1, h_1⟩ hq1
    have hm1 := (hq1.2.2.1 0 _ _ _ _ 1 _ _ rfl rfl)
    try dsimp only at hk1 hi1 h_1
    clear hq1
    cbv
    by_cases hc1_ : k1 < a0_Chutes.length
    · have hb1 : lt v1 (llen (r_Chute a0_Chutes)) = true := ltL_true_Chute hg ht hi1 hc1_
      have hs1 := stepL_Chute hg ht hi1 hc1_ hm1
      obtain ⟨z1, hz1⟩ := some_of_lt hc1_
      rw [drop_of_some hz1] at h_1
      rw [S_l7Copy_l1] at h_1
      obtain ⟨z1_Cell, z1_Room, z1_Held⟩ := z1
      try rw [← hg] at h_1
      try rw [← ht] at h_1
      try dsimp only at h_1
      rw [hb1]
      cbv
      refine AStep.mk (nn_L hi1) ?_
      cbv
      refine AGet.mk _ (r_getL_Chute hg ht hi1 hz1) ?_
      cbv
      refine AStep.mk (nn_L hi1) ?_
      cbv
      refine AGet.mk _ (r_getL_Chute hg ht hi1 hz1) ?_
      cbv
      refine AStep.mk (nn_L hi1) ?_
      cbv
      refine AGet.mk _ (r_getL_Chute hg ht hi1 hz1) ?_
      cbv
      obtain ⟨x3, hx3, h_1⟩ := of_cl h_1
      try dsimp only at h_1
      refine ACall.mk _ _ rfl (hF _ _ _ (c_S_l7Items hg ht hx3)) (.inl rfl) (Nat.le_of_ble_eq_true rfl) ?_
      cbv
      refine AStep.mk ⟨rfl, (dlen_Item hg ht _)⟩ ?_
      cbv
      obtain ⟨l1, hl1, h_1⟩ := of_lP h_1
      try dsimp only at h_1
      refine ANew.mk (d_Chute l1) (dlen (d_Chute l1)) (by rw [← hl1]; have e := lit_Chute hg ht [(Chute.mk z1_Cell z1_Room x3)]; dsimp only [List.map, Chute.ds] at e; (try simp only [hnil_Item, hnil_Chute, hnil_Inlet, hnil_I64, hnil_U8] at e); exact e) (by rw [← hl1]; exact litn_Chute hg ht [(Chute.mk z1_Cell z1_Room x3)]) ?_
      cbv
      obtain ⟨hc1, h_1⟩ := of_gd h_1
      refine AStep.mk ⟨⟨rfl, (dlen_Chute hg ht _)⟩, (app_ok_Chute hg ht (dlen_Chute hg ht _) rfl hc1)⟩ ?_
      cbv
      obtain ⟨l2, hl2, h_1⟩ := of_lP h_1
      try dsimp only at h_1
      refine ANew.mk (d_Chute l2) (dlen (d_Chute l2)) (by rw [← hl2]; exact app_Chute hg ht (dlen_Chute hg ht _) rfl) (by rw [← hl2]; exact appl_Chute hg ht (dlen_Chute hg ht _) rfl) ?_
      cbv
      try rw [hg] at h_1
      try rw [ht] at h_1
      refine ⟨⟨(k1 + 1, (wrap .i64 (add v1 1)), l2), hc1_, hs1, h_1⟩, Wk.of [(0, some 0), (1, some 1), (2, some 2), (3, some 3), (4, some 454), (5, some 5)] rfl rfl ?_ ?_, meas_L hc1_⟩
      · cbv
        all_goals exact ⟨⟨_, rfl, rfl⟩, ⟨_, rfl, rfl⟩, ⟨_, rfl, rfl⟩, ⟨_, rfl, rfl⟩, trivial⟩
      · cbv
        all_goals exact ⟨⟨_, rfl, _, rfl, rfl, rfl, rfl, rfl, rfl, trivial⟩, ⟨_, rfl, _, rfl, rfl, rfl, rfl, rfl, rfl, trivial⟩, ⟨_, rfl, _, rfl, rfl, rfl, rfl, rfl, rfl, trivial⟩, ⟨_, rfl, rfl⟩, ⟨_, rfl, rfl⟩, ⟨_, rfl, rfl⟩, trivial⟩
    · have hb1 : lt v1 (llen (r_Chute a0_Chutes)) = false := ltL_false_Chute hg ht hi1 hc1_
      rw [List.drop_of_length_le (Nat.le_of_not_lt hc1_)] at h_1
      rw [S_l7Copy_l1] at h_1
      try rw [← hg] at h_1
      try rw [← ht] at h_1
      try dsimp only at h_1
      rw [hb1]
      cbv
      refine ⟨w1, Wk.of [(0, some 0), (1, some 1), (2, some 2), (3, some 3), (4, some 4), (5, some 5)] rfl rfl ?_ ?_, (Option.some.inj h_1).symm⟩
      · cbv
        all_goals exact ⟨⟨_, rfl, rfl⟩, ⟨_, rfl, rfl⟩, ⟨_, rfl, rfl⟩, trivial⟩
      · cbv
        all_goals exact ⟨⟨_, rfl, _, rfl, rfl, rfl, rfl, rfl, rfl, trivial⟩, ⟨_, rfl, _, rfl, rfl, rfl, rfl, rfl, rfl, trivial⟩, ⟨_, rfl, _, rfl, rfl, rfl, rfl, rfl, rfl, trivial⟩, ⟨_, rfl, rfl⟩, ⟨_, rfl, rfl⟩, ⟨_, rfl, rfl⟩, trivial⟩
  · rintro y1 hy1
    replace hy1 := hy1.symm
    subst hy1
    try dsimp only [lr, lrL, lrp, lrpL] at h
    cbv
    obtain ⟨o2, ho2, h⟩ := of_cl h
    try dsimp only at h
    try rw [hg] at ho2
    try rw [ht] at ho2
    refine ABL.mk { p : Nat × Int × List Inlet // p.1 ≤ a0_Inlets.length ∧ p.2.1 = ((p.1 : Nat) : Int) ∧ S_l7Copy_l2 G.real TE.real (List.drop p.1 a0_Inlets) p.2.2 = some o2 } (fun ⟨⟨k2, v2, w2⟩, _⟩ => ({ sl := [(1, .c (.p 0 5 0 0)), (2, .c (.p 1 5 0 0)), (3, .c (.p 2 5 0 0)), (5, .c (.r (.v (.int .i64 v2))))], tab := [(0, some (.foc 5 [] [.r (.s 2 (r_Item a0_Belt)), .r (.s 3 (r_Chute a0_Chutes)), .r (.s 2 (r_Inlet a0_Inlets)), .r (.s 1 (r_I64 a0_Plan)), .r (.v (.int .i64 a0_Now))] [])), (1, some (.foc 5 [] [.n 2, .n 3, .n 2, .n 1, .r (.v (.int .i64 0))] [])), (2, some (.foc 5 [] [.f 3 2 0 (dlen (d_Item x1)), .f 4 3 0 (dlen (d_Chute y1)), .f 5 2 0 (dlen (d_Inlet w2)), .f 6 1 0 (dlen (d_I64 x2)), .r (.v (.int .i64 a0_Now))] [])), (3, some (.arr 2 (d_Item x1))), (4, some (.arr 3 (d_Chute y1))), (5, some (.arr 2 (d_Inlet w2))), (6, some (.arr 1 (d_I64 x2)))] } : St)) 7 (fun p => a0_Inlets.length - p.1.1) ⟨(0, 0, []), Nat.zero_le _, rfl, ho2⟩ (List Inlet) (fun y2 => ({ sl := [(2, .c (.p 0 5 0 0)), (3, .c (.p 1 5 0 0))], tab := [(0, some (.foc 5 [] [.n 2, .n 3, .n 2, .n 1, .r (.v (.int .i64 0))] [])), (1, some (.foc 5 [] [.f 2 2 0 (dlen (d_Item x1)), .f 3 3 0 (dlen (d_Chute y1)), .f 4 2 0 (dlen (d_Inlet y2)), .f 5 1 0 (dlen (d_I64 x2)), .r (.v (.int .i64 a0_Now))] [])), (2, some (.arr 2 (d_Item x1))), (3, some (.arr 3 (d_Chute y1))), (4, some (.arr 2 (d_Inlet y2))), (5, some (.arr 1 (d_I64 x2)))] } : St)) 6 (fun y => o2 = y) ?_ ?_ ?_
    · refine Wk.of [(0, some 0), (1, some 1), (2, some 2), (3, some 3), (4, some 4), (5, none), (6, some 5)] rfl rfl ?_ ?_
      · cbv
        all_goals try rw [show dlen (d_Inlet []) = 0 from dlen_nil_Inlet hg ht]
        all_goals try rw [hnil_Inlet]
        all_goals exact ⟨⟨_, rfl, rfl⟩, ⟨_, rfl, rfl⟩, ⟨_, rfl, rfl⟩, ⟨_, rfl, rfl⟩, trivial⟩
      · cbv
        all_goals try rw [show dlen (d_Inlet []) = 0 from dlen_nil_Inlet hg ht]
        all_goals try rw [hnil_Inlet]
        all_goals exact ⟨⟨_, rfl, _, rfl, rfl, rfl, rfl, rfl, rfl, trivial⟩, ⟨_, rfl, _, rfl, rfl, rfl, rfl, rfl, rfl, trivial⟩, ⟨_, rfl, _, rfl, rfl, rfl, ⟨⟨_, rfl⟩, rfl, rfl⟩, rfl, rfl, trivial⟩, ⟨_, rfl, rfl⟩, ⟨_, rfl, rfl⟩, ⟨_, rfl⟩, ⟨_, rfl, rfl⟩, trivial⟩
    · rintro ⟨⟨k2, v2, w2⟩, hk2, hi2, h_2⟩ hq2
      have hm2 := (hq2.2.2.1 0 _ _ _ _ 2 _ _ rfl rfl)
      try dsimp only at hk2 hi2 h_2
      clear hq2
      cbv
      by_cases hc2_ : k2 < a0_Inlets.length
      · have hb2 : lt v2 (llen (r_Inlet a0_Inlets)) = true := ltL_true_Inlet hg ht hi2 hc2_
        have hs2 := stepL_Inlet hg ht hi2 hc2_ hm2
        obtain ⟨z2, hz2⟩ := some_of_lt hc2_
        rw [drop_of_some hz2] at h_2
        rw [S_l7Copy_l2] at h_2
        obtain ⟨z2_Cell, z2_Wait⟩ := z2
        try rw [← hg] at h_2
        try rw [← ht] at h_2
        try dsimp only at h_2
        rw [hb2]
        cbv
        refine AStep.mk (nn_L hi2) ?_
        cbv
        refine AGet.mk _ (r_getL_Inlet hg ht hi2 hz2) ?_
        cbv
        refine AStep.mk (nn_L hi2) ?_
        cbv
        refine AGet.mk _ (r_getL_Inlet hg ht hi2 hz2) ?_
        cbv
        obtain ⟨x4, hx4, h_2⟩ := of_cl h_2
        try dsimp only at h_2
        refine ACall.mk _ _ rfl (hF _ _ _ (c_S_l7Items hg ht hx4)) (.inl rfl) (Nat.le_of_ble_eq_true rfl) ?_
        cbv
        refine AStep.mk ⟨rfl, (dlen_Item hg ht _)⟩ ?_
        cbv
        obtain ⟨l3, hl3, h_2⟩ := of_lP h_2
        try dsimp only at h_2
        refine ANew.mk (d_Inlet l3) (dlen (d_Inlet l3)) (by rw [← hl3]; have e := lit_Inlet hg ht [(Inlet.mk z2_Cell x4)]; dsimp only [List.map, Inlet.ds] at e; (try simp only [hnil_Item, hnil_Chute, hnil_Inlet, hnil_I64, hnil_U8] at e); exact e) (by rw [← hl3]; exact litn_Inlet hg ht [(Inlet.mk z2_Cell x4)]) ?_
        cbv
        obtain ⟨hc2, h_2⟩ := of_gd h_2
        refine AStep.mk ⟨⟨rfl, (dlen_Inlet hg ht _)⟩, (app_ok_Inlet hg ht (dlen_Inlet hg ht _) rfl hc2)⟩ ?_
        cbv
        obtain ⟨l4, hl4, h_2⟩ := of_lP h_2
        try dsimp only at h_2
        refine ANew.mk (d_Inlet l4) (dlen (d_Inlet l4)) (by rw [← hl4]; exact app_Inlet hg ht (dlen_Inlet hg ht _) rfl) (by rw [← hl4]; exact appl_Inlet hg ht (dlen_Inlet hg ht _) rfl) ?_
        cbv
        try rw [hg] at h_2
        try rw [ht] at h_2
        refine ⟨⟨(k2 + 1, (wrap .i64 (add v2 1)), l4), hc2_, hs2, h_2⟩, Wk.of [(0, some 0), (1, some 1), (2, some 2), (3, some 3), (4, some 4), (5, some 359), (6, some 6)] rfl rfl ?_ ?_, meas_L hc2_⟩
        · cbv
          all_goals exact ⟨⟨_, rfl, rfl⟩, ⟨_, rfl, rfl⟩, ⟨_, rfl, rfl⟩, ⟨_, rfl, rfl⟩, trivial⟩
        · cbv
          all_goals exact ⟨⟨_, rfl, _, rfl, rfl, rfl, rfl, rfl, rfl, trivial⟩, ⟨_, rfl, _, rfl, rfl, rfl, rfl, rfl, rfl, trivial⟩, ⟨_, rfl, _, rfl, rfl, rfl, rfl, rfl, rfl, trivial⟩, ⟨_, rfl, rfl⟩, ⟨_, rfl, rfl⟩, ⟨_, rfl, rfl⟩, ⟨_, rfl, rfl⟩, trivial⟩
      · have hb2 : lt v2 (llen (r_Inlet a0_Inlets)) = false := ltL_false_Inlet hg ht hi2 hc2_
        rw [List.drop_of_length_le (Nat.le_of_not_lt hc2_)] at h_2
        rw [S_l7Copy_l2] at h_2
        try rw [← hg] at h_2
        try rw [← ht] at h_2
        try dsimp only at h_2
        rw [hb2]
        cbv
        refine ⟨w2, Wk.of [(0, some 1), (1, some 2), (2, some 3), (3, some 4), (4, some 5), (5, some 6)] rfl rfl ?_ ?_, (Option.some.inj h_2).symm⟩
        · cbv
          all_goals exact ⟨⟨_, rfl, rfl⟩, ⟨_, rfl, rfl⟩, trivial⟩
        · cbv
          all_goals exact ⟨⟨_, rfl, _, rfl, rfl, rfl, rfl, rfl, rfl, trivial⟩, ⟨_, rfl, _, rfl, rfl, rfl, rfl, rfl, rfl, trivial⟩, ⟨_, rfl, rfl⟩, ⟨_, rfl, rfl⟩, ⟨_, rfl, rfl⟩, ⟨_, rfl, rfl⟩, trivial⟩
    · rintro y2 hy2
      replace hy2 := hy2.symm
      subst hy2
      try dsimp only [lr, lrL, lrp, lrpL] at h
      cbv
      obtain rfl := Option.some.inj h
      exact ARet.mk ⟨⟨rfl, (dlen_Item hg ht _)⟩, ⟨⟨rfl, (dlen_Chute hg ht _)⟩, ⟨⟨rfl, (dlen_Inlet hg ht _)⟩, ⟨rfl, (dlen_I64 hg ht _)⟩⟩⟩⟩ hX.symm
end Go.Vs
namespace Go.Vs
set_option maxRecDepth 100000
def ir69 : J :=
  .seq (.reg none [⟨(some 3), none, .box (.t 0)⟩,
     ⟨(some 5), none, .box (.t 2)⟩,
     ⟨(some 6), none, .alloc [.n 2, .n 3, .n 2, .n 1, .r (.v (.int .i64 0))]⟩,
     ⟨(some 7), none, .mv (.k (V.b false))⟩] [1, 3, 5, 6])
  (.seq (.reg none [⟨(some 9), none, .ld true 5 (.t 3)⟩,
     ⟨(some 10), none, .call 106 true [(.t 9)]⟩,
     ⟨(some 8), none, .alloc [.n 2, .n 3, .n 2, .n 1, .r (.v (.int .i64 0))]⟩,
     ⟨none, none, .st 5 (.t 8) (.t 10)⟩] [1, 3, 5, 6, 8])
  (.seq (.seq (.reg none [⟨(some 11), none, .ld true 5 (.t 3)⟩,
      ⟨(some 12), none, .call 31 true [(.t 11)]⟩,
      ⟨(some 13), none, .not (.t 12)⟩,
      ⟨(some 14), none, .mv (.t 13)⟩,
      ⟨(some 15), (some (14, false)), .mv (.t 1)⟩,
      ⟨(some 16), (some (14, false)), .fa 2 (.t 3)⟩,
      ⟨(some 17), (some (14, false)), .ld false 1 (.t 16)⟩,
      ⟨(some 18), (some (14, false)), .len false (.t 17)⟩,
      ⟨(some 19), (some (14, false)), .bin .sub .i (.t 18) (.k (V.i 1))⟩,
      ⟨(some 20), (some (14, false)), .call 85 true [(.t 15), (.k (V.i 0)), (.t 19)]⟩,
      ⟨(some 21), (some (14, false)), .not (.t 20)⟩,
      ⟨(some 22), none, .pick (.t 14) (.k (V.b true)) (.t 21)⟩] [1, 3, 5, 6, 8, 22])
   (.cond (.t 22)
    (.seq (.reg none [⟨(some 23), none, .ld true 5 (.t 8)⟩,
        ⟨none, none, .st 5 (.t 6) (.t 23)⟩,
        ⟨(some 7), none, .mv (.k (V.b false))⟩] [6, 7])
     (.ret))
    (.skip)))
  (.seq (.gh (.ga (.reg (some [[], [0], [], [], [3], [], [3, 4, 5], [3, 4, 5, 6], [3, 4, 5, 6, 7], [], [9], [3, 4, 5, 6, 7, 8, 9, 10], [0, 1, 2, 3, 4, 5, 6, 7, 8, 9, 10, 11], [0, 1, 2, 3, 4, 5, 6, 7, 8, 9, 10, 11, 12], [0, 1, 2, 3, 4, 5, 6, 7, 8, 9, 10, 11, 12, 13]]) [⟨(some 24), none, .fa 2 (.t 8)⟩,
      ⟨(some 25), none, .ld false 1 (.t 24)⟩,
      ⟨(some 26), none, .mv (.t 1)⟩,
      ⟨(some 27), none, .fa 2 (.t 8)⟩,
      ⟨(some 28), none, .ld false 1 (.t 27)⟩,
      ⟨(some 29), none, .mv (.t 1)⟩,
      ⟨(some 30), none, .ia 2 (.t 28) (.t 29)⟩,
      ⟨(some 31), none, .fa 1 (.t 30)⟩,
      ⟨(some 32), none, .ld false 1 (.t 31)⟩,
      ⟨(some 33), none, .ld true 2 (.t 5)⟩,
      ⟨(some 34), none, .bsl 2 [(.t 33)]⟩,
      ⟨(some 35), none, .app 2 16 true (.t 32) (.t 34)⟩,
      ⟨(some 36), none, .ia 2 (.t 25) (.t 26)⟩,
      ⟨(some 37), none, .fa 1 (.t 36)⟩,
      ⟨none, none, .st 1 (.t 37) (.t 35)⟩] [3, 6, 8])))
  (.seq (.seq (.reg none [⟨(some 38), none, .ld true 5 (.t 8)⟩,
      ⟨(some 39), none, .call 31 true [(.t 38)]⟩,
      ⟨(some 40), none, .not (.t 39)⟩] [3, 6, 8, 40])
   (.cond (.t 40)
    (.seq (.reg none [⟨(some 41), none, .ld true 5 (.t 3)⟩,
        ⟨(some 42), none, .call 106 true [(.t 41)]⟩,
        ⟨none, none, .st 5 (.t 6) (.t 42)⟩,
        ⟨(some 7), none, .mv (.k (V.b false))⟩] [6, 7])
     (.ret))
    (.skip)))
  (.seq (.reg none [⟨(some 43), none, .ld true 5 (.t 8)⟩,
     ⟨none, none, .st 5 (.t 6) (.t 43)⟩,
     ⟨(some 7), none, .mv (.k (V.b true))⟩] [6, 7])
  (.ret))))))
def rv69 : List RV := [.c 6 true 5, .t 7]
open Go.Proofs Go.IntWalk
set_option linter.unusedVariables false
set_option maxRecDepth 100000
set_option maxHeartbeats 4000000
def S_FeedCentre (g : G) (t : TE) (a0 : Centre) (a1 : Int) (a2 : Item) : Option (Centre × Bool) :=
  cl (S_l7Copy g t a0) fun x1 =>
  cl (S_IsCentre g t a0) fun x2 =>
  br x2
  (
   lP (S_l1In g t a1 0 (g.wrap .i64 (g.sub (g.llen (t.r_Inlet a0.Inlets)) 1))) fun x3 =>
   br x3
   (
    gt x1.Inlets (g.nat a1) fun x4 =>
    gd (((0 : Int) ≤ a1 ∧ a1 < (((g.dlen (t.d_Inlet x1.Inlets)) : Nat) : Int))) <|
    lP ([a2]) fun (l1 : List Item) =>
    gd (((x4.Wait.length + l1.length) * 16 ≤ 70368744177664)) <|
    lP (x4.Wait ++ l1) fun (l2 : List Item) =>
    gd (((0 : Int) ≤ a1 ∧ a1 < (((g.dlen (t.d_Inlet x1.Inlets)) : Nat) : Int))) <|
    lP (List.set x1.Inlets (g.nat a1) (Inlet.mk x4.Cell l2)) fun (l3 : List Inlet) =>
    cl (S_IsCentre g t (Centre.mk x1.Belt x1.Chutes l3 x1.Plan x1.Now)) fun x5 =>
    br x5
    (
     some (((Centre.mk x1.Belt x1.Chutes l3 x1.Plan x1.Now), true)))
    (
     cl (S_l7Copy g t a0) fun x6 =>
     some ((x6, false))))
   (
    some ((x1, false))))
  (
   some ((x1, false)))
theorem fit69 : codeFit Try.prog Try.f69.ntmps (Try.f69.body.getD .skip) ir69 = true := by kernel_rfl
theorem c_S_FeedCentre {g : G} {t : TE} {a0 : Centre} {a1 : Int} {a2 : Item} {r : Centre × Bool} (hg : g = G.real) (ht : t = TE.real) (h : S_FeedCentre g t a0 a1 a2 = some r) : Fn Try.prog 69 [.g (Centre.rs t a0), .c (.v (.int .i64 a1)), .g (Item.rs t a2)] (.u [.g (Centre.ds t r.1), .c (.r (.v (.bool r.2)))]) := by
  obtain ⟨X, hX⟩ := hide (.u [.g (Centre.ds t r.1), .c (.r (.v (.bool r.2)))] : X)
  rw [← hX]
  refine fn_of (rvs := rv69) (j := ir69) Try.func69 rfl fit69 (Nat.le_of_ble_eq_true rfl) (by kernel_rfl) prog_mixed ?_
  intro g2 F hg2 hF
  obtain rfl : g2 = g := hg2.unique.trans hg.symm
  clear hg2
  obtain ⟨wrap, lt, le, eq, quo, rem, band, bor, bxor, shl, shr, nat, int, add, sub, mul, cat, seq, slt, sub3, byte, llen, nadd, nsub, dlen, dapp, dset, drep, rd, rda, up, rsub, dsub, all, sle, slen, hasI, putI, hasS, putS, imin, imax, fzc⟩ := g2
  obtain ⟨r_Item, d_Item, r_Chute, d_Chute, r_Inlet, d_Inlet, r_I64, d_I64, r_U8, d_U8, d_InletF⟩ := t
  obtain ⟨a0_Belt, a0_Chutes, a0_Inlets, a0_Plan, a0_Now⟩ := a0
  obtain ⟨a2_Id, a2_Dest⟩ := a2
  unfold S_FeedCentre at h
  try dsimp only at h
  cbv
  obtain ⟨x1, hx1, h⟩ := of_cl h
  obtain ⟨x1_Belt, x1_Chutes, x1_Inlets, x1_Plan, x1_Now⟩ := x1
  try dsimp only at h
  refine ACall.mk _ _ rfl (hF _ _ _ (c_S_l7Copy hg ht hx1)) (.inl rfl) (Nat.le_of_ble_eq_true rfl) ?_
  cbv
  obtain ⟨x2, hx2, h⟩ := of_cl h
  try dsimp only at h
  refine ACall.mk _ _ rfl (hF _ _ _ (c_S_IsCentre hg ht hx2)) (.inl rfl) (Nat.le_of_ble_eq_true rfl) ?_
  cbv
  cases hb1 : x2 with
  | true =>
    rw [br_true hb1] at h
    cbv
    try (rw [hb1]; cbv)
    try (rw [hb1]; cbv)
    try (rw [hb1]; cbv)
    try (rw [hb1]; cbv)
    try (rw [hb1]; cbv)
    obtain ⟨x3, hx3, h⟩ := of_lP h
    try dsimp only at h
    refine ACall.mk _ _ rfl (hF _ _ _ (c_S_l1In hg ht hx3)) (.inl rfl) (Nat.le_of_ble_eq_true rfl) ?_
    cbv
    try (rw [hb1]; cbv)
    try (rw [hb1]; cbv)
    cases hb2 : x3 with
    | true =>
      rw [br_true hb2] at h
      cbv
      obtain ⟨x4, hx4, h⟩ := of_gt h
      obtain ⟨x4_Cell, x4_Wait⟩ := x4
      try dsimp only at h
      refine AGh.opn 82 2 (nat a1) (d_Inlet x1_Inlets) _ rfl (d_get_Inlet hg ht hx4) rfl ?_
      cbv
      refine AGh.nil ?_
      cbv
      obtain ⟨hc1, h⟩ := of_gd h
      refine AStep.mk hc1 ?_
      cbv
      refine AStep.mk rfl ?_
      cbv
      obtain ⟨l1, hl1, h⟩ := of_lP h
      try dsimp only at h
      refine ANew.mk (d_Item l1) (dlen (d_Item l1)) (by rw [← hl1]; exact lit_Item hg ht [(Item.mk a2_Id a2_Dest)]) (by rw [← hl1]; exact litn_Item hg ht [(Item.mk a2_Id a2_Dest)]) ?_
      cbv
      obtain ⟨hc3, h⟩ := of_gd h
      refine AStep.mk ⟨⟨rfl, (dlen_Item hg ht _)⟩, (app_ok_Item hg ht (dlen_Item hg ht _) rfl hc3)⟩ ?_
      cbv
      obtain ⟨l2, hl2, h⟩ := of_lP h
      try dsimp only at h
      refine ANew.mk (d_Item l2) (dlen (d_Item l2)) (by rw [← hl2]; exact app_Item hg ht (dlen_Item hg ht _) rfl) (by rw [← hl2]; exact appl_Item hg ht (dlen_Item hg ht _) rfl) ?_
      cbv
      obtain ⟨hc2, h⟩ := of_gd h
      refine AStep.mk hc2 ?_
      cbv
      refine AStep.mk rfl ?_
      cbv
      obtain ⟨l3, hl3, h⟩ := of_lP h
      try dsimp only at h
      refine AGh.cls 82 2 (nat a1) (d_Inlet x1_Inlets) _ _ _ _ (d_Inlet l3) rfl rfl ⟨rfl, (dlen_Item hg ht _)⟩ (by rw [← hl3]; exact dset_Inlet hg ht _ _ (Inlet.mk x4_Cell l2)) ?_
      have hnl3 : (dlen (d_Inlet x1_Inlets)) = (d_Inlet l3).length := (by rw [← hl3, dsetl_Inlet ht]; exact (dlen_Inlet hg ht _))
      cbv
      refine AGh.nil ?_
      cbv
      refine AStep.mk ⟨(lend_Item ht (dlen_Item hg ht _)), ⟨(lend_Chute ht (dlen_Chute hg ht _)), ⟨(lend_Inlet ht hnl3), (lend_I64 ht (dlen_I64 hg ht _))⟩⟩⟩ ?_
      cbv
      obtain ⟨x5, hx5, h⟩ := of_cl h
      try dsimp only at h
      refine ACall.mk _ _ (by rw [show rd (d_Item x1_Belt) 0 (dlen (d_Item x1_Belt)) = r_Item x1_Belt from rdw_Item hg ht (dlen_Item hg ht _), show rd (d_Chute x1_Chutes) 0 (dlen (d_Chute x1_Chutes)) = r_Chute x1_Chutes from rdw_Chute hg ht (dlen_Chute hg ht _), show rd (d_Inlet l3) 0 (dlen (d_Inlet x1_Inlets)) = r_Inlet l3 from rdw_Inlet hg ht hnl3, show rd (d_I64 x1_Plan) 0 (dlen (d_I64 x1_Plan)) = r_I64 x1_Plan from rdw_I64 hg ht (dlen_I64 hg ht _)]; try rfl) (hF _ _ _ (c_S_IsCentre hg ht hx5)) (.inr rfl) (Nat.le_of_ble_eq_true rfl) ?_
      cbv
      cases hb3 : x5 with
      | true =>
        rw [br_true hb3] at h
        cbv
        obtain rfl := Option.some.inj h
        exact ARet.mk ⟨⟨rfl, (dlen_Item hg ht _)⟩, ⟨⟨rfl, (dlen_Chute hg ht _)⟩, ⟨⟨rfl, hnl3⟩, ⟨rfl, (dlen_I64 hg ht _)⟩⟩⟩⟩ hX.symm
      | false =>
        rw [br_false hb3] at h
        cbv
        obtain ⟨x6, hx6, h⟩ := of_cl h
        obtain ⟨x6_Belt, x6_Chutes, x6_Inlets, x6_Plan, x6_Now⟩ := x6
        try dsimp only at h
        refine ACall.mk _ _ rfl (hF _ _ _ (c_S_l7Copy hg ht hx6)) (.inl rfl) (Nat.le_of_ble_eq_true rfl) ?_
        cbv
        obtain rfl := Option.some.inj h
        exact ARet.mk ⟨⟨rfl, (dlen_Item hg ht _)⟩, ⟨⟨rfl, (dlen_Chute hg ht _)⟩, ⟨⟨rfl, (dlen_Inlet hg ht _)⟩, ⟨rfl, (dlen_I64 hg ht _)⟩⟩⟩⟩ hX.symm
    | false =>
      rw [br_false hb2] at h
      cbv
      obtain rfl := Option.some.inj h
      exact ARet.mk ⟨⟨rfl, (dlen_Item hg ht _)⟩, ⟨⟨rfl, (dlen_Chute hg ht _)⟩, ⟨⟨rfl, (dlen_Inlet hg ht _)⟩, ⟨rfl, (dlen_I64 hg ht _)⟩⟩⟩⟩ hX.symm
  | false =>
    rw [br_false hb1] at h
    cbv
    try (rw [hb1]; cbv)
    try (rw [hb1]; cbv)
    try (rw [hb1]; cbv)
    try (rw [hb1]; cbv)
    try (rw [hb1]; cbv)
    try (rw [hb1]; cbv)
    try (rw [hb1]; cbv)
    obtain rfl := Option.some.inj h
    exact ARet.mk ⟨⟨rfl, (dlen_Item hg ht _)⟩, ⟨⟨rfl, (dlen_Chute hg ht _)⟩, ⟨⟨rfl, (dlen_Inlet hg ht _)⟩, ⟨rfl, (dlen_I64 hg ht _)⟩⟩⟩⟩ hX.symm
end Go.Vs
namespace Go.Vs
set_option maxRecDepth 100000
def ir107 : J :=
  .seq (.reg none [⟨(some 7), none, .mv (.t 0)⟩,
     ⟨(some 8), none, .nilc (.t 7)⟩,
     ⟨(some 9), none, .fa 0 (.t 8)⟩,
     ⟨(some 10), none, .ld false 1 (.t 9)⟩,
     ⟨(some 11), none, .len false (.t 10)⟩,
     ⟨(some 2), none, .mv (.t 11)⟩] [0, 2])
  (.seq (.reg (some [[], [], [1], [1, 2], [1, 2, 3], [], [5], [1, 2, 3, 4, 5, 6], [1, 2, 3, 4, 5, 6, 7], [1, 2, 3, 4, 5, 6, 7, 8], [], [10], [10, 11], [10, 11, 12], [], [14], [10, 11, 12, 13, 14, 15], [1, 2, 3, 4, 5, 6, 7, 8, 9, 10, 11, 12, 13, 14, 15, 16], [0, 1, 2, 3, 4, 5, 6, 7, 8, 9, 10, 11, 12, 13, 14, 15, 16, 17], [0, 1, 2, 3, 4, 5, 6, 7, 8, 9, 10, 11, 12, 13, 14, 15, 16, 17, 18], [0, 1, 2, 3, 4, 5, 6, 7, 8, 9, 10, 11, 12, 13, 14, 15, 16, 17, 18, 19]]) [⟨(some 12), none, .mv (.t 0)⟩,
     ⟨(some 13), none, .mv (.t 0)⟩,
     ⟨(some 14), none, .nilc (.t 13)⟩,
     ⟨(some 15), none, .fa 0 (.t 14)⟩,
     ⟨(some 16), none, .ld false 1 (.t 15)⟩,
     ⟨(some 17), none, .mv (.t 2)⟩,
     ⟨(some 18), none, .bin .sub .i (.t 17) (.k (V.i 1))⟩,
     ⟨(some 19), none, .ia 2 (.t 16) (.t 18)⟩,
     ⟨(some 20), none, .ld true 2 (.t 19)⟩,
     ⟨(some 21), none, .bsl 2 [(.t 20)]⟩,
     ⟨(some 22), none, .mv (.t 0)⟩,
     ⟨(some 23), none, .nilc (.t 22)⟩,
     ⟨(some 24), none, .fa 0 (.t 23)⟩,
     ⟨(some 25), none, .ld false 1 (.t 24)⟩,
     ⟨(some 26), none, .mv (.t 2)⟩,
     ⟨(some 27), none, .bin .sub .i (.t 26) (.k (V.i 1))⟩,
     ⟨(some 28), none, .sl 2 (.t 25) none (some (.t 27))⟩,
     ⟨(some 29), none, .app 2 16 false (.t 21) (.t 28)⟩,
     ⟨(some 30), none, .nilc (.t 12)⟩,
     ⟨(some 31), none, .fa 0 (.t 30)⟩,
     ⟨none, none, .st 1 (.t 31) (.t 29)⟩] [0])
  (.seq (.seq (.reg none [⟨(some 3), none, .mv (.k (V.i 0))⟩] [0, 3])
   (.bl 0 (.seq (.seq (.reg none [⟨(some 32), none, .mv (.t 3)⟩,
        ⟨(some 33), none, .mv (.t 0)⟩,
        ⟨(some 34), none, .nilc (.t 33)⟩,
        ⟨(some 35), none, .fa 1 (.t 34)⟩,
        ⟨(some 36), none, .ld false 1 (.t 35)⟩,
        ⟨(some 37), none, .len false (.t 36)⟩,
        ⟨(some 38), none, .bin .lss .i (.t 32) (.t 37)⟩] [0, 3, 38])
     (.cond (.t 38)
      (.skip)
      (.exit 0)))
    (.seq (.block 1 (.seq (.reg (some [[], [0], [0, 1], [0, 1, 2], [], [4], [4, 5], [4, 5, 6], [], [4, 5, 6, 7, 8], [4, 5, 6, 7, 8, 9], [4, 5, 6, 7, 8, 9, 10], [0, 1, 2, 3, 4, 5, 6, 7, 8, 9, 10, 11], [0, 1, 2, 3, 4, 5, 6, 7, 8, 9, 10, 11, 12], [], [0, 1, 2, 3, 4, 5, 6, 7, 8, 9, 10, 11, 12, 13, 14]]) [⟨(some 41), none, .mv (.t 0)⟩,
         ⟨(some 42), none, .nilc (.t 41)⟩,
         ⟨(some 43), none, .fa 0 (.t 42)⟩,
         ⟨(some 44), none, .ld false 1 (.t 43)⟩,
         ⟨(some 45), none, .mv (.t 0)⟩,
         ⟨(some 46), none, .nilc (.t 45)⟩,
         ⟨(some 47), none, .fa 1 (.t 46)⟩,
         ⟨(some 48), none, .ld false 1 (.t 47)⟩,
         ⟨(some 49), none, .mv (.t 3)⟩,
         ⟨(some 50), none, .ia 3 (.t 48) (.t 49)⟩,
         ⟨(some 51), none, .fa 0 (.t 50)⟩,
         ⟨(some 52), none, .ld false 1 (.t 51)⟩,
         ⟨(some 53), none, .ia 2 (.t 44) (.t 52)⟩,
         ⟨(some 54), none, .ld true 2 (.t 53)⟩,
         ⟨(some 4), none, .alloc [.r (.v (.int .i64 0)), .r (.v (.int .i64 0))]⟩,
         ⟨none, none, .st 2 (.t 4) (.t 54)⟩] [0, 3, 4])
      (.seq (.gh (.ga (.reg (some [[], [0], [0, 1], [0, 1, 2], [0, 1, 2, 3], [0, 1, 2, 3, 4], [0, 1, 2, 3, 4, 5], [0, 1, 2, 3, 4, 5, 6], [0, 1, 2, 3], [0, 1, 2, 3, 8], [0, 1, 2, 3, 4, 5, 6, 7, 8, 9], [0, 1, 2, 3, 4, 5, 6, 7, 8, 9, 10], [0, 1, 2, 3], [0, 1, 2, 3, 4, 5, 6, 7, 8, 9, 10, 11, 12], [0, 1, 2, 3, 4, 5, 6, 7, 8, 9, 10, 11, 12, 13], [0, 1, 2, 3, 4, 5, 6, 7, 8, 9, 10, 11, 12, 13, 14], [0, 1, 2, 3, 4, 5, 6, 7, 8, 9, 10, 11, 12, 13, 14, 15], [0, 1, 2, 3, 4, 5, 6, 7, 8, 9, 10, 11, 12, 13, 14, 15, 16], [0, 1, 2, 3, 4, 5, 6, 7, 8, 9, 10, 11, 12, 13, 14, 15, 16, 17], [0, 1, 2, 3, 4, 5, 6, 7, 8, 9, 10, 11, 12, 13, 14, 15, 16, 17, 18], [0, 1, 2, 3, 4, 5, 6, 7, 8, 9, 10, 11, 12, 13, 14, 15], [0, 1, 2, 3, 4, 5, 6, 7, 8, 9, 10, 11, 12, 13, 14, 15, 16, 17, 18, 19, 20], [0, 1, 2, 3, 4, 5, 6, 7, 8, 9, 10, 11, 12, 13, 14, 15, 16, 17, 18, 19, 20, 21], [0, 1, 2, 3, 4, 5, 6, 7, 8, 9, 10, 11, 12, 13, 14, 15, 16, 17, 18, 19, 20, 21, 22], [0, 1, 2, 3, 4, 5, 6, 7, 8, 9, 10, 11, 12, 13, 14, 15, 16, 17, 18, 19, 20, 21, 22, 23], [0, 1, 2, 3, 4, 5, 6, 7, 8, 9, 10, 11, 12, 13, 14, 15], [0, 1, 2, 3, 4, 5, 6, 7, 8, 9, 10, 11, 12, 13, 14, 15, 25], [0, 1, 2, 3, 4, 5, 6, 7, 8, 9, 10, 11, 12, 13, 14, 15, 25, 26], [0, 1, 2, 3, 4, 5, 6, 7, 8, 9, 10, 11, 12, 13, 14, 15, 25, 26, 27], [0, 1, 2, 3, 4, 5, 6, 7, 8, 9, 10, 11, 12, 13, 14, 15], [0, 1, 2, 3, 4, 5, 6, 7, 8, 9, 10, 11, 12, 13, 14, 15, 25, 26, 27, 28, 29], [0, 1, 2, 3, 4, 5, 6, 7, 8, 9, 10, 11, 12, 13, 14, 15, 25, 26, 27, 28, 29, 30], [0, 1, 2, 3, 4, 5, 6, 7, 8, 9, 10, 11, 12, 13, 14, 15, 25, 26, 27, 28, 29, 30, 31], [0, 1, 2, 3, 4, 5, 6, 7, 8, 9, 10, 11, 12, 13, 14, 15, 16, 17, 18, 19, 20, 21, 22, 23, 24, 25, 26, 27, 28, 29, 30, 31, 32], [0, 1, 2, 3, 4, 5, 6, 7, 8, 9, 10, 11, 12, 13, 14, 15, 16, 17, 18, 19, 20, 21, 22, 23, 24, 25, 26, 27, 28, 29, 30, 31, 32, 33]]) [⟨(some 55), none, .fa 0 (.t 4)⟩,
          ⟨(some 56), none, .ld false 1 (.t 55)⟩,
          ⟨(some 57), none, .bin .neq .i (.t 56) (.k (V.i 0))⟩,
          ⟨(some 58), none, .mv (.t 57)⟩,
          ⟨(some 59), (some (58, true)), .mv (.t 0)⟩,
          ⟨(some 60), (some (58, true)), .nilc (.t 59)⟩,
          ⟨(some 61), (some (58, true)), .fa 3 (.t 60)⟩,
          ⟨(some 62), (some (58, true)), .ld false 1 (.t 61)⟩,
          ⟨(some 63), (some (58, true)), .fa 1 (.t 4)⟩,
          ⟨(some 64), (some (58, true)), .ld false 1 (.t 63)⟩,
          ⟨(some 65), (some (58, true)), .ia 1 (.t 62) (.t 64)⟩,
          ⟨(some 66), (some (58, true)), .ld false 1 (.t 65)⟩,
          ⟨(some 67), (some (58, true)), .mv (.t 3)⟩,
          ⟨(some 68), (some (58, true)), .bin .eql .i (.t 66) (.t 67)⟩,
          ⟨(some 69), none, .pick (.t 58) (.t 68) (.k (V.b false))⟩,
          ⟨(some 70), none, .mv (.t 69)⟩,
          ⟨(some 71), (some (70, true)), .mv (.t 0)⟩,
          ⟨(some 72), (some (70, true)), .nilc (.t 71)⟩,
          ⟨(some 73), (some (70, true)), .fa 1 (.t 72)⟩,
          ⟨(some 74), (some (70, true)), .ld false 1 (.t 73)⟩,
          ⟨(some 75), (some (70, true)), .mv (.t 3)⟩,
          ⟨(some 76), (some (70, true)), .ia 3 (.t 74) (.t 75)⟩,
          ⟨(some 77), (some (70, true)), .fa 2 (.t 76)⟩,
          ⟨(some 78), (some (70, true)), .ld false 1 (.t 77)⟩,
          ⟨(some 79), (some (70, true)), .len false (.t 78)⟩,
          ⟨(some 80), (some (70, true)), .mv (.t 0)⟩,
          ⟨(some 81), (some (70, true)), .nilc (.t 80)⟩,
          ⟨(some 82), (some (70, true)), .fa 1 (.t 81)⟩,
          ⟨(some 83), (some (70, true)), .ld false 1 (.t 82)⟩,
          ⟨(some 84), (some (70, true)), .mv (.t 3)⟩,
          ⟨(some 85), (some (70, true)), .ia 3 (.t 83) (.t 84)⟩,
          ⟨(some 86), (some (70, true)), .fa 1 (.t 85)⟩,
          ⟨(some 87), (some (70, true)), .ld false 1 (.t 86)⟩,
          ⟨(some 88), (some (70, true)), .bin .lss .i (.t 79) (.t 87)⟩,
          ⟨(some 89), none, .pick (.t 70) (.t 88) (.k (V.b false))⟩] [0, 3, 4, 89])))
      (.cond (.t 89)
       (.seq (.gh (.ga (.reg (some [[], [0], [0, 1], [0, 1, 2], [], [], [5], [5, 6], [5, 6, 7], [], [5, 6, 7, 8, 9], [5, 6, 7, 8, 9, 10], [5, 6, 7, 8, 9, 10, 11], [], [13], [5, 6, 7, 8, 9, 10, 11, 12, 13, 14], [0, 1, 2, 3, 4, 5, 6, 7, 8, 9, 10, 11, 12, 13, 14, 15], [0, 1, 2, 3, 4, 5, 6, 7, 8, 9, 10, 11, 12, 13, 14, 15, 16], [0, 1, 2, 3, 4, 5, 6, 7, 8, 9, 10, 11, 12, 13, 14, 15, 16, 17]]) [⟨(some 90), none, .mv (.t 0)⟩,
            ⟨(some 91), none, .nilc (.t 90)⟩,
            ⟨(some 92), none, .fa 1 (.t 91)⟩,
            ⟨(some 93), none, .ld false 1 (.t 92)⟩,
            ⟨(some 94), none, .mv (.t 3)⟩,
            ⟨(some 95), none, .mv (.t 0)⟩,
            ⟨(some 96), none, .nilc (.t 95)⟩,
            ⟨(some 97), none, .fa 1 (.t 96)⟩,
            ⟨(some 98), none, .ld false 1 (.t 97)⟩,
            ⟨(some 99), none, .mv (.t 3)⟩,
            ⟨(some 100), none, .ia 3 (.t 98) (.t 99)⟩,
            ⟨(some 101), none, .fa 2 (.t 100)⟩,
            ⟨(some 102), none, .ld false 1 (.t 101)⟩,
            ⟨(some 103), none, .ld true 2 (.t 4)⟩,
            ⟨(some 104), none, .bsl 2 [(.t 103)]⟩,
            ⟨(some 105), none, .app 2 16 true (.t 102) (.t 104)⟩,
            ⟨(some 106), none, .ia 3 (.t 93) (.t 94)⟩,
            ⟨(some 107), none, .fa 2 (.t 106)⟩,
            ⟨none, none, .st 1 (.t 107) (.t 105)⟩] [0, 3])))
        (.reg (some [[], [0], [0, 1], [0, 1, 2], [], [4], [4, 5], [4, 5, 6], [], [4, 5, 6, 7, 8], [4, 5, 6, 7, 8, 9], [4, 5, 6, 7, 8, 9, 10], [], [0, 1, 2, 3, 4, 5, 6, 7, 8, 9, 10, 11, 12], [0, 1, 2, 3, 4, 5, 6, 7, 8, 9, 10, 11, 12, 13]]) [⟨(some 108), none, .mv (.t 0)⟩,
          ⟨(some 109), none, .nilc (.t 108)⟩,
          ⟨(some 110), none, .fa 0 (.t 109)⟩,
          ⟨(some 111), none, .ld false 1 (.t 110)⟩,
          ⟨(some 112), none, .mv (.t 0)⟩,
          ⟨(some 113), none, .nilc (.t 112)⟩,
          ⟨(some 114), none, .fa 1 (.t 113)⟩,
          ⟨(some 115), none, .ld false 1 (.t 114)⟩,
          ⟨(some 116), none, .mv (.t 3)⟩,
          ⟨(some 117), none, .ia 3 (.t 115) (.t 116)⟩,
          ⟨(some 118), none, .fa 0 (.t 117)⟩,
          ⟨(some 119), none, .ld false 1 (.t 118)⟩,
          ⟨(some 120), none, .bld [.r (.v (.int .i64 0)), .r (.v (.int .i64 0))] []⟩,
          ⟨(some 121), none, .ia 2 (.t 111) (.t 119)⟩,
          ⟨none, none, .st 2 (.t 121) (.t 120)⟩] [0, 3]))
       (.skip)))))
    (.reg none [⟨(some 39), none, .mv (.t 3)⟩,
      ⟨(some 40), none, .bin .add .i (.t 39) (.k (V.i 1))⟩,
      ⟨(some 3), none, .mv (.t 40)⟩] [0, 3])))))
  (.seq (.seq (.reg none [⟨(some 5), none, .mv (.k (V.i 0))⟩] [0, 5])
   (.bl 2 (.seq (.seq (.reg none [⟨(some 122), none, .mv (.t 5)⟩,
        ⟨(some 123), none, .mv (.t 0)⟩,
        ⟨(some 124), none, .nilc (.t 123)⟩,
        ⟨(some 125), none, .fa 2 (.t 124)⟩,
        ⟨(some 126), none, .ld false 1 (.t 125)⟩,
        ⟨(some 127), none, .len false (.t 126)⟩,
        ⟨(some 128), none, .bin .lss .i (.t 122) (.t 127)⟩] [0, 5, 128])
     (.cond (.t 128)
      (.skip)
      (.exit 2)))
    (.seq (.block 3 (.seq (.reg none [⟨(some 131), none, .mv (.t 0)⟩,
         ⟨(some 132), none, .nilc (.t 131)⟩,
         ⟨(some 133), none, .fa 2 (.t 132)⟩,
         ⟨(some 134), none, .ld false 1 (.t 133)⟩,
         ⟨(some 135), none, .mv (.t 5)⟩,
         ⟨(some 136), none, .ia 2 (.t 134) (.t 135)⟩,
         ⟨(some 137), none, .fa 1 (.t 136)⟩,
         ⟨(some 138), none, .ld false 1 (.t 137)⟩,
         ⟨(some 6), none, .mv (.t 138)⟩] [0, 5, 6])
      (.seq (.reg (some [[], [0], [0, 1], [0, 1, 2], [0, 1, 2, 3], [0, 1, 2, 3, 4], [0, 1, 2, 3, 4, 5], [0, 1, 2, 3, 4, 5, 6], [0, 1, 2, 3], [0, 1, 2, 3, 8], [0, 1, 2, 3, 8, 9], [0, 1, 2, 3, 8, 9, 10], [0, 1, 2, 3], [0, 1, 2, 3, 8, 9, 10, 11, 12], [0, 1, 2, 3, 8, 9, 10, 11, 12, 13], [0, 1, 2, 3, 8, 9, 10, 11, 12, 13, 14], [0, 1, 2, 3, 4, 5, 6, 7, 8, 9, 10, 11, 12, 13, 14, 15], [0, 1, 2, 3, 4, 5, 6, 7, 8, 9, 10, 11, 12, 13, 14, 15, 16], [0, 1, 2, 3, 4, 5, 6, 7, 8, 9, 10, 11, 12, 13, 14, 15, 16, 17], [0, 1, 2, 3, 4, 5, 6, 7, 8, 9, 10, 11, 12, 13, 14, 15, 16, 17, 18], [0, 1, 2, 3, 4, 5, 6, 7, 8, 9, 10, 11, 12, 13, 14, 15, 16, 17, 18, 19]]) [⟨(some 139), none, .mv (.t 6)⟩,
         ⟨(some 140), none, .len false (.t 139)⟩,
         ⟨(some 141), none, .bin .gtr .i (.t 140) (.k (V.i 0))⟩,
         ⟨(some 142), none, .mv (.t 141)⟩,
         ⟨(some 143), (some (142, true)), .mv (.t 0)⟩,
         ⟨(some 144), (some (142, true)), .nilc (.t 143)⟩,
         ⟨(some 145), (some (142, true)), .fa 0 (.t 144)⟩,
         ⟨(some 146), (some (142, true)), .ld false 1 (.t 145)⟩,
         ⟨(some 147), (some (142, true)), .mv (.t 0)⟩,
         ⟨(some 148), (some (142, true)), .nilc (.t 147)⟩,
         ⟨(some 149), (some (142, true)), .fa 2 (.t 148)⟩,
         ⟨(some 150), (some (142, true)), .ld false 1 (.t 149)⟩,
         ⟨(some 151), (some (142, true)), .mv (.t 5)⟩,
         ⟨(some 152), (some (142, true)), .ia 2 (.t 150) (.t 151)⟩,
         ⟨(some 153), (some (142, true)), .fa 0 (.t 152)⟩,
         ⟨(some 154), (some (142, true)), .ld false 1 (.t 153)⟩,
         ⟨(some 155), (some (142, true)), .ia 2 (.t 146) (.t 154)⟩,
         ⟨(some 156), (some (142, true)), .fa 0 (.t 155)⟩,
         ⟨(some 157), (some (142, true)), .ld false 1 (.t 156)⟩,
         ⟨(some 158), (some (142, true)), .bin .eql .i (.t 157) (.k (V.i 0))⟩,
         ⟨(some 159), none, .pick (.t 142) (.t 158) (.k (V.b false))⟩] [0, 5, 6, 159])
      (.cond (.t 159)
       (.seq (.reg (some [[], [0], [0, 1], [0, 1, 2], [], [4], [4, 5], [4, 5, 6], [], [4, 5, 6, 7, 8], [4, 5, 6, 7, 8, 9], [4, 5, 6, 7, 8, 9, 10], [], [12], [12, 13], [0, 1, 2, 3, 4, 5, 6, 7, 8, 9, 10, 11, 12, 13, 14], [0, 1, 2, 3, 4, 5, 6, 7, 8, 9, 10, 11, 12, 13, 14, 15]]) [⟨(some 160), none, .mv (.t 0)⟩,
           ⟨(some 161), none, .nilc (.t 160)⟩,
           ⟨(some 162), none, .fa 0 (.t 161)⟩,
           ⟨(some 163), none, .ld false 1 (.t 162)⟩,
           ⟨(some 164), none, .mv (.t 0)⟩,
           ⟨(some 165), none, .nilc (.t 164)⟩,
           ⟨(some 166), none, .fa 2 (.t 165)⟩,
           ⟨(some 167), none, .ld false 1 (.t 166)⟩,
           ⟨(some 168), none, .mv (.t 5)⟩,
           ⟨(some 169), none, .ia 2 (.t 167) (.t 168)⟩,
           ⟨(some 170), none, .fa 0 (.t 169)⟩,
           ⟨(some 171), none, .ld false 1 (.t 170)⟩,
           ⟨(some 172), none, .mv (.t 6)⟩,
           ⟨(some 173), none, .ia 2 (.t 172) (.k (V.i 0))⟩,
           ⟨(some 174), none, .ld true 2 (.t 173)⟩,
           ⟨(some 175), none, .ia 2 (.t 163) (.t 171)⟩,
           ⟨none, none, .st 2 (.t 175) (.t 174)⟩] [0, 5, 6])
        (.reg (some [[], [0], [0, 1], [0, 1, 2], [], [], [5], [0, 1, 2, 3, 4, 5, 6], [0, 1, 2, 3, 4, 5, 6, 7], [0, 1, 2, 3, 4, 5, 6, 7, 8]]) [⟨(some 176), none, .mv (.t 0)⟩,
          ⟨(some 177), none, .nilc (.t 176)⟩,
          ⟨(some 178), none, .fa 2 (.t 177)⟩,
          ⟨(some 179), none, .ld false 1 (.t 178)⟩,
          ⟨(some 180), none, .mv (.t 5)⟩,
          ⟨(some 181), none, .mv (.t 6)⟩,
          ⟨(some 182), none, .sl 2 (.t 181) (some (.k (V.i 1))) none⟩,
          ⟨(some 183), none, .ia 2 (.t 179) (.t 180)⟩,
          ⟨(some 184), none, .fa 1 (.t 183)⟩,
          ⟨none, none, .st 1 (.t 184) (.t 182)⟩] [0, 5]))
       (.skip)))))
    (.reg none [⟨(some 129), none, .mv (.t 5)⟩,
      ⟨(some 130), none, .bin .add .i (.t 129) (.k (V.i 1))⟩,
      ⟨(some 5), none, .mv (.t 130)⟩] [0, 5])))))
  (.reg none [⟨(some 185), none, .mv (.t 0)⟩,
    ⟨(some 186), none, .mv (.t 0)⟩,
    ⟨(some 187), none, .nilc (.t 186)⟩,
    ⟨(some 188), none, .fa 4 (.t 187)⟩,
    ⟨(some 189), none, .ld false 1 (.t 188)⟩,
    ⟨(some 190), none, .bin .add .i (.t 189) (.k (V.i 1))⟩,
    ⟨(some 191), none, .nilc (.t 185)⟩,
    ⟨(some 192), none, .fa 4 (.t 191)⟩,
    ⟨none, none, .st 1 (.t 192) (.t 190)⟩] []))))
def rv107 : List RV := []
open Go.Proofs Go.IntWalk
set_option linter.unusedVariables false
set_option maxRecDepth 100000
set_option maxHeartbeats 4000000
def S_l7Tick_l2 (g : G) (t : TE) : Nat → List Item → List Inlet → Int → Option ((List Item) × List Inlet)
  | 0, _, _, _ => none
  | n2 + 1, w3, w4, v2 =>
    br (g.lt v2 (g.int (g.dlen (t.d_InletF w4))))
    (
     gd (((0 : Int) ≤ v2 ∧ v2 < (((g.dlen (t.d_InletF w4)) : Nat) : Int))) <|
     gt w4 (g.nat v2) fun x7 =>
     br (g.lt 0 (g.llen (t.r_Item x7.Wait)))
     (
      gd (((0 : Int) ≤ v2 ∧ v2 < (((g.dlen (t.d_InletF w4)) : Nat) : Int))) <|
      gd (((0 : Int) ≤ x7.Cell ∧ x7.Cell < (((g.dlen (t.d_Item w3)) : Nat) : Int))) <|
      gt w3 (g.nat x7.Cell) fun x8 =>
      br (g.eq x8.Id 0)
      (
       gd (((0 : Int) ≤ v2 ∧ v2 < (((g.dlen (t.d_InletF w4)) : Nat) : Int))) <|
       gt x7.Wait (g.nat 0) fun x9 =>
       gd (((0 : Int) ≤ x7.Cell ∧ x7.Cell < (((g.dlen (t.d_Item w3)) : Nat) : Int))) <|
       lP (List.set w3 (g.nat x7.Cell) (Item.mk x9.Id x9.Dest)) fun (l7 : List Item) =>
       gd (((0 : Int) ≤ 1 ∧ 1 ≤ (g.llen (t.r_Item x7.Wait)) ∧ (g.llen (t.r_Item x7.Wait)) ≤ ((((t.r_Item x7.Wait).length) : Nat) : Int))) <|
       lP (List.drop (g.nat 1) (List.take (g.nat (g.llen (t.r_Item x7.Wait))) x7.Wait)) fun (l8 : List Item) =>
       gd (((0 : Int) ≤ v2 ∧ v2 < (((g.dlen (t.d_InletF w4)) : Nat) : Int))) <|
       lP (List.set w4 (g.nat v2) (Inlet.mk x7.Cell l8)) fun (l9 : List Inlet) =>
       S_l7Tick_l2 g t n2 l7 l9 (g.wrap .i64 (g.add v2 1)))
      (
       S_l7Tick_l2 g t n2 w3 w4 (g.wrap .i64 (g.add v2 1))))
     (
      S_l7Tick_l2 g t n2 w3 w4 (g.wrap .i64 (g.add v2 1))))
    (
     some (w3, w4))
def S_l7Tick_l1 (g : G) (t : TE) (a0 : Centre) : Nat → List Item → List Chute → Int → Option ((List Item) × List Chute)
  | 0, _, _, _ => none
  | n1 + 1, w1, w2, v1 =>
    br (g.lt v1 (g.int (g.dlen (t.d_Chute w2))))
    (
     gd (((0 : Int) ≤ v1 ∧ v1 < (((g.dlen (t.d_Chute w2)) : Nat) : Int))) <|
     gt w2 (g.nat v1) fun x2 =>
     gd (((0 : Int) ≤ x2.Cell ∧ x2.Cell < (((g.dlen (t.d_Item w1)) : Nat) : Int))) <|
     gt w1 (g.nat x2.Cell) fun x3 =>
     br (g.eq x3.Id 0)
     (
      S_l7Tick_l1 g t a0 n1 w1 w2 (g.wrap .i64 (g.add v1 1)))
     (
      gd (((0 : Int) ≤ x3.Dest ∧ x3.Dest < (((g.dlen (t.d_I64 a0.Plan)) : Nat) : Int))) <|
      gt a0.Plan (g.nat x3.Dest) fun x4 =>
      br (g.eq x4 v1)
      (
       gd (((0 : Int) ≤ v1 ∧ v1 < (((g.dlen (t.d_Chute w2)) : Nat) : Int))) <|
       gd (((0 : Int) ≤ v1 ∧ v1 < (((g.dlen (t.d_Chute w2)) : Nat) : Int))) <|
       br (g.lt (g.int (g.dlen (t.d_Item x2.Held))) x2.Room)
       (
        gd (((0 : Int) ≤ v1 ∧ v1 < (((g.dlen (t.d_Chute w2)) : Nat) : Int))) <|
        lP ([x3]) fun (l3 : List Item) =>
        gd (((x2.Held.length + l3.length) * 16 ≤ 70368744177664)) <|
        lP (x2.Held ++ l3) fun (l4 : List Item) =>
        gd (((0 : Int) ≤ v1 ∧ v1 < (((g.dlen (t.d_Chute w2)) : Nat) : Int))) <|
        lP (List.set w2 (g.nat v1) (Chute.mk x2.Cell x2.Room l4)) fun (l5 : List Chute) =>
        gd (((0 : Int) ≤ v1 ∧ v1 < (((g.dlen (t.d_Chute w2)) : Nat) : Int))) <|
        gt l5 (g.nat v1) fun x5 =>
        gd (((0 : Int) ≤ x5.Cell ∧ x5.Cell < (((g.dlen (t.d_Item w1)) : Nat) : Int))) <|
        gt w1 (g.nat x5.Cell) fun x6 =>
        lP (List.set w1 (g.nat x5.Cell) (Item.mk 0 0)) fun (l6 : List Item) =>
        S_l7Tick_l1 g t a0 n1 l6 l5 (g.wrap .i64 (g.add v1 1)))
       (
        S_l7Tick_l1 g t a0 n1 w1 w2 (g.wrap .i64 (g.add v1 1))))
      (
       S_l7Tick_l1 g t a0 n1 w1 w2 (g.wrap .i64 (g.add v1 1)))))
    (
     some (w1, w2))
def S_l7Tick (g : G) (t : TE) (a0 : Centre) : Option Centre :=
  gd (((0 : Int) ≤ (g.wrap .i64 (g.sub (g.int (g.dlen (t.d_Item a0.Belt))) 1)) ∧ (g.wrap .i64 (g.sub (g.int (g.dlen (t.d_Item a0.Belt))) 1)) < (((g.dlen (t.d_Item a0.Belt)) : Nat) : Int))) <|
  gt a0.Belt (g.nat (g.wrap .i64 (g.sub (g.int (g.dlen (t.d_Item a0.Belt))) 1))) fun x1 =>
  lP ([x1]) fun (l1 : List Item) =>
  gd (((0 : Int) ≤ 0 ∧ 0 ≤ (g.wrap .i64 (g.sub (g.int (g.dlen (t.d_Item a0.Belt))) 1)) ∧ (g.wrap .i64 (g.sub (g.int (g.dlen (t.d_Item a0.Belt))) 1)) ≤ (((g.dlen (t.d_Item a0.Belt)) : Nat) : Int))) <|
  gd (((g.nat 0) + (g.nsub (g.nat (g.wrap .i64 (g.sub (g.int (g.dlen (t.d_Item a0.Belt))) 1))) (g.nat 0)) ≤ a0.Belt.length)) <|
  gd (((l1.length + (List.take (g.nsub (g.nat (g.wrap .i64 (g.sub (g.int (g.dlen (t.d_Item a0.Belt))) 1))) (g.nat 0)) (List.drop (g.nat 0) a0.Belt)).length) * 16 ≤ 70368744177664)) <|
  lP (l1 ++ (List.take (g.nsub (g.nat (g.wrap .i64 (g.sub (g.int (g.dlen (t.d_Item a0.Belt))) 1))) (g.nat 0)) (List.drop (g.nat 0) a0.Belt))) fun (l2 : List Item) =>
  cl (S_l7Tick_l1 g t a0 1000000000 l2 a0.Chutes 0) fun y1 =>
  cl (S_l7Tick_l2 g t 1000000000 y1.1 a0.Inlets 0) fun y2 =>
  some (Centre.mk y2.1 y1.2 y2.2 a0.Plan (g.wrap .i64 (g.add a0.Now 1)))
theorem fit107 : codeFit Try.prog Try.f107.ntmps (Try.f107.body.getD .skip) ir107 = true := by kernel_rfl
theorem c_S_l7Tick {g : G} {t : TE} {a0 : Centre} {r : Centre} (hg : g = G.real) (ht : t = TE.real) (h : S_l7Tick g t a0 = some r) : FnM Try.prog 107 (.p (CentreF.ds t a0)) [] (.u []) (.p (CentreF.ds t r)) := by
  obtain ⟨X, hX⟩ := hide (.u [] : X)
  obtain ⟨Y, hY⟩ := hide (.p (CentreF.ds t r) : AM)
  rw [← hX, ← hY]
  refine fnM_of (rvs := rv107) (j := ir107) Try.func107 rfl fit107 (Nat.le_of_ble_eq_true rfl) (by kernel_rfl) prog_mixed ?_
  intro g2 F hg2 hF
  obtain rfl : g2 = g := hg2.unique.trans hg.symm
  clear hg2
  obtain ⟨wrap, lt, le, eq, quo, rem, band, bor, bxor, shl, shr, nat, int, add, sub, mul, cat, seq, slt, sub3, byte, llen, nadd, nsub, dlen, dapp, dset, drep, rd, rda, up, rsub, dsub, all, sle, slen, hasI, putI, hasS, putS, imin, imax, fzc⟩ := g2
  obtain ⟨r_Item, d_Item, r_Chute, d_Chute, r_Inlet, d_Inlet, r_I64, d_I64, r_U8, d_U8, d_InletF⟩ := t
  obtain ⟨a0_Belt, a0_Chutes, a0_Inlets, a0_Plan, a0_Now⟩ := a0
  unfold S_l7Tick at h
  try dsimp only at h
  cbv
  obtain ⟨hc1, h⟩ := of_gd h
  refine AStep.mk hc1 ?_
  cbv
  obtain ⟨x1, hx1, h⟩ := of_gt h
  obtain ⟨x1_Id, x1_Dest⟩ := x1
  try dsimp only at h
  refine AGet.mk _ (d_get_Item hg ht hx1) ?_
  cbv
  obtain ⟨l1, hl1, h⟩ := of_lP h
  try dsimp only at h
  refine ANew.mk (d_Item l1) (dlen (d_Item l1)) (by rw [← hl1]; exact lit_Item hg ht [(Item.mk x1_Id x1_Dest)]) (by rw [← hl1]; exact litn_Item hg ht [(Item.mk x1_Id x1_Dest)]) ?_
  cbv
  obtain ⟨hc2, h⟩ := of_gd h
  refine AStep.mk hc2 ?_
  cbv
  obtain ⟨hc20, h⟩ := of_gd h
  obtain ⟨hc21, h⟩ := of_gd h
  refine AStep.mk ⟨(subp_ok_Item hg ht hc20), (app_ok_Item hg ht (dlen_Item hg ht _) (dsub_Item hg ht _ _ _) hc21)⟩ ?_
  cbv
  obtain ⟨l2, hl2, h⟩ := of_lP h
  try dsimp only at h
  refine ANew.mk (d_Item l2) (dlen (d_Item l2)) (by rw [← hl2]; exact app_Item hg ht (dlen_Item hg ht _) (dsub_Item hg ht _ _ _)) (by rw [← hl2]; exact appl_Item hg ht (dlen_Item hg ht _) (dsub_Item hg ht _ _ _)) ?_
  cbv
  obtain ⟨o1, ho1, h⟩ := of_cl h
  try dsimp only at h
  try rw [hg] at ho1
  try rw [ht] at ho1
  refine ABL.mk { p : Nat × (List Item) × (List Chute) × Int // S_l7Tick_l1 G.real TE.real (Centre.mk a0_Belt a0_Chutes a0_Inlets a0_Plan a0_Now) p.1 p.2.1 p.2.2.1 p.2.2.2 = some o1 } (fun ⟨⟨n1, w1, w2, v1⟩, _⟩ => ({ sl := [(0, .c (.p 5 5 0 0)), (3, .c (.r (.v (.int .i64 v1))))], tab := [(0, some (.arr 2 (d_Item w1))), (1, some (.arr 3 (d_Chute w2))), (2, some (.arr 2 (d_InletF a0_Inlets))), (3, some (.arr 1 (d_I64 a0_Plan))), (5, some (.foc 5 [] [.f 0 2 0 (dlen (d_Item w1)), .f 1 3 0 (dlen (d_Chute w2)), .f 2 2 0 (dlen (d_InletF a0_Inlets)), .f 3 1 0 (dlen (d_I64 a0_Plan)), .r (.v (.int .i64 a0_Now))] []))] } : St)) 6 (fun p => p.1.1) ⟨(1000000000, l2, a0_Chutes, 0), ho1⟩ ((List Item) × List Chute) (fun ⟨y1_1, y1_2⟩ => ({ sl := [(0, .c (.p 5 5 0 0))], tab := [(0, some (.arr 2 (d_Item y1_1))), (1, some (.arr 3 (d_Chute y1_2))), (2, some (.arr 2 (d_InletF a0_Inlets))), (3, some (.arr 1 (d_I64 a0_Plan))), (5, some (.foc 5 [] [.f 0 2 0 (dlen (d_Item y1_1)), .f 1 3 0 (dlen (d_Chute y1_2)), .f 2 2 0 (dlen (d_InletF a0_Inlets)), .f 3 1 0 (dlen (d_I64 a0_Plan)), .r (.v (.int .i64 a0_Now))] []))] } : St)) 6 (fun y => o1 = y) ?_ ?_ ?_
  · refine Wk.of [(0, some 374), (1, some 1), (2, some 2), (3, some 3), (5, some 5)] rfl rfl ?_ ?_
    · cbv
      all_goals exact ⟨⟨_, rfl, rfl⟩, ⟨_, rfl, rfl⟩, trivial⟩
    · cbv
      all_goals exact ⟨⟨_, rfl, rfl⟩, ⟨_, rfl, rfl⟩, ⟨_, rfl, rfl⟩, ⟨_, rfl, rfl⟩, ⟨_, rfl, _, rfl, rfl, rfl, rfl, rfl, rfl, trivial⟩, trivial⟩
  · rintro ⟨⟨n1, w1, w2, v1⟩, h_1⟩ hq1
    try dsimp only at h_1
    clear hq1
    rcases n1 with _ | n1
    · rw [S_l7Tick_l1] at h_1; cases h_1
    · rw [S_l7Tick_l1] at h_1
      try rw [← hg] at h_1
      try rw [← ht] at h_1
      try dsimp only at h_1
      cbv
      cases hb1 : (lt v1 (int (dlen (d_Chute w2)))) with
      | true =>
        rw [br_true hb1] at h_1
        cbv
        obtain ⟨hc3, h_1⟩ := of_gd h_1
        refine AStep.mk hc3 ?_
        cbv
        obtain ⟨x2, hx2, h_1⟩ := of_gt h_1
        obtain ⟨x2_Cell, x2_Room, x2_Held⟩ := x2
        try dsimp only at h_1
        refine AGet.mk _ (d_get_Chute hg ht hx2) ?_
        cbv
        obtain ⟨hc4, h_1⟩ := of_gd h_1
        refine AStep.mk hc4 ?_
        cbv
        obtain ⟨x3, hx3, h_1⟩ := of_gt h_1
        obtain ⟨x3_Id, x3_Dest⟩ := x3
        try dsimp only at h_1
        refine AGet.mk _ (d_get_Item hg ht hx3) ?_
        cbv
        refine AGh.opn 1 3 (nat v1) (d_Chute w2) _ rfl (d_get_Chute hg ht hx2) rfl ?_
        cbv
        refine AGh.nil ?_
        cbv
        cases hb2 : (eq x3_Id 0) with
        | true =>
          rw [br_true hb2] at h_1
          cbv
          try (rw [hb2]; cbv)
          try (rw [hb2]; cbv)
          try (rw [hb2]; cbv)
          try (rw [hb2]; cbv)
          try (rw [hb2]; cbv)
          try (rw [hb2]; cbv)
          try (rw [hb2]; cbv)
          try (rw [hb2]; cbv)
          try (rw [hb2]; cbv)
          try (rw [hb2]; cbv)
          refine AGh.cls 1 3 (nat v1) (d_Chute w2) _ _ _ _ (d_Chute w2) rfl rfl ⟨rfl, (dlen_Item hg ht _)⟩ (dsets_Chute hg ht hx2) ?_
          cbv
          refine AGh.nil ?_
          cbv
          try rw [hg] at h_1
          try rw [ht] at h_1
          refine ⟨⟨(n1, w1, w2, (wrap .i64 (add v1 1))), h_1⟩, Wk.of [(0, some 0), (1, some 1), (2, some 2), (3, some 3), (5, some 5)] rfl rfl ?_ ?_, Nat.lt_succ_self _⟩
          · cbv
            all_goals exact ⟨⟨_, rfl, rfl⟩, ⟨_, rfl, rfl⟩, trivial⟩
          · cbv
            all_goals exact ⟨⟨_, rfl, rfl⟩, ⟨_, rfl, rfl⟩, ⟨_, rfl, rfl⟩, ⟨_, rfl, rfl⟩, ⟨_, rfl, _, rfl, rfl, rfl, rfl, rfl, rfl, trivial⟩, trivial⟩
        | false =>
          rw [br_false hb2] at h_1
          cbv
          try (rw [hb2]; cbv)
          try (rw [hb2]; cbv)
          try (rw [hb2]; cbv)
          try (rw [hb2]; cbv)
          try (rw [hb2]; cbv)
          try (rw [hb2]; cbv)
          obtain ⟨hc5, h_1⟩ := of_gd h_1
          refine AStep.mk hc5 ?_
          cbv
          try (rw [hb2]; cbv)
          obtain ⟨x4, hx4, h_1⟩ := of_gt h_1
          try dsimp only at h_1
          refine AGet.mk _ (d_get_I64 hg ht hx4) ?_
          cbv
          try (rw [hb2]; cbv)
          try (rw [hb2]; cbv)
          try (rw [hb2]; cbv)
          cases hb3 : (eq x4 v1) with
          | true =>
            rw [br_true hb3] at h_1
            cbv
            try (rw [hb3]; cbv)
            try (rw [hb3]; cbv)
            try (rw [hb3]; cbv)
            try (rw [hb3]; cbv)
            try (rw [hb3]; cbv)
            obtain ⟨hc6, h_1⟩ := of_gd h_1
            refine AStep.mk hc6 ?_
            cbv
            try (rw [hb3]; cbv)
            try (rw [hb3]; cbv)
            refine AStep.mk rfl ?_
            cbv
            try (rw [hb3]; cbv)
            try (rw [hb3]; cbv)
            try (rw [hb3]; cbv)
            try (rw [hb3]; cbv)
            try (rw [hb3]; cbv)
            try (rw [hb3]; cbv)
            try (rw [hb3]; cbv)
            obtain ⟨hc7, h_1⟩ := of_gd h_1
            refine AStep.mk hc7 ?_
            cbv
            try (rw [hb3]; cbv)
            try (rw [hb3]; cbv)
            refine AStep.mk rfl ?_
            cbv
            try (rw [hb3]; cbv)
            try (rw [hb3]; cbv)
            refine AGh.cls 1 3 (nat v1) (d_Chute w2) _ _ _ _ (d_Chute w2) rfl rfl ⟨rfl, (dlen_Item hg ht _)⟩ (dsets_Chute hg ht hx2) ?_
            cbv
            refine AGh.nil ?_
            cbv
            cases hb4 : (lt (int (dlen (d_Item x2_Held))) x2_Room) with
            | true =>
              rw [br_true hb4] at h_1
              cbv
              refine AGh.opn 1 3 (nat v1) (d_Chute w2) _ rfl (d_get_Chute hg ht hx2) rfl ?_
              cbv
              refine AGh.nil ?_
              cbv
              obtain ⟨hc8, h_1⟩ := of_gd h_1
              refine AStep.mk hc8 ?_
              cbv
              refine AStep.mk rfl ?_
              cbv
              obtain ⟨l3, hl3, h_1⟩ := of_lP h_1
              try dsimp only at h_1
              refine ANew.mk (d_Item l3) (dlen (d_Item l3)) (by rw [← hl3]; exact lit_Item hg ht [(Item.mk x3_Id x3_Dest)]) (by rw [← hl3]; exact litn_Item hg ht [(Item.mk x3_Id x3_Dest)]) ?_
              cbv
              obtain ⟨hc12, h_1⟩ := of_gd h_1
              refine AStep.mk ⟨⟨rfl, (dlen_Item hg ht _)⟩, (app_ok_Item hg ht (dlen_Item hg ht _) rfl hc12)⟩ ?_
              cbv
              obtain ⟨l4, hl4, h_1⟩ := of_lP h_1
              try dsimp only at h_1
              refine ANew.mk (d_Item l4) (dlen (d_Item l4)) (by rw [← hl4]; exact app_Item hg ht (dlen_Item hg ht _) rfl) (by rw [← hl4]; exact appl_Item hg ht (dlen_Item hg ht _) rfl) ?_
              cbv
              obtain ⟨hc9, h_1⟩ := of_gd h_1
              refine AStep.mk hc9 ?_
              cbv
              refine AStep.mk rfl ?_
              cbv
              obtain ⟨l5, hl5, h_1⟩ := of_lP h_1
              try dsimp only at h_1
              refine AGh.cls 1 3 (nat v1) (d_Chute w2) _ _ _ _ (d_Chute l5) rfl rfl ⟨rfl, (dlen_Item hg ht _)⟩ (by rw [← hl5]; exact dset_Chute hg ht _ _ (Chute.mk x2_Cell x2_Room l4)) ?_
              have hnl5 : (dlen (d_Chute w2)) = (d_Chute l5).length := (by rw [← hl5, dsetl_Chute ht]; exact (dlen_Chute hg ht _))
              cbv
              refine AGh.nil ?_
              cbv
              obtain ⟨hc10, h_1⟩ := of_gd h_1
              refine AStep.mk hc10 ?_
              cbv
              obtain ⟨x5, hx5, h_1⟩ := of_gt h_1
              obtain ⟨x5_Cell, x5_Room, x5_Held⟩ := x5
              try dsimp only at h_1
              refine AGet.mk _ (d_get_Chute hg ht hx5) ?_
              cbv
              obtain ⟨hc11, h_1⟩ := of_gd h_1
              refine AStep.mk hc11 ?_
              cbv
              obtain ⟨x6, hx6, h_1⟩ := of_gt h_1
              obtain ⟨x6_Id, x6_Dest⟩ := x6
              try dsimp only at h_1
              refine AGet.mk _ (d_get_Item hg ht hx6) ?_
              cbv
              obtain ⟨l6, hl6, h_1⟩ := of_lP h_1
              try dsimp only at h_1
              refine ANew.mk (d_Item l6) _ (by rw [← hl6]; exact dset_Item hg ht _ _ (Item.mk 0 0)) rfl ?_
              have hnl6 : (dlen (d_Item w1)) = (d_Item l6).length := (by rw [← hl6, dsetl_Item ht]; exact (dlen_Item hg ht _))
              cbv
              try rw [hg] at h_1
              try rw [ht] at h_1
              refine ⟨⟨(n1, l6, l5, (wrap .i64 (add v1 1))), h_1⟩, Wk.of [(0, some 0), (1, some 1), (2, some 2), (3, some 3), (5, some 5)] rfl rfl ?_ ?_, Nat.lt_succ_self _⟩
              · cbv
                all_goals try rw [show (dlen (d_Item w1)) = (dlen (d_Item l6)) from (hnl6).trans (dlen_Item hg ht _).symm]
                all_goals try rw [show (dlen (d_Chute w2)) = (dlen (d_Chute l5)) from (hnl5).trans (dlen_Chute hg ht _).symm]
                all_goals exact ⟨⟨_, rfl, rfl⟩, ⟨_, rfl, rfl⟩, trivial⟩
              · cbv
                all_goals try rw [show (dlen (d_Item w1)) = (dlen (d_Item l6)) from (hnl6).trans (dlen_Item hg ht _).symm]
                all_goals try rw [show (dlen (d_Chute w2)) = (dlen (d_Chute l5)) from (hnl5).trans (dlen_Chute hg ht _).symm]
                all_goals exact ⟨⟨_, rfl, rfl⟩, ⟨_, rfl, rfl⟩, ⟨_, rfl, rfl⟩, ⟨_, rfl, rfl⟩, ⟨_, rfl, _, rfl, rfl, rfl, rfl, rfl, rfl, trivial⟩, trivial⟩
            | false =>
              rw [br_false hb4] at h_1
              cbv
              try rw [hg] at h_1
              try rw [ht] at h_1
              refine ⟨⟨(n1, w1, w2, (wrap .i64 (add v1 1))), h_1⟩, Wk.of [(0, some 0), (1, some 1), (2, some 2), (3, some 3), (5, some 5)] rfl rfl ?_ ?_, Nat.lt_succ_self _⟩
              · cbv
                all_goals exact ⟨⟨_, rfl, rfl⟩, ⟨_, rfl, rfl⟩, trivial⟩
              · cbv
                all_goals exact ⟨⟨_, rfl, rfl⟩, ⟨_, rfl, rfl⟩, ⟨_, rfl, rfl⟩, ⟨_, rfl, rfl⟩, ⟨_, rfl, _, rfl, rfl, rfl, rfl, rfl, rfl, trivial⟩, trivial⟩
          | false =>
            rw [br_false hb3] at h_1
            cbv
            try (rw [hb3]; cbv)
            try (rw [hb3]; cbv)
            try (rw [hb3]; cbv)
            try (rw [hb3]; cbv)
            try (rw [hb3]; cbv)
            try (rw [hb3]; cbv)
            try (rw [hb3]; cbv)
            try (rw [hb3]; cbv)
            try (rw [hb3]; cbv)
            try (rw [hb3]; cbv)
            try (rw [hb3]; cbv)
            try (rw [hb3]; cbv)
            try (rw [hb3]; cbv)
            try (rw [hb3]; cbv)
            try (rw [hb3]; cbv)
            try (rw [hb3]; cbv)
            try (rw [hb3]; cbv)
            try (rw [hb3]; cbv)
            refine AGh.cls 1 3 (nat v1) (d_Chute w2) _ _ _ _ (d_Chute w2) rfl rfl ⟨rfl, (dlen_Item hg ht _)⟩ (dsets_Chute hg ht hx2) ?_
            cbv
            refine AGh.nil ?_
            cbv
            try rw [hg] at h_1
            try rw [ht] at h_1
            refine ⟨⟨(n1, w1, w2, (wrap .i64 (add v1 1))), h_1⟩, Wk.of [(0, some 0), (1, some 1), (2, some 2), (3, some 3), (5, some 5)] rfl rfl ?_ ?_, Nat.lt_succ_self _⟩
            · cbv
              all_goals exact ⟨⟨_, rfl, rfl⟩, ⟨_, rfl, rfl⟩, trivial⟩
            · cbv
              all_goals exact ⟨⟨_, rfl, rfl⟩, ⟨_, rfl, rfl⟩, ⟨_, rfl, rfl⟩, ⟨_, rfl, rfl⟩, ⟨_, rfl, _, rfl, rfl, rfl, rfl, rfl, rfl, trivial⟩, trivial⟩
      | false =>
        rw [br_false hb1] at h_1
        cbv
        refine ⟨(w1, w2), Wk.of [(0, some 0), (1, some 1), (2, some 2), (3, some 3), (5, some 5)] rfl rfl ?_ ?_, (Option.some.inj h_1).symm⟩
        · cbv
          all_goals exact ⟨⟨_, rfl, rfl⟩, trivial⟩
        · cbv
          all_goals exact ⟨⟨_, rfl, rfl⟩, ⟨_, rfl, rfl⟩, ⟨_, rfl, rfl⟩, ⟨_, rfl, rfl⟩, ⟨_, rfl, _, rfl, rfl, rfl, rfl, rfl, rfl, trivial⟩, trivial⟩
  · rintro ⟨y1_1, y1_2⟩ hy1
    replace hy1 := hy1.symm
    subst hy1
    try dsimp only [lr, lrL, lrp, lrpL] at h
    cbv
    obtain ⟨o2, ho2, h⟩ := of_cl h
    try dsimp only at h
    try rw [hg] at ho2
    try rw [ht] at ho2
    refine ABL.mk { p : Nat × (List Item) × (List Inlet) × Int // S_l7Tick_l2 G.real TE.real p.1 p.2.1 p.2.2.1 p.2.2.2 = some o2 } (fun ⟨⟨n2, w3, w4, v2⟩, _⟩ => ({ sl := [(0, .c (.p 5 5 0 0)), (5, .c (.r (.v (.int .i64 v2))))], tab := [(0, some (.arr 2 (d_Item w3))), (1, some (.arr 3 (d_Chute y1_2))), (2, some (.arr 2 (d_InletF w4))), (3, some (.arr 1 (d_I64 a0_Plan))), (5, some (.foc 5 [] [.f 0 2 0 (dlen (d_Item w3)), .f 1 3 0 (dlen (d_Chute y1_2)), .f 2 2 0 (dlen (d_InletF w4)), .f 3 1 0 (dlen (d_I64 a0_Plan)), .r (.v (.int .i64 a0_Now))] []))] } : St)) 6 (fun p => p.1.1) ⟨(1000000000, y1_1, a0_Inlets, 0), ho2⟩ ((List Item) × List Inlet) (fun ⟨y2_1, y2_2⟩ => ({ sl := [(0, .c (.p 5 5 0 0))], tab := [(0, some (.arr 2 (d_Item y2_1))), (1, some (.arr 3 (d_Chute y1_2))), (2, some (.arr 2 (d_InletF y2_2))), (3, some (.arr 1 (d_I64 a0_Plan))), (5, some (.foc 5 [] [.f 0 2 0 (dlen (d_Item y2_1)), .f 1 3 0 (dlen (d_Chute y1_2)), .f 2 2 0 (dlen (d_InletF y2_2)), .f 3 1 0 (dlen (d_I64 a0_Plan)), .r (.v (.int .i64 a0_Now))] []))] } : St)) 6 (fun y => o2 = y) ?_ ?_ ?_
    · refine Wk.of [(0, some 0), (1, some 1), (2, some 2), (3, some 3), (5, some 5)] rfl rfl ?_ ?_
      · cbv
        all_goals exact ⟨⟨_, rfl, rfl⟩, ⟨_, rfl, rfl⟩, trivial⟩
      · cbv
        all_goals exact ⟨⟨_, rfl, rfl⟩, ⟨_, rfl, rfl⟩, ⟨_, rfl, rfl⟩, ⟨_, rfl, rfl⟩, ⟨_, rfl, _, rfl, rfl, rfl, rfl, rfl, rfl, trivial⟩, trivial⟩
    · rintro ⟨⟨n2, w3, w4, v2⟩, h_2⟩ hq2
      try dsimp only at h_2
      clear hq2
      rcases n2 with _ | n2
      · rw [S_l7Tick_l2] at h_2; cases h_2
      · rw [S_l7Tick_l2] at h_2
        try rw [← hg] at h_2
        try rw [← ht] at h_2
        try dsimp only at h_2
        cbv
        cases hb5 : (lt v2 (int (dlen (d_InletF w4)))) with
        | true =>
          rw [br_true hb5] at h_2
          cbv
          obtain ⟨hc13, h_2⟩ := of_gd h_2
          refine AStep.mk hc13 ?_
          cbv
          obtain ⟨x7, hx7, h_2⟩ := of_gt h_2
          obtain ⟨x7_Cell, x7_Wait⟩ := x7
          try dsimp only at h_2
          refine AGet.mk _ (d_get_InletF hg ht hx7) ?_
          cbv
          cases hb6 : (lt 0 (llen (r_Item x7_Wait))) with
          | true =>
            rw [br_true hb6] at h_2
            cbv
            try (rw [hb6]; cbv)
            try (rw [hb6]; cbv)
            try (rw [hb6]; cbv)
            try (rw [hb6]; cbv)
            try (rw [hb6]; cbv)
            try (rw [hb6]; cbv)
            try (rw [hb6]; cbv)
            try (rw [hb6]; cbv)
            try (rw [hb6]; cbv)
            obtain ⟨hc14, h_2⟩ := of_gd h_2
            refine AStep.mk hc14 ?_
            cbv
            try (rw [hb6]; cbv)
            try (rw [hb6]; cbv)
            refine AGet.mk _ (d_get_InletF hg ht hx7) ?_
            cbv
            try (rw [hb6]; cbv)
            obtain ⟨hc15, h_2⟩ := of_gd h_2
            refine AStep.mk hc15 ?_
            cbv
            try (rw [hb6]; cbv)
            try (rw [hb6]; cbv)
            obtain ⟨x8, hx8, h_2⟩ := of_gt h_2
            obtain ⟨x8_Id, x8_Dest⟩ := x8
            try dsimp only at h_2
            refine AGet.mk _ (d_get_Item hg ht hx8) ?_
            cbv
            try (rw [hb6]; cbv)
            try (rw [hb6]; cbv)
            cases hb7 : (eq x8_Id 0) with
            | true =>
              rw [br_true hb7] at h_2
              cbv
              obtain ⟨hc16, h_2⟩ := of_gd h_2
              refine AStep.mk hc16 ?_
              cbv
              refine AGet.mk _ (d_get_InletF hg ht hx7) ?_
              cbv
              refine AStep.mk (by decide) ?_
              cbv
              obtain ⟨x9, hx9, h_2⟩ := of_gt h_2
              obtain ⟨x9_Id, x9_Dest⟩ := x9
              try dsimp only at h_2
              refine AGet.mk _ (r_get_Item hg ht hx9) ?_
              cbv
              obtain ⟨hc17, h_2⟩ := of_gd h_2
              refine AStep.mk hc17 ?_
              cbv
              refine AGet.mk _ (d_get_Item hg ht hx8) ?_
              cbv
              obtain ⟨l7, hl7, h_2⟩ := of_lP h_2
              try dsimp only at h_2
              refine ANew.mk (d_Item l7) _ (by rw [← hl7]; exact dset_Item hg ht _ _ (Item.mk x9_Id x9_Dest)) rfl ?_
              have hnl7 : (dlen (d_Item w3)) = (d_Item l7).length := (by rw [← hl7, dsetl_Item ht]; exact (dlen_Item hg ht _))
              cbv
              obtain ⟨hc18, h_2⟩ := of_gd h_2
              refine AStep.mk hc18 ?_
              cbv
              obtain ⟨l8, hl8, h_2⟩ := of_lP h_2
              try dsimp only at h_2
              refine AVal.mk (r_Item l8) (by rw [← hl8]; exact rsub_Item hg ht _ _ _) ?_
              cbv
              obtain ⟨hc19, h_2⟩ := of_gd h_2
              refine AStep.mk hc19 ?_
              cbv
              refine AGet.mk _ (d_get_InletF hg ht hx7) ?_
              cbv
              obtain ⟨l9, hl9, h_2⟩ := of_lP h_2
              try dsimp only at h_2
              refine ANew.mk (d_InletF l9) _ (by rw [← hl9]; exact dset_InletF hg ht _ _ (Inlet.mk x7_Cell l8)) rfl ?_
              have hnl9 : (dlen (d_InletF w4)) = (d_InletF l9).length := (by rw [← hl9, dsetl_InletF ht]; exact (dlen_InletF hg ht _))
              cbv
              try rw [hg] at h_2
              try rw [ht] at h_2
              refine ⟨⟨(n2, l7, l9, (wrap .i64 (add v2 1))), h_2⟩, Wk.of [(0, some 0), (1, some 1), (2, some 2), (3, some 3), (5, some 5)] rfl rfl ?_ ?_, Nat.lt_succ_self _⟩
              · cbv
                all_goals try rw [show (dlen (d_Item w3)) = (dlen (d_Item l7)) from (hnl7).trans (dlen_Item hg ht _).symm]
                all_goals try rw [show (dlen (d_InletF w4)) = (dlen (d_InletF l9)) from (hnl9).trans (dlen_InletF hg ht _).symm]
                all_goals exact ⟨⟨_, rfl, rfl⟩, ⟨_, rfl, rfl⟩, trivial⟩
              · cbv
                all_goals try rw [show (dlen (d_Item w3)) = (dlen (d_Item l7)) from (hnl7).trans (dlen_Item hg ht _).symm]
                all_goals try rw [show (dlen (d_InletF w4)) = (dlen (d_InletF l9)) from (hnl9).trans (dlen_InletF hg ht _).symm]
                all_goals exact ⟨⟨_, rfl, rfl⟩, ⟨_, rfl, rfl⟩, ⟨_, rfl, rfl⟩, ⟨_, rfl, rfl⟩, ⟨_, rfl, _, rfl, rfl, rfl, rfl, rfl, rfl, trivial⟩, trivial⟩
            | false =>
              rw [br_false hb7] at h_2
              cbv
              try rw [hg] at h_2
              try rw [ht] at h_2
              refine ⟨⟨(n2, w3, w4, (wrap .i64 (add v2 1))), h_2⟩, Wk.of [(0, some 0), (1, some 1), (2, some 2), (3, some 3), (5, some 5)] rfl rfl ?_ ?_, Nat.lt_succ_self _⟩
              · cbv
                all_goals exact ⟨⟨_, rfl, rfl⟩, ⟨_, rfl, rfl⟩, trivial⟩
              · cbv
                all_goals exact ⟨⟨_, rfl, rfl⟩, ⟨_, rfl, rfl⟩, ⟨_, rfl, rfl⟩, ⟨_, rfl, rfl⟩, ⟨_, rfl, _, rfl, rfl, rfl, rfl, rfl, rfl, trivial⟩, trivial⟩
          | false =>
            rw [br_false hb6] at h_2
            cbv
            try (rw [hb6]; cbv)
            try (rw [hb6]; cbv)
            try (rw [hb6]; cbv)
            try (rw [hb6]; cbv)
            try (rw [hb6]; cbv)
            try (rw [hb6]; cbv)
            try (rw [hb6]; cbv)
            try (rw [hb6]; cbv)
            try (rw [hb6]; cbv)
            try (rw [hb6]; cbv)
            try (rw [hb6]; cbv)
            try (rw [hb6]; cbv)
            try (rw [hb6]; cbv)
            try (rw [hb6]; cbv)
            try (rw [hb6]; cbv)
            try (rw [hb6]; cbv)
            try rw [hg] at h_2
            try rw [ht] at h_2
            refine ⟨⟨(n2, w3, w4, (wrap .i64 (add v2 1))), h_2⟩, Wk.of [(0, some 0), (1, some 1), (2, some 2), (3, some 3), (5, some 5)] rfl rfl ?_ ?_, Nat.lt_succ_self _⟩
            · cbv
              all_goals exact ⟨⟨_, rfl, rfl⟩, ⟨_, rfl, rfl⟩, trivial⟩
            · cbv
              all_goals exact ⟨⟨_, rfl, rfl⟩, ⟨_, rfl, rfl⟩, ⟨_, rfl, rfl⟩, ⟨_, rfl, rfl⟩, ⟨_, rfl, _, rfl, rfl, rfl, rfl, rfl, rfl, trivial⟩, trivial⟩
        | false =>
          rw [br_false hb5] at h_2
          cbv
          refine ⟨(w3, w4), Wk.of [(0, some 0), (1, some 1), (2, some 2), (3, some 3), (5, some 5)] rfl rfl ?_ ?_, (Option.some.inj h_2).symm⟩
          · cbv
            all_goals exact ⟨⟨_, rfl, rfl⟩, trivial⟩
          · cbv
            all_goals exact ⟨⟨_, rfl, rfl⟩, ⟨_, rfl, rfl⟩, ⟨_, rfl, rfl⟩, ⟨_, rfl, rfl⟩, ⟨_, rfl, _, rfl, rfl, rfl, rfl, rfl, rfl, trivial⟩, trivial⟩
    · rintro ⟨y2_1, y2_2⟩ hy2
      replace hy2 := hy2.symm
      subst hy2
      try dsimp only [lr, lrL, lrp, lrpL] at h
      cbv
      obtain rfl := Option.some.inj h
      exact ARetM.mk ⟨⟨rfl, (dlen_Item hg ht _)⟩, ⟨⟨rfl, (dlen_Chute hg ht _)⟩, ⟨⟨rfl, (dlen_InletF hg ht _)⟩, ⟨rfl, (dlen_I64 hg ht _)⟩⟩⟩⟩ hX.symm hY.symm
end Go.Vs
