/- Part of the proofs of this seat's laws: Laf. No condition. -/
import Derived.Test.YtieeagobedjogaaTy
import Derived.Test.YtieeagobedjogaaTIRall
import Derived.Test.YtieeagobedjogaaLab
import Derived.Test.YtieeagobedjogaaLac
import Derived.Test.YtieeagobedjogaaLaa
set_option linter.unusedVariables false
set_option linter.unusedSimpArgs false
set_option linter.unusedSectionVars false
namespace Go.Vs
set_option maxRecDepth 100000
def ir69 : J :=
  .seq (.reg none [⟨(some 3), none, .box (.t 0)⟩,
     ⟨(some 5), none, .box (.t 2)⟩,
     ⟨(some 6), none, .alloc [.n 2, .n 3, .n 2, .n 1, .r (.v (.int .i64 0))]⟩,
     ⟨(some 7), none, .mv (.k (V.b false))⟩] [1, 3, 5, 6])
  (.seq (.reg none [⟨(some 9), none, .ld true 5 (.t 3)⟩,
     ⟨(some 10), none, .call 106 true [(.t 9)]⟩,
     ⟨(some 8), none, .alloc [.n 2, .n 3, .n 2, .n 1, .r (.v (.int .i64 0))]⟩,
     ⟨none, none, .st 5 (.t 8) (.t 10)⟩] [1, 3, 5, 6, 8])
  (.seq (.seq (.reg none [⟨(some 11), none, .ld true 5 (.t 3)⟩,
      ⟨(some 12), none, .call 31 true [(.t 11)]⟩,
      ⟨(some 13), none, .not (.t 12)⟩,
      ⟨(some 14), none, .mv (.t 13)⟩,
      ⟨(some 15), (some (14, false)), .mv (.t 1)⟩,
      ⟨(some 16), (some (14, false)), .fa 2 (.t 3)⟩,
      ⟨(some 17), (some (14, false)), .ld false 1 (.t 16)⟩,
      ⟨(some 18), (some (14, false)), .len false (.t 17)⟩,
      ⟨(some 19), (some (14, false)), .bin .sub .i (.t 18) (.k (V.i 1))⟩,
      ⟨(some 20), (some (14, false)), .call 85 true [(.t 15), (.k (V.i 0)), (.t 19)]⟩,
      ⟨(some 21), (some (14, false)), .not (.t 20)⟩,
      ⟨(some 22), none, .pick (.t 14) (.k (V.b true)) (.t 21)⟩] [1, 3, 5, 6, 8, 22])
   (.cond (.t 22)
    (.seq (.reg none [⟨(some 23), none, .ld true 5 (.t 8)⟩,
        ⟨none, none, .st 5 (.t 6) (.t 23)⟩,
        ⟨(some 7), none, .mv (.k (V.b false))⟩] [6, 7])
     (.ret))
    (.skip)))
  (.seq (.gh (.ga (.reg (some [[], [0], [], [], [3], [], [3, 4, 5], [3, 4, 5, 6], [3, 4, 5, 6, 7], [], [9], [3, 4, 5, 6, 7, 8, 9, 10], [0, 1, 2, 3, 4, 5, 6, 7, 8, 9, 10, 11], [0, 1, 2, 3, 4, 5, 6, 7, 8, 9, 10, 11, 12], [0, 1, 2, 3, 4, 5, 6, 7, 8, 9, 10, 11, 12, 13]]) [⟨(some 24), none, .fa 2 (.t 8)⟩,
      ⟨(some 25), none, .ld false 1 (.t 24)⟩,
      ⟨(some 26), none, .mv (.t 1)⟩,
      ⟨(some 27), none, .fa 2 (.t 8)⟩,
      ⟨(some 28), none, .ld false 1 (.t 27)⟩,
      ⟨(some 29), none, .mv (.t 1)⟩,
      ⟨(some 30), none, .ia 2 (.t 28) (.t 29)⟩,
      ⟨(some 31), none, .fa 1 (.t 30)⟩,
      ⟨(some 32), none, .ld false 1 (.t 31)⟩,
      ⟨(some 33), none, .ld true 2 (.t 5)⟩,
      ⟨(some 34), none, .bsl 2 [(.t 33)]⟩,
      ⟨(some 35), none, .app 2 16 true (.t 32) (.t 34)⟩,
      ⟨(some 36), none, .ia 2 (.t 25) (.t 26)⟩,
      ⟨(some 37), none, .fa 1 (.t 36)⟩,
      ⟨none, none, .st 1 (.t 37) (.t 35)⟩] [3, 6, 8])))
  (.seq (.seq (.reg none [⟨(some 38), none, .ld true 5 (.t 8)⟩,
      ⟨(some 39), none, .call 31 true [(.t 38)]⟩,
      ⟨(some 40), none, .not (.t 39)⟩] [3, 6, 8, 40])
   (.cond (.t 40)
    (.seq (.reg none [⟨(some 41), none, .ld true 5 (.t 3)⟩,
        ⟨(some 42), none, .call 106 true [(.t 41)]⟩,
        ⟨none, none, .st 5 (.t 6) (.t 42)⟩,
        ⟨(some 7), none, .mv (.k (V.b false))⟩] [6, 7])
     (.ret))
    (.skip)))
  (.seq (.reg none [⟨(some 43), none, .ld true 5 (.t 8)⟩,
     ⟨none, none, .st 5 (.t 6) (.t 43)⟩,
     ⟨(some 7), none, .mv (.k (V.b true))⟩] [6, 7])
  (.ret))))))
def rv69 : List RV := [.c 6 true 5, .t 7]
open Go.Proofs Go.IntWalk
set_option linter.unusedVariables false
set_option maxRecDepth 100000
set_option maxHeartbeats 4000000
def S_FeedCentre (g : G) (t : TE) (a0 : Centre) (a1 : Int) (a2 : Item) : Option (Centre × Bool) :=
  cl (S_l7Copy g t a0) fun x1 =>
  cl (S_IsCentre g t a0) fun x2 =>
  br x2
  (
   lP (S_l1In g t a1 0 (g.wrap .i64 (g.sub (g.llen (t.r_Inlet a0.Inlets)) 1))) fun x3 =>
   br x3
   (
    gt x1.Inlets (g.nat a1) fun x4 =>
    gd (((0 : Int) ≤ a1 ∧ a1 < (((g.dlen (t.d_Inlet x1.Inlets)) : Nat) : Int))) <|
    lP ([a2]) fun (l1 : List Item) =>
    gd (((x4.Wait.length + l1.length) * 16 ≤ 70368744177664)) <|
    lP (x4.Wait ++ l1) fun (l2 : List Item) =>
    gd (((0 : Int) ≤ a1 ∧ a1 < (((g.dlen (t.d_Inlet x1.Inlets)) : Nat) : Int))) <|
    lP (List.set x1.Inlets (g.nat a1) (Inlet.mk x4.Cell l2)) fun (l3 : List Inlet) =>
    cl (S_IsCentre g t (Centre.mk x1.Belt x1.Chutes l3 x1.Plan x1.Now)) fun x5 =>
    br x5
    (
     some (((Centre.mk x1.Belt x1.Chutes l3 x1.Plan x1.Now), true)))
    (
     cl (S_l7Copy g t a0) fun x6 =>
     some ((x6, false))))
   (
    some ((x1, false))))
  (
   some ((x1, false)))
theorem fit69 : codeFit Try.prog Try.f69.ntmps (Try.f69.body.getD .skip) ir69 = true := by kernel_rfl
theorem c_S_FeedCentre {g : G} {t : TE} {a0 : Centre} {a1 : Int} {a2 : Item} {r : Centre × Bool} (hg : g = G.real) (ht : t = TE.real) (h : S_FeedCentre g t a0 a1 a2 = some r) : Fn Try.prog 69 [.g (Centre.rs t a0), .c (.v (.int .i64 a1)), .g (Item.rs t a2)] (.u [.g (Centre.ds t r.1), .c (.r (.v (.bool r.2)))]) := by
  obtain ⟨X, hX⟩ := hide (.u [.g (Centre.ds t r.1), .c (.r (.v (.bool r.2)))] : X)
  rw [← hX]
  refine fn_of (rvs := rv69) (j := ir69) Try.func69 rfl fit69 (Nat.le_of_ble_eq_true rfl) (by kernel_rfl) prog_mixed ?_
  intro g2 F hg2 hF
  obtain rfl : g2 = g := hg2.unique.trans hg.symm
  clear hg2
  obtain ⟨wrap, lt, le, eq, quo, rem, band, bor, bxor, shl, shr, nat, int, add, sub, mul, cat, seq, slt, sub3, byte, llen, nadd, nsub, dlen, dapp, dset, drep, rd, rda, up, rsub, dsub, all, sle, slen, hasI, putI, hasS, putS, imin, imax, fzc⟩ := g2
  obtain ⟨r_Item, d_Item, r_Chute, d_Chute, r_Inlet, d_Inlet, r_I64, d_I64, r_U8, d_U8⟩ := t
  obtain ⟨a0_Belt, a0_Chutes, a0_Inlets, a0_Plan, a0_Now⟩ := a0
  obtain ⟨a2_Id, a2_Dest⟩ := a2
  unfold S_FeedCentre at h
  try dsimp only at h
  cbv
  obtain ⟨x1, hx1, h⟩ := of_cl h
  obtain ⟨x1_Belt, x1_Chutes, x1_Inlets, x1_Plan, x1_Now⟩ := x1
  try dsimp only at h
  refine ACall.mk _ _ rfl (hF _ _ _ (c_S_l7Copy hg ht hx1)) (.inl rfl) (Nat.le_of_ble_eq_true rfl) ?_
  cbv
  obtain ⟨x2, hx2, h⟩ := of_cl h
  try dsimp only at h
  refine ACall.mk _ _ rfl (hF _ _ _ (c_S_IsCentre hg ht hx2)) (.inl rfl) (Nat.le_of_ble_eq_true rfl) ?_
  cbv
  cases hb1 : x2 with
  | true =>
    rw [br_true hb1] at h
    cbv
    try (rw [hb1]; cbv)
    try (rw [hb1]; cbv)
    try (rw [hb1]; cbv)
    try (rw [hb1]; cbv)
    try (rw [hb1]; cbv)
    obtain ⟨x3, hx3, h⟩ := of_lP h
    try dsimp only at h
    refine ACall.mk _ _ rfl (hF _ _ _ (c_S_l1In hg ht hx3)) (.inl rfl) (Nat.le_of_ble_eq_true rfl) ?_
    cbv
    try (rw [hb1]; cbv)
    try (rw [hb1]; cbv)
    cases hb2 : x3 with
    | true =>
      rw [br_true hb2] at h
      cbv
      obtain ⟨x4, hx4, h⟩ := of_gt h
      obtain ⟨x4_Cell, x4_Wait⟩ := x4
      try dsimp only at h
      refine AGh.opn 82 2 (nat a1) (d_Inlet x1_Inlets) _ rfl (d_get_Inlet hg ht hx4) rfl ?_
      cbv
      refine AGh.nil ?_
      cbv
      obtain ⟨hc1, h⟩ := of_gd h
      refine AStep.mk hc1 ?_
      cbv
      refine AStep.mk rfl ?_
      cbv
      obtain ⟨l1, hl1, h⟩ := of_lP h
      try dsimp only at h
      refine ANew.mk (d_Item l1) (dlen (d_Item l1)) (by rw [← hl1]; exact lit_Item hg ht [(Item.mk a2_Id a2_Dest)]) (by rw [← hl1]; exact litn_Item hg ht [(Item.mk a2_Id a2_Dest)]) ?_
      cbv
      obtain ⟨hc3, h⟩ := of_gd h
      refine AStep.mk ⟨⟨rfl, (dlen_Item hg ht _)⟩, (app_ok_Item hg ht (dlen_Item hg ht _) rfl hc3)⟩ ?_
      cbv
      obtain ⟨l2, hl2, h⟩ := of_lP h
      try dsimp only at h
      refine ANew.mk (d_Item l2) (dlen (d_Item l2)) (by rw [← hl2]; exact app_Item hg ht (dlen_Item hg ht _) rfl) (by rw [← hl2]; exact appl_Item hg ht (dlen_Item hg ht _) rfl) ?_
      cbv
      obtain ⟨hc2, h⟩ := of_gd h
      refine AStep.mk hc2 ?_
      cbv
      refine AStep.mk rfl ?_
      cbv
      obtain ⟨l3, hl3, h⟩ := of_lP h
      try dsimp only at h
      refine AGh.cls 82 2 (nat a1) (d_Inlet x1_Inlets) _ _ _ _ (d_Inlet l3) rfl rfl ⟨rfl, (dlen_Item hg ht _)⟩ (by rw [← hl3]; exact dset_Inlet hg ht _ _ (Inlet.mk x4_Cell l2)) ?_
      have hnl3 : (dlen (d_Inlet x1_Inlets)) = (d_Inlet l3).length := (by rw [← hl3, dsetl_Inlet ht]; exact (dlen_Inlet hg ht _))
      cbv
      refine AGh.nil ?_
      cbv
      refine AStep.mk ⟨(lend_Item ht (dlen_Item hg ht _)), ⟨(lend_Chute ht (dlen_Chute hg ht _)), ⟨(lend_Inlet ht hnl3), (lend_I64 ht (dlen_I64 hg ht _))⟩⟩⟩ ?_
      cbv
      obtain ⟨x5, hx5, h⟩ := of_cl h
      try dsimp only at h
      refine ACall.mk _ _ (by rw [show rd (d_Item x1_Belt) 0 (dlen (d_Item x1_Belt)) = r_Item x1_Belt from rdw_Item hg ht (dlen_Item hg ht _), show rd (d_Chute x1_Chutes) 0 (dlen (d_Chute x1_Chutes)) = r_Chute x1_Chutes from rdw_Chute hg ht (dlen_Chute hg ht _), show rd (d_Inlet l3) 0 (dlen (d_Inlet x1_Inlets)) = r_Inlet l3 from rdw_Inlet hg ht hnl3, show rd (d_I64 x1_Plan) 0 (dlen (d_I64 x1_Plan)) = r_I64 x1_Plan from rdw_I64 hg ht (dlen_I64 hg ht _)]; try rfl) (hF _ _ _ (c_S_IsCentre hg ht hx5)) (.inr rfl) (Nat.le_of_ble_eq_true rfl) ?_
      cbv
      cases hb3 : x5 with
      | true =>
        rw [br_true hb3] at h
        cbv
        obtain rfl := Option.some.inj h
        exact ARet.mk ⟨⟨rfl, (dlen_Item hg ht _)⟩, ⟨⟨rfl, (dlen_Chute hg ht _)⟩, ⟨⟨rfl, hnl3⟩, ⟨rfl, (dlen_I64 hg ht _)⟩⟩⟩⟩ hX.symm
      | false =>
        rw [br_false hb3] at h
        cbv
        obtain ⟨x6, hx6, h⟩ := of_cl h
        obtain ⟨x6_Belt, x6_Chutes, x6_Inlets, x6_Plan, x6_Now⟩ := x6
        try dsimp only at h
        refine ACall.mk _ _ rfl (hF _ _ _ (c_S_l7Copy hg ht hx6)) (.inl rfl) (Nat.le_of_ble_eq_true rfl) ?_
        cbv
        obtain rfl := Option.some.inj h
        exact ARet.mk ⟨⟨rfl, (dlen_Item hg ht _)⟩, ⟨⟨rfl, (dlen_Chute hg ht _)⟩, ⟨⟨rfl, (dlen_Inlet hg ht _)⟩, ⟨rfl, (dlen_I64 hg ht _)⟩⟩⟩⟩ hX.symm
    | false =>
      rw [br_false hb2] at h
      cbv
      obtain rfl := Option.some.inj h
      exact ARet.mk ⟨⟨rfl, (dlen_Item hg ht _)⟩, ⟨⟨rfl, (dlen_Chute hg ht _)⟩, ⟨⟨rfl, (dlen_Inlet hg ht _)⟩, ⟨rfl, (dlen_I64 hg ht _)⟩⟩⟩⟩ hX.symm
  | false =>
    rw [br_false hb1] at h
    cbv
    try (rw [hb1]; cbv)
    try (rw [hb1]; cbv)
    try (rw [hb1]; cbv)
    try (rw [hb1]; cbv)
    try (rw [hb1]; cbv)
    try (rw [hb1]; cbv)
    try (rw [hb1]; cbv)
    obtain rfl := Option.some.inj h
    exact ARet.mk ⟨⟨rfl, (dlen_Item hg ht _)⟩, ⟨⟨rfl, (dlen_Chute hg ht _)⟩, ⟨⟨rfl, (dlen_Inlet hg ht _)⟩, ⟨rfl, (dlen_I64 hg ht _)⟩⟩⟩⟩ hX.symm
end Go.Vs
namespace Go.Vs
set_option maxRecDepth 100000
def ir71 : J :=
  .seq (.reg none [⟨(some 3), none, .box (.t 0)⟩,
     ⟨(some 5), none, .box (.t 2)⟩,
     ⟨(some 6), none, .alloc [.n 2, .n 3, .n 2, .n 1, .r (.v (.int .i64 0))]⟩,
     ⟨(some 7), none, .mv (.k (V.b false))⟩] [1, 3, 5, 6])
  (.seq (.reg none [⟨(some 9), none, .ld true 5 (.t 3)⟩,
     ⟨(some 10), none, .call 94 true [(.t 9)]⟩,
     ⟨(some 8), none, .alloc [.n 2, .n 3, .n 2, .n 1, .r (.v (.int .i64 0))]⟩,
     ⟨none, none, .st 5 (.t 8) (.t 10)⟩] [1, 3, 5, 6, 8])
  (.seq (.seq (.reg none [⟨(some 11), none, .ld true 5 (.t 3)⟩,
      ⟨(some 12), none, .call 32 true [(.t 11)]⟩,
      ⟨(some 13), none, .not (.t 12)⟩,
      ⟨(some 14), none, .mv (.t 13)⟩,
      ⟨(some 15), (some (14, false)), .mv (.t 1)⟩,
      ⟨(some 16), (some (14, false)), .bin .lss .i (.t 15) (.k (V.i 0))⟩,
      ⟨(some 17), none, .pick (.t 14) (.k (V.b true)) (.t 16)⟩,
      ⟨(some 18), none, .mv (.t 17)⟩,
      ⟨(some 19), (some (18, false)), .mv (.t 1)⟩,
      ⟨(some 20), (some (18, false)), .fa 2 (.t 3)⟩,
      ⟨(some 21), (some (18, false)), .ld false 1 (.t 20)⟩,
      ⟨(some 22), (some (18, false)), .len false (.t 21)⟩,
      ⟨(some 23), (some (18, false)), .bin .geq .i (.t 19) (.t 22)⟩,
      ⟨(some 24), none, .pick (.t 18) (.k (V.b true)) (.t 23)⟩] [1, 3, 5, 6, 8, 24])
   (.cond (.t 24)
    (.seq (.reg none [⟨(some 25), none, .ld true 5 (.t 8)⟩,
        ⟨none, none, .st 5 (.t 6) (.t 25)⟩,
        ⟨(some 7), none, .mv (.k (V.b false))⟩] [6, 7])
     (.ret))
    (.skip)))
  (.seq (.gh (.ga (.reg (some [[], [0], [], [], [3], [], [3, 4, 5], [3, 4, 5, 6], [3, 4, 5, 6, 7], [], [9], [3, 4, 5, 6, 7, 8, 9, 10], [0, 1, 2, 3, 4, 5, 6, 7, 8, 9, 10, 11], [0, 1, 2, 3, 4, 5, 6, 7, 8, 9, 10, 11, 12], [0, 1, 2, 3, 4, 5, 6, 7, 8, 9, 10, 11, 12, 13]]) [⟨(some 26), none, .fa 2 (.t 8)⟩,
      ⟨(some 27), none, .ld false 1 (.t 26)⟩,
      ⟨(some 28), none, .mv (.t 1)⟩,
      ⟨(some 29), none, .fa 2 (.t 8)⟩,
      ⟨(some 30), none, .ld false 1 (.t 29)⟩,
      ⟨(some 31), none, .mv (.t 1)⟩,
      ⟨(some 32), none, .ia 2 (.t 30) (.t 31)⟩,
      ⟨(some 33), none, .fa 1 (.t 32)⟩,
      ⟨(some 34), none, .ld false 1 (.t 33)⟩,
      ⟨(some 35), none, .ld true 2 (.t 5)⟩,
      ⟨(some 36), none, .bsl 2 [(.t 35)]⟩,
      ⟨(some 37), none, .app 2 16 true (.t 34) (.t 36)⟩,
      ⟨(some 38), none, .ia 2 (.t 27) (.t 28)⟩,
      ⟨(some 39), none, .fa 1 (.t 38)⟩,
      ⟨none, none, .st 1 (.t 39) (.t 37)⟩] [3, 6, 8])))
  (.seq (.seq (.reg none [⟨(some 40), none, .ld true 5 (.t 8)⟩,
      ⟨(some 41), none, .call 32 true [(.t 40)]⟩,
      ⟨(some 42), none, .not (.t 41)⟩] [3, 6, 8, 42])
   (.cond (.t 42)
    (.seq (.reg none [⟨(some 43), none, .ld true 5 (.t 3)⟩,
        ⟨(some 44), none, .call 94 true [(.t 43)]⟩,
        ⟨none, none, .st 5 (.t 6) (.t 44)⟩,
        ⟨(some 7), none, .mv (.k (V.b false))⟩] [6, 7])
     (.ret))
    (.skip)))
  (.seq (.reg none [⟨(some 45), none, .ld true 5 (.t 8)⟩,
     ⟨none, none, .st 5 (.t 6) (.t 45)⟩,
     ⟨(some 7), none, .mv (.k (V.b true))⟩] [6, 7])
  (.ret))))))
def rv71 : List RV := [.c 6 true 5, .t 7]
open Go.Proofs Go.IntWalk
set_option linter.unusedVariables false
set_option maxRecDepth 100000
set_option maxHeartbeats 4000000
def I_FeedCentre (g : G) (t : TE) (a0 : Centre) (a1 : Int) (a2 : Item) : Option (Centre × Bool) :=
  cl (I_copyCentre g t a0) fun x1 =>
  cl (I_IsCentre g t a0) fun x2 =>
  br x2
  (
   br (g.lt a1 0)
   (
    some ((x1, false)))
   (
    br (g.le (g.llen (t.r_Inlet a0.Inlets)) a1)
    (
     some ((x1, false)))
    (
     gt x1.Inlets (g.nat a1) fun x3 =>
     gd (((0 : Int) ≤ a1 ∧ a1 < (((g.dlen (t.d_Inlet x1.Inlets)) : Nat) : Int))) <|
     lP ([a2]) fun (l1 : List Item) =>
     gd (((x3.Wait.length + l1.length) * 16 ≤ 70368744177664)) <|
     lP (x3.Wait ++ l1) fun (l2 : List Item) =>
     gd (((0 : Int) ≤ a1 ∧ a1 < (((g.dlen (t.d_Inlet x1.Inlets)) : Nat) : Int))) <|
     lP (List.set x1.Inlets (g.nat a1) (Inlet.mk x3.Cell l2)) fun (l3 : List Inlet) =>
     cl (I_IsCentre g t (Centre.mk x1.Belt x1.Chutes l3 x1.Plan x1.Now)) fun x4 =>
     br x4
     (
      some (((Centre.mk x1.Belt x1.Chutes l3 x1.Plan x1.Now), true)))
     (
      cl (I_copyCentre g t a0) fun x5 =>
      some ((x5, false))))))
  (
   some ((x1, false)))
theorem fit71 : codeFit Try.prog Try.f71.ntmps (Try.f71.body.getD .skip) ir71 = true := by kernel_rfl
theorem c_I_FeedCentre {g : G} {t : TE} {a0 : Centre} {a1 : Int} {a2 : Item} {r : Centre × Bool} (hg : g = G.real) (ht : t = TE.real) (h : I_FeedCentre g t a0 a1 a2 = some r) : Fn Try.prog 71 [.g (Centre.rs t a0), .c (.v (.int .i64 a1)), .g (Item.rs t a2)] (.u [.g (Centre.ds t r.1), .c (.r (.v (.bool r.2)))]) := by
  obtain ⟨X, hX⟩ := hide (.u [.g (Centre.ds t r.1), .c (.r (.v (.bool r.2)))] : X)
  rw [← hX]
  refine fn_of (rvs := rv71) (j := ir71) Try.func71 rfl fit71 (Nat.le_of_ble_eq_true rfl) (by kernel_rfl) prog_mixed ?_
  intro g2 F hg2 hF
  obtain rfl : g2 = g := hg2.unique.trans hg.symm
  clear hg2
  obtain ⟨wrap, lt, le, eq, quo, rem, band, bor, bxor, shl, shr, nat, int, add, sub, mul, cat, seq, slt, sub3, byte, llen, nadd, nsub, dlen, dapp, dset, drep, rd, rda, up, rsub, dsub, all, sle, slen, hasI, putI, hasS, putS, imin, imax, fzc⟩ := g2
  obtain ⟨r_Item, d_Item, r_Chute, d_Chute, r_Inlet, d_Inlet, r_I64, d_I64, r_U8, d_U8⟩ := t
  obtain ⟨a0_Belt, a0_Chutes, a0_Inlets, a0_Plan, a0_Now⟩ := a0
  obtain ⟨a2_Id, a2_Dest⟩ := a2
  unfold I_FeedCentre at h
  try dsimp only at h
  cbv
  obtain ⟨x1, hx1, h⟩ := of_cl h
  obtain ⟨x1_Belt, x1_Chutes, x1_Inlets, x1_Plan, x1_Now⟩ := x1
  try dsimp only at h
  refine ACall.mk _ _ rfl (hF _ _ _ (c_I_copyCentre hg ht hx1)) (.inl rfl) (Nat.le_of_ble_eq_true rfl) ?_
  cbv
  obtain ⟨x2, hx2, h⟩ := of_cl h
  try dsimp only at h
  refine ACall.mk _ _ rfl (hF _ _ _ (c_I_IsCentre hg ht hx2)) (.inl rfl) (Nat.le_of_ble_eq_true rfl) ?_
  cbv
  cases hb1 : x2 with
  | true =>
    rw [br_true hb1] at h
    cbv
    try (rw [hb1]; cbv)
    try (rw [hb1]; cbv)
    cases hb2 : (lt a1 0) with
    | true =>
      rw [br_true hb2] at h
      cbv
      try (rw [hb2]; cbv)
      try (rw [hb2]; cbv)
      try (rw [hb2]; cbv)
      try (rw [hb2]; cbv)
      try (rw [hb2]; cbv)
      obtain rfl := Option.some.inj h
      exact ARet.mk ⟨⟨rfl, (dlen_Item hg ht _)⟩, ⟨⟨rfl, (dlen_Chute hg ht _)⟩, ⟨⟨rfl, (dlen_Inlet hg ht _)⟩, ⟨rfl, (dlen_I64 hg ht _)⟩⟩⟩⟩ hX.symm
    | false =>
      rw [br_false hb2] at h
      cbv
      try (rw [hb2]; cbv)
      try (rw [hb2]; cbv)
      try (rw [hb2]; cbv)
      try (rw [hb2]; cbv)
      try (rw [hb2]; cbv)
      cases hb3 : (le (llen (r_Inlet a0_Inlets)) a1) with
      | true =>
        rw [br_true hb3] at h
        cbv
        obtain rfl := Option.some.inj h
        exact ARet.mk ⟨⟨rfl, (dlen_Item hg ht _)⟩, ⟨⟨rfl, (dlen_Chute hg ht _)⟩, ⟨⟨rfl, (dlen_Inlet hg ht _)⟩, ⟨rfl, (dlen_I64 hg ht _)⟩⟩⟩⟩ hX.symm
      | false =>
        rw [br_false hb3] at h
        cbv
        obtain ⟨x3, hx3, h⟩ := of_gt h
        obtain ⟨x3_Cell, x3_Wait⟩ := x3
        try dsimp only at h
        refine AGh.opn 82 2 (nat a1) (d_Inlet x1_Inlets) _ rfl (d_get_Inlet hg ht hx3) rfl ?_
        cbv
        refine AGh.nil ?_
        cbv
        obtain ⟨hc1, h⟩ := of_gd h
        refine AStep.mk hc1 ?_
        cbv
        refine AStep.mk rfl ?_
        cbv
        obtain ⟨l1, hl1, h⟩ := of_lP h
        try dsimp only at h
        refine ANew.mk (d_Item l1) (dlen (d_Item l1)) (by rw [← hl1]; exact lit_Item hg ht [(Item.mk a2_Id a2_Dest)]) (by rw [← hl1]; exact litn_Item hg ht [(Item.mk a2_Id a2_Dest)]) ?_
        cbv
        obtain ⟨hc3, h⟩ := of_gd h
        refine AStep.mk ⟨⟨rfl, (dlen_Item hg ht _)⟩, (app_ok_Item hg ht (dlen_Item hg ht _) rfl hc3)⟩ ?_
        cbv
        obtain ⟨l2, hl2, h⟩ := of_lP h
        try dsimp only at h
        refine ANew.mk (d_Item l2) (dlen (d_Item l2)) (by rw [← hl2]; exact app_Item hg ht (dlen_Item hg ht _) rfl) (by rw [← hl2]; exact appl_Item hg ht (dlen_Item hg ht _) rfl) ?_
        cbv
        obtain ⟨hc2, h⟩ := of_gd h
        refine AStep.mk hc2 ?_
        cbv
        refine AStep.mk rfl ?_
        cbv
        obtain ⟨l3, hl3, h⟩ := of_lP h
        try dsimp only at h
        refine AGh.cls 82 2 (nat a1) (d_Inlet x1_Inlets) _ _ _ _ (d_Inlet l3) rfl rfl ⟨rfl, (dlen_Item hg ht _)⟩ (by rw [← hl3]; exact dset_Inlet hg ht _ _ (Inlet.mk x3_Cell l2)) ?_
        have hnl3 : (dlen (d_Inlet x1_Inlets)) = (d_Inlet l3).length := (by rw [← hl3, dsetl_Inlet ht]; exact (dlen_Inlet hg ht _))
        cbv
        refine AGh.nil ?_
        cbv
        refine AStep.mk ⟨(lend_Item ht (dlen_Item hg ht _)), ⟨(lend_Chute ht (dlen_Chute hg ht _)), ⟨(lend_Inlet ht hnl3), (lend_I64 ht (dlen_I64 hg ht _))⟩⟩⟩ ?_
        cbv
        obtain ⟨x4, hx4, h⟩ := of_cl h
        try dsimp only at h
        refine ACall.mk _ _ (by rw [show rd (d_Item x1_Belt) 0 (dlen (d_Item x1_Belt)) = r_Item x1_Belt from rdw_Item hg ht (dlen_Item hg ht _), show rd (d_Chute x1_Chutes) 0 (dlen (d_Chute x1_Chutes)) = r_Chute x1_Chutes from rdw_Chute hg ht (dlen_Chute hg ht _), show rd (d_Inlet l3) 0 (dlen (d_Inlet x1_Inlets)) = r_Inlet l3 from rdw_Inlet hg ht hnl3, show rd (d_I64 x1_Plan) 0 (dlen (d_I64 x1_Plan)) = r_I64 x1_Plan from rdw_I64 hg ht (dlen_I64 hg ht _)]; try rfl) (hF _ _ _ (c_I_IsCentre hg ht hx4)) (.inr rfl) (Nat.le_of_ble_eq_true rfl) ?_
        cbv
        cases hb4 : x4 with
        | true =>
          rw [br_true hb4] at h
          cbv
          obtain rfl := Option.some.inj h
          exact ARet.mk ⟨⟨rfl, (dlen_Item hg ht _)⟩, ⟨⟨rfl, (dlen_Chute hg ht _)⟩, ⟨⟨rfl, hnl3⟩, ⟨rfl, (dlen_I64 hg ht _)⟩⟩⟩⟩ hX.symm
        | false =>
          rw [br_false hb4] at h
          cbv
          obtain ⟨x5, hx5, h⟩ := of_cl h
          obtain ⟨x5_Belt, x5_Chutes, x5_Inlets, x5_Plan, x5_Now⟩ := x5
          try dsimp only at h
          refine ACall.mk _ _ rfl (hF _ _ _ (c_I_copyCentre hg ht hx5)) (.inl rfl) (Nat.le_of_ble_eq_true rfl) ?_
          cbv
          obtain rfl := Option.some.inj h
          exact ARet.mk ⟨⟨rfl, (dlen_Item hg ht _)⟩, ⟨⟨rfl, (dlen_Chute hg ht _)⟩, ⟨⟨rfl, (dlen_Inlet hg ht _)⟩, ⟨rfl, (dlen_I64 hg ht _)⟩⟩⟩⟩ hX.symm
  | false =>
    rw [br_false hb1] at h
    cbv
    try (rw [hb1]; cbv)
    try (rw [hb1]; cbv)
    obtain rfl := Option.some.inj h
    exact ARet.mk ⟨⟨rfl, (dlen_Item hg ht _)⟩, ⟨⟨rfl, (dlen_Chute hg ht _)⟩, ⟨⟨rfl, (dlen_Inlet hg ht _)⟩, ⟨rfl, (dlen_I64 hg ht _)⟩⟩⟩⟩ hX.symm
end Go.Vs
namespace Go.Vs
set_option maxRecDepth 100000
def ir19 : J :=
  .seq (.reg none [⟨(some 3), none, .box (.t 0)⟩,
     ⟨(some 5), none, .box (.t 2)⟩,
     ⟨(some 6), none, .mv (.k (V.b false))⟩] [1, 3, 5])
  (.seq (.reg none [⟨(some 7), none, .mv (.k (V.i 1048576))⟩] [1, 3, 5, 7])
  (.seq (.reg none [⟨(some 18), none, .ld true 5 (.t 3)⟩,
     ⟨(some 19), none, .mv (.t 7)⟩,
     ⟨(some 20), none, .call 24 true [(.t 18), (.t 19)]⟩,
     ⟨(some 7), none, .mv (.t 20)⟩] [1, 3, 5, 7])
  (.seq (.seq (.reg none [⟨(some 21), none, .mv (.t 7)⟩,
      ⟨(some 22), none, .bin .lss .i (.t 21) (.k (V.i 0))⟩] [1, 3, 5, 22])
   (.cond (.t 22)
    (.seq (.reg none [⟨(some 6), none, .mv (.k (V.b true))⟩] [6])
     (.ret))
    (.skip)))
  (.seq (.reg (some [[], [0], [], [], [0, 1, 3], [0, 1, 2, 3, 4], [0, 1, 2, 3, 4, 5], [0, 1, 2, 3, 4, 5, 6], [0, 1, 2, 3, 4, 5, 6], [], [0, 1, 2, 3, 4, 5, 6, 7, 9], [0, 1, 2, 3, 4, 5, 6, 7, 8, 9, 10]]) [⟨(some 24), none, .ld true 5 (.t 3)⟩,
     ⟨(some 25), none, .call 26 false [(.t 24)]⟩,
     ⟨(some 26), none, .mv (.t 1)⟩,
     ⟨(some 27), none, .ld true 2 (.t 5)⟩,
     ⟨(some 28), none, .call 70 true [(.t 27)]⟩,
     ⟨(some 29), none, .call 69 false [(.t 25), (.t 26), (.t 28)]⟩,
     ⟨(some 23), none, .mv (.t 29)⟩,
     ⟨(some 30), none, .ext 0 (.t 23)⟩,
     ⟨(some 31), none, .ext 1 (.t 23)⟩,
     ⟨(some 8), none, .alloc [.n 2, .n 3, .n 2, .n 1, .r (.v (.int .i64 0))]⟩,
     ⟨none, none, .st 5 (.t 8) (.t 30)⟩,
     ⟨(some 9), none, .mv (.t 31)⟩] [1, 3, 5, 8, 9])
  (.seq (.reg none [⟨(some 32), none, .ld true 5 (.t 3)⟩,
     ⟨(some 33), none, .call 26 true [(.t 32)]⟩,
     ⟨(some 10), none, .alloc [.n 2, .n 3, .n 2, .n 1, .r (.v (.int .i64 0))]⟩,
     ⟨none, none, .st 5 (.t 10) (.t 33)⟩] [1, 3, 5, 8, 9, 10])
  (.seq (.reg (some [[], [], [], [2], [0, 1, 2, 3], [0, 1, 2, 3, 4], [0, 1, 2, 3, 4, 5], [0, 1, 2, 3, 4, 5], [], [0, 1, 2, 3, 4, 5, 6, 8], [0, 1, 2, 3, 4, 5, 6, 7, 8, 9]]) [⟨(some 35), none, .ld true 5 (.t 10)⟩,
     ⟨(some 36), none, .mv (.t 1)⟩,
     ⟨(some 37), none, .ld true 2 (.t 5)⟩,
     ⟨(some 38), none, .call 70 true [(.t 37)]⟩,
     ⟨(some 39), none, .call 71 true [(.t 35), (.t 36), (.t 38)]⟩,
     ⟨(some 34), none, .mv (.t 39)⟩,
     ⟨(some 40), none, .ext 0 (.t 34)⟩,
     ⟨(some 41), none, .ext 1 (.t 34)⟩,
     ⟨(some 11), none, .alloc [.n 2, .n 3, .n 2, .n 1, .r (.v (.int .i64 0))]⟩,
     ⟨none, none, .st 5 (.t 11) (.t 40)⟩,
     ⟨(some 12), none, .mv (.t 41)⟩] [1, 3, 5, 8, 9, 10, 11, 12])
  (.seq (.seq (.reg none [⟨(some 42), none, .ld true 5 (.t 11)⟩,
      ⟨(some 43), none, .ld true 5 (.t 8)⟩,
      ⟨(some 44), none, .call 28 true [(.t 42), (.t 43)]⟩,
      ⟨(some 45), none, .not (.t 44)⟩,
      ⟨(some 46), none, .mv (.t 45)⟩,
      ⟨(some 47), (some (46, false)), .mv (.t 12)⟩,
      ⟨(some 48), (some (46, false)), .mv (.t 9)⟩,
      ⟨(some 49), (some (46, false)), .bin .neq .b (.t 47) (.t 48)⟩,
      ⟨(some 50), none, .pick (.t 46) (.k (V.b true)) (.t 49)⟩] [1, 3, 5, 8, 9, 10, 11, 12, 50])
   (.cond (.t 50)
    (.seq (.reg none [⟨(some 6), none, .mv (.k (V.b false))⟩] [6])
     (.ret))
    (.skip)))
  (.seq (.seq (.reg (some [[], [], [1], [0, 1, 2], [0, 1, 2, 3]]) [⟨(some 51), none, .ld true 5 (.t 10)⟩,
      ⟨(some 52), none, .ld true 5 (.t 3)⟩,
      ⟨(some 53), none, .call 26 false [(.t 52)]⟩,
      ⟨(some 54), none, .call 28 true [(.t 51), (.t 53)]⟩,
      ⟨(some 55), none, .not (.t 54)⟩] [1, 3, 5, 8, 9, 10, 11, 12, 55])
   (.cond (.t 55)
    (.seq (.reg none [⟨(some 6), none, .mv (.k (V.b false))⟩] [6])
     (.ret))
    (.skip)))
  (.seq (.reg none [⟨(some 13), none, .mv (.k (V.i 1))⟩] [1, 3, 5, 8, 9, 10, 11, 12, 13])
  (.seq (.reg none [⟨(some 56), none, .ld true 5 (.t 10)⟩,
     ⟨(some 57), none, .mv (.t 13)⟩,
     ⟨(some 58), none, .callm 49 (.t 56) [(.t 57)]⟩,
     ⟨(some 13), none, .mv (.t 58)⟩] [1, 3, 5, 8, 9, 11, 12, 13])
  (.seq (.seq (.reg none [⟨(some 59), none, .mv (.t 13)⟩,
      ⟨(some 60), none, .bin .lss .i (.t 59) (.k (V.i 0))⟩,
      ⟨(some 61), none, .mv (.t 60)⟩,
      ⟨(some 62), (some (61, false)), .ld true 5 (.t 11)⟩,
      ⟨(some 63), (some (61, false)), .ld true 5 (.t 8)⟩,
      ⟨(some 64), (some (61, false)), .call 28 true [(.t 62), (.t 63)]⟩,
      ⟨(some 65), (some (61, false)), .not (.t 64)⟩,
      ⟨(some 66), none, .pick (.t 61) (.k (V.b true)) (.t 65)⟩,
      ⟨(some 67), none, .mv (.t 66)⟩,
      ⟨(some 68), (some (67, false)), .mv (.t 12)⟩,
      ⟨(some 69), (some (67, false)), .mv (.t 9)⟩,
      ⟨(some 70), (some (67, false)), .bin .neq .b (.t 68) (.t 69)⟩,
      ⟨(some 71), none, .pick (.t 67) (.k (V.b true)) (.t 70)⟩] [1, 3, 5, 8, 9, 11, 71])
   (.cond (.t 71)
    (.seq (.reg none [⟨(some 6), none, .mv (.k (V.b false))⟩] [6])
     (.ret))
    (.skip)))
  (.seq (.reg none [⟨(some 14), none, .mv (.k (V.i 1))⟩] [1, 3, 5, 8, 9, 11, 14])
  (.seq (.reg none [⟨(some 72), none, .ld true 5 (.t 11)⟩,
     ⟨(some 73), none, .mv (.t 14)⟩,
     ⟨(some 74), none, .callm 49 (.t 72) [(.t 73)]⟩,
     ⟨(some 14), none, .mv (.t 74)⟩] [1, 3, 5, 8, 9, 11, 14])
  (.seq (.reg none [⟨(some 15), none, .mv (.k (V.i 1))⟩] [1, 3, 5, 8, 9, 11, 14, 15])
  (.seq (.reg none [⟨(some 75), none, .ld true 5 (.t 11)⟩,
     ⟨(some 76), none, .mv (.t 15)⟩,
     ⟨(some 77), none, .call 50 true [(.t 75), (.t 76)]⟩,
     ⟨(some 15), none, .mv (.t 77)⟩] [1, 3, 5, 8, 9, 11, 14, 15])
  (.seq (.seq (.reg none [⟨(some 78), none, .mv (.t 15)⟩,
      ⟨(some 79), none, .bin .lss .i (.t 78) (.k (V.i 0))⟩] [1, 3, 5, 8, 9, 11, 14, 15, 79])
   (.cond (.t 79)
    (.seq (.reg none [⟨(some 6), none, .mv (.k (V.b false))⟩] [6])
     (.ret))
    (.skip)))
  (.seq (.seq (.reg none [⟨(some 80), none, .mv (.t 15)⟩,
      ⟨(some 81), none, .mv (.t 14)⟩,
      ⟨(some 82), none, .bin .neq .i (.t 80) (.t 81)⟩] [1, 3, 5, 8, 9, 11, 14, 82])
   (.cond (.t 82)
    (.seq (.reg none [⟨(some 6), none, .mv (.k (V.b false))⟩] [6])
     (.ret))
    (.skip)))
  (.seq (.reg (some [[], [0], [], [], [0, 1, 3], [0, 1, 2, 3, 4], [0, 1, 2, 3, 4, 5], [0, 1, 2, 3, 4, 5, 6], [0, 1, 2, 3, 4, 5, 6], [], [0, 1, 2, 3, 4, 5, 6, 7, 9], [0, 1, 2, 3, 4, 5, 6, 7, 8, 9, 10]]) [⟨(some 84), none, .ld true 5 (.t 3)⟩,
     ⟨(some 85), none, .call 26 false [(.t 84)]⟩,
     ⟨(some 86), none, .mv (.t 1)⟩,
     ⟨(some 87), none, .ld true 2 (.t 5)⟩,
     ⟨(some 88), none, .call 70 true [(.t 87)]⟩,
     ⟨(some 89), none, .call 71 false [(.t 85), (.t 86), (.t 88)]⟩,
     ⟨(some 83), none, .mv (.t 89)⟩,
     ⟨(some 90), none, .ext 0 (.t 83)⟩,
     ⟨(some 91), none, .ext 1 (.t 83)⟩,
     ⟨(some 16), none, .alloc [.n 2, .n 3, .n 2, .n 1, .r (.v (.int .i64 0))]⟩,
     ⟨none, none, .st 5 (.t 16) (.t 90)⟩,
     ⟨(some 17), none, .mv (.t 91)⟩] [8, 9, 11, 14, 16, 17])
  (.seq (.seq (.reg none [⟨(some 92), none, .ld true 5 (.t 16)⟩,
      ⟨(some 93), none, .ld true 5 (.t 8)⟩,
      ⟨(some 94), none, .call 28 true [(.t 92), (.t 93)]⟩,
      ⟨(some 95), none, .not (.t 94)⟩,
      ⟨(some 96), none, .mv (.t 95)⟩,
      ⟨(some 97), (some (96, false)), .mv (.t 17)⟩,
      ⟨(some 98), (some (96, false)), .mv (.t 9)⟩,
      ⟨(some 99), (some (96, false)), .bin .neq .b (.t 97) (.t 98)⟩,
      ⟨(some 100), none, .pick (.t 96) (.k (V.b true)) (.t 99)⟩] [11, 14, 100])
   (.cond (.t 100)
    (.seq (.reg none [⟨(some 6), none, .mv (.k (V.b false))⟩] [6])
     (.ret))
    (.skip)))
  (.seq (.reg none [⟨(some 15), none, .mv (.k (V.i 1))⟩] [11, 14, 15])
  (.seq (.reg none [⟨(some 101), none, .ld true 5 (.t 11)⟩,
     ⟨(some 102), none, .mv (.t 15)⟩,
     ⟨(some 103), none, .call 50 true [(.t 101), (.t 102)]⟩,
     ⟨(some 15), none, .mv (.t 103)⟩] [14, 15])
  (.seq (.seq (.reg none [⟨(some 104), none, .mv (.t 15)⟩,
      ⟨(some 105), none, .bin .lss .i (.t 104) (.k (V.i 0))⟩] [14, 15, 105])
   (.cond (.t 105)
    (.seq (.reg none [⟨(some 6), none, .mv (.k (V.b false))⟩] [6])
     (.ret))
    (.skip)))
  (.seq (.seq (.reg none [⟨(some 106), none, .mv (.t 15)⟩,
      ⟨(some 107), none, .mv (.t 14)⟩,
      ⟨(some 108), none, .bin .neq .i (.t 106) (.t 107)⟩] [108])
   (.cond (.t 108)
    (.seq (.reg none [⟨(some 6), none, .mv (.k (V.b false))⟩] [6])
     (.ret))
    (.skip)))
  (.seq (.reg none [⟨(some 6), none, .mv (.k (V.b true))⟩] [6])
  (.ret)))))))))))))))))))))))))
def rv19 : List RV := [.t 6]
open Go.Proofs Go.IntWalk
set_option linter.unusedVariables false
set_option maxRecDepth 100000
set_option maxHeartbeats 4000000
def L_FnExactFeedCentre (g : G) (t : TE) (a0 : Centre) (a1 : Int) (a2 : Item) : Option Bool :=
  lP (L_szCentre g t a0 1048576) fun x1 =>
  br (g.lt x1 0)
  (
   some true)
  (
   cl (L_toCentre g t a0) fun x2 =>
   lP (L_toItem g t a2) fun x3 =>
   cl (S_FeedCentre g t x2 a1 x3) fun x4 =>
   cl (L_toCentre g t a0) fun x5 =>
   lP (L_toItem g t a2) fun x6 =>
   cl (I_FeedCentre g t x5 a1 x6) fun x7 =>
   cl (L_eqCentre g t (Centre.mk x7.1.Belt x7.1.Chutes x7.1.Inlets x7.1.Plan x7.1.Now) (Centre.mk x4.1.Belt x4.1.Chutes x4.1.Inlets x4.1.Plan x4.1.Now)) fun x8 =>
   br x8
   (
    br x7.2
    (
     br x4.2
     (
      cl (L_toCentre g t a0) fun x9 =>
      cl (L_eqCentre g t x5 x9) fun x10 =>
      br x10
      (
       cl (L_markCentre g t x5 1) fun x11 =>
       gd ((x11.2.Belt.length = x5.Belt.length)) <|
       gd ((x11.2.Chutes.length = x5.Chutes.length)) <|
       gd ((x11.2.Inlets.length = x5.Inlets.length)) <|
       gd ((x11.2.Plan.length = x5.Plan.length)) <|
       br (g.lt x11.1 0)
       (
        some false)
       (
        cl (L_eqCentre g t (Centre.mk x7.1.Belt x7.1.Chutes x7.1.Inlets x7.1.Plan x7.1.Now) (Centre.mk x4.1.Belt x4.1.Chutes x4.1.Inlets x4.1.Plan x4.1.Now)) fun x12 =>
        br x12
        (
         cl (L_markCentre g t (Centre.mk x7.1.Belt x7.1.Chutes x7.1.Inlets x7.1.Plan x7.1.Now) 1) fun x13 =>
         gd ((x13.2.Belt.length = x7.1.Belt.length)) <|
         gd ((x13.2.Chutes.length = x7.1.Chutes.length)) <|
         gd ((x13.2.Inlets.length = x7.1.Inlets.length)) <|
         gd ((x13.2.Plan.length = x7.1.Plan.length)) <|
         lP (L_heldCentre g t (Centre.mk x13.2.Belt x13.2.Chutes x13.2.Inlets x13.2.Plan x7.1.Now) 1) fun x14 =>
         br (g.lt x14 0)
         (
          some false)
         (
          br (g.eq x14 x13.1)
          (
           cl (L_toCentre g t a0) fun x15 =>
           lP (L_toItem g t a2) fun x16 =>
           cl (I_FeedCentre g t x15 a1 x16) fun x17 =>
           cl (L_eqCentre g t (Centre.mk x17.1.Belt x17.1.Chutes x17.1.Inlets x17.1.Plan x17.1.Now) (Centre.mk x4.1.Belt x4.1.Chutes x4.1.Inlets x4.1.Plan x4.1.Now)) fun x18 =>
           br x18
           (
            br x17.2
            (
             lP (L_heldCentre g t (Centre.mk x13.2.Belt x13.2.Chutes x13.2.Inlets x13.2.Plan x7.1.Now) 1) fun x19 =>
             br (g.lt x19 0)
             (
              some false)
             (
              br (g.eq x19 x13.1)
              (
               some true)
              (
               some false)))
            (
             some false))
           (
            some false))
          (
           some false)))
        (
         some false)))
      (
       some false))
     (
      some false))
    (
     br x4.2
     (
      some false)
     (
      cl (L_toCentre g t a0) fun x20 =>
      cl (L_eqCentre g t x5 x20) fun x21 =>
      br x21
      (
       cl (L_markCentre g t x5 1) fun x22 =>
       gd ((x22.2.Belt.length = x5.Belt.length)) <|
       gd ((x22.2.Chutes.length = x5.Chutes.length)) <|
       gd ((x22.2.Inlets.length = x5.Inlets.length)) <|
       gd ((x22.2.Plan.length = x5.Plan.length)) <|
       br (g.lt x22.1 0)
       (
        some false)
       (
        cl (L_eqCentre g t (Centre.mk x7.1.Belt x7.1.Chutes x7.1.Inlets x7.1.Plan x7.1.Now) (Centre.mk x4.1.Belt x4.1.Chutes x4.1.Inlets x4.1.Plan x4.1.Now)) fun x23 =>
        br x23
        (
         cl (L_markCentre g t (Centre.mk x7.1.Belt x7.1.Chutes x7.1.Inlets x7.1.Plan x7.1.Now) 1) fun x24 =>
         gd ((x24.2.Belt.length = x7.1.Belt.length)) <|
         gd ((x24.2.Chutes.length = x7.1.Chutes.length)) <|
         gd ((x24.2.Inlets.length = x7.1.Inlets.length)) <|
         gd ((x24.2.Plan.length = x7.1.Plan.length)) <|
         lP (L_heldCentre g t (Centre.mk x24.2.Belt x24.2.Chutes x24.2.Inlets x24.2.Plan x7.1.Now) 1) fun x25 =>
         br (g.lt x25 0)
         (
          some false)
         (
          br (g.eq x25 x24.1)
          (
           cl (L_toCentre g t a0) fun x26 =>
           lP (L_toItem g t a2) fun x27 =>
           cl (I_FeedCentre g t x26 a1 x27) fun x28 =>
           cl (L_eqCentre g t (Centre.mk x28.1.Belt x28.1.Chutes x28.1.Inlets x28.1.Plan x28.1.Now) (Centre.mk x4.1.Belt x4.1.Chutes x4.1.Inlets x4.1.Plan x4.1.Now)) fun x29 =>
           br x29
           (
            br x28.2
            (
             some false)
            (
             lP (L_heldCentre g t (Centre.mk x24.2.Belt x24.2.Chutes x24.2.Inlets x24.2.Plan x7.1.Now) 1) fun x30 =>
             br (g.lt x30 0)
             (
              some false)
             (
              br (g.eq x30 x24.1)
              (
               some true)
              (
               some false))))
           (
            some false))
          (
           some false)))
        (
         some false)))
      (
       some false))))
   (
    some false))
theorem fit19 : codeFit Try.prog Try.f19.ntmps (Try.f19.body.getD .skip) ir19 = true := by kernel_rfl
theorem c_L_FnExactFeedCentre {g : G} {t : TE} {a0 : Centre} {a1 : Int} {a2 : Item} {r : Bool} (hg : g = G.real) (ht : t = TE.real) (h : L_FnExactFeedCentre g t a0 a1 a2 = some r) : Fn Try.prog 19 [.g (Centre.rs t a0), .c (.v (.int .i64 a1)), .g (Item.rs t a2)] (.c (.r (.v (.bool r)))) := by
  obtain ⟨X, hX⟩ := hide (.c (.r (.v (.bool r))) : X)
  rw [← hX]
  refine fn_of (rvs := rv19) (j := ir19) Try.func19 rfl fit19 (Nat.le_of_ble_eq_true rfl) (by kernel_rfl) prog_mixed ?_
  intro g2 F hg2 hF
  obtain rfl : g2 = g := hg2.unique.trans hg.symm
  clear hg2
  obtain ⟨wrap, lt, le, eq, quo, rem, band, bor, bxor, shl, shr, nat, int, add, sub, mul, cat, seq, slt, sub3, byte, llen, nadd, nsub, dlen, dapp, dset, drep, rd, rda, up, rsub, dsub, all, sle, slen, hasI, putI, hasS, putS, imin, imax, fzc⟩ := g2
  obtain ⟨r_Item, d_Item, r_Chute, d_Chute, r_Inlet, d_Inlet, r_I64, d_I64, r_U8, d_U8⟩ := t
  obtain ⟨a0_Belt, a0_Chutes, a0_Inlets, a0_Plan, a0_Now⟩ := a0
  obtain ⟨a2_Id, a2_Dest⟩ := a2
  have hfr_Item : ∀ l, freshDss (d_Item l) = true := fresh_Item ht
  have hrda_Item : ∀ l, rda (d_Item l) = r_Item l := rda_Item hg ht
  have hfr_Chute : ∀ l, freshDss (d_Chute l) = true := fresh_Chute ht
  have hrda_Chute : ∀ l, rda (d_Chute l) = r_Chute l := rda_Chute hg ht
  have hfr_Inlet : ∀ l, freshDss (d_Inlet l) = true := fresh_Inlet ht
  have hrda_Inlet : ∀ l, rda (d_Inlet l) = r_Inlet l := rda_Inlet hg ht
  have hfr_I64 : ∀ l, freshDss (d_I64 l) = true := fresh_I64 ht
  have hrda_I64 : ∀ l, rda (d_I64 l) = r_I64 l := rda_I64 hg ht
  unfold L_FnExactFeedCentre at h
  try dsimp only at h
  cbv
  obtain ⟨x1, hx1, h⟩ := of_lP h
  try dsimp only at h
  refine ACall.mk _ _ rfl (hF _ _ _ (c_L_szCentre hg ht hx1)) (.inl rfl) (Nat.le_of_ble_eq_true rfl) ?_
  cbv
  cases hb1 : (lt x1 0) with
  | true =>
    rw [br_true hb1] at h
    cbv
    obtain rfl := Option.some.inj h
    exact ARet.mk trivial hX.symm
  | false =>
    rw [br_false hb1] at h
    cbv
    obtain ⟨x2, hx2, h⟩ := of_cl h
    obtain ⟨x2_Belt, x2_Chutes, x2_Inlets, x2_Plan, x2_Now⟩ := x2
    try dsimp only at h
    refine ACallR.mk _ _ (.g [.r (.s 2 (r_Item x2_Belt)), .r (.s 3 (r_Chute x2_Chutes)), .r (.s 2 (r_Inlet x2_Inlets)), .r (.s 1 (r_I64 x2_Plan)), .r (.v (.int .i64 x2_Now))]) rfl (hF _ _ _ (c_L_toCentre hg ht hx2)) (.inl rfl) (Nat.le_of_ble_eq_true rfl) (by cbv; (try simp only [hrda_Chute, hrda_I64, hrda_Inlet, hrda_Item])) ?_
    cbv
    obtain ⟨x3, hx3, h⟩ := of_lP h
    obtain ⟨x3_Id, x3_Dest⟩ := x3
    try dsimp only at h
    refine ACall.mk _ _ rfl (hF _ _ _ (c_L_toItem hg ht hx3)) (.inl rfl) (Nat.le_of_ble_eq_true rfl) ?_
    cbv
    obtain ⟨x4, hx4, h⟩ := of_cl h
    obtain ⟨⟨x4_1_Belt, x4_1_Chutes, x4_1_Inlets, x4_1_Plan, x4_1_Now⟩, x4_2⟩ := x4
    try dsimp only at h
    refine ACallR.mk _ _ (.u [.g [.r (.s 2 (r_Item x4_1_Belt)), .r (.s 3 (r_Chute x4_1_Chutes)), .r (.s 2 (r_Inlet x4_1_Inlets)), .r (.s 1 (r_I64 x4_1_Plan)), .r (.v (.int .i64 x4_1_Now))], .c (.r (.v (.bool x4_2)))]) rfl (hF _ _ _ (c_S_FeedCentre hg ht hx4)) (.inl rfl) (Nat.le_of_ble_eq_true rfl) (by cbv; (try simp only [hrda_Chute, hrda_I64, hrda_Inlet, hrda_Item])) ?_
    cbv
    obtain ⟨x5, hx5, h⟩ := of_cl h
    obtain ⟨x5_Belt, x5_Chutes, x5_Inlets, x5_Plan, x5_Now⟩ := x5
    try dsimp only at h
    refine ACall.mk _ _ rfl (hF _ _ _ (c_L_toCentre hg ht hx5)) (.inl rfl) (Nat.le_of_ble_eq_true rfl) ?_
    cbv
    obtain ⟨x6, hx6, h⟩ := of_lP h
    obtain ⟨x6_Id, x6_Dest⟩ := x6
    try dsimp only at h
    refine ACall.mk _ _ rfl (hF _ _ _ (c_L_toItem hg ht hx6)) (.inl rfl) (Nat.le_of_ble_eq_true rfl) ?_
    cbv
    refine AStep.mk ⟨(lend_Item ht (dlen_Item hg ht _)), ⟨(lend_Chute ht (dlen_Chute hg ht _)), ⟨(lend_Inlet ht (dlen_Inlet hg ht _)), (lend_I64 ht (dlen_I64 hg ht _))⟩⟩⟩ ?_
    cbv
    obtain ⟨x7, hx7, h⟩ := of_cl h
    obtain ⟨⟨x7_1_Belt, x7_1_Chutes, x7_1_Inlets, x7_1_Plan, x7_1_Now⟩, x7_2⟩ := x7
    try dsimp only at h
    refine ACall.mk _ _ (by rw [show rd (d_Item x5_Belt) 0 (dlen (d_Item x5_Belt)) = r_Item x5_Belt from rdw_Item hg ht (dlen_Item hg ht _), show rd (d_Chute x5_Chutes) 0 (dlen (d_Chute x5_Chutes)) = r_Chute x5_Chutes from rdw_Chute hg ht (dlen_Chute hg ht _), show rd (d_Inlet x5_Inlets) 0 (dlen (d_Inlet x5_Inlets)) = r_Inlet x5_Inlets from rdw_Inlet hg ht (dlen_Inlet hg ht _), show rd (d_I64 x5_Plan) 0 (dlen (d_I64 x5_Plan)) = r_I64 x5_Plan from rdw_I64 hg ht (dlen_I64 hg ht _)]; try rfl) (hF _ _ _ (c_I_FeedCentre hg ht hx7)) (.inr (by simp only [Go.Vs.X.fresh, Go.Vs.X.freshs, freshD, freshDs, Bool.and_self, Centre.ds, hfr_Chute, hfr_I64, hfr_Inlet, hfr_Item])) (Nat.le_of_ble_eq_true rfl) ?_
    cbv
    refine AStep.mk ⟨(lend_Item ht (dlen_Item hg ht _)), ⟨(lend_Chute ht (dlen_Chute hg ht _)), ⟨(lend_Inlet ht (dlen_Inlet hg ht _)), (lend_I64 ht (dlen_I64 hg ht _))⟩⟩⟩ ?_
    cbv
    obtain ⟨x8, hx8, h⟩ := of_cl h
    try dsimp only at h
    refine ACall.mk _ _ (by rw [show rd (d_Item x7_1_Belt) 0 (dlen (d_Item x7_1_Belt)) = r_Item x7_1_Belt from rdw_Item hg ht (dlen_Item hg ht _), show rd (d_Chute x7_1_Chutes) 0 (dlen (d_Chute x7_1_Chutes)) = r_Chute x7_1_Chutes from rdw_Chute hg ht (dlen_Chute hg ht _), show rd (d_Inlet x7_1_Inlets) 0 (dlen (d_Inlet x7_1_Inlets)) = r_Inlet x7_1_Inlets from rdw_Inlet hg ht (dlen_Inlet hg ht _), show rd (d_I64 x7_1_Plan) 0 (dlen (d_I64 x7_1_Plan)) = r_I64 x7_1_Plan from rdw_I64 hg ht (dlen_I64 hg ht _)]; try rfl) (hF _ _ _ (c_L_eqCentre hg ht hx8)) (.inr rfl) (Nat.le_of_ble_eq_true rfl) ?_
    cbv
    cases hb2 : x8 with
    | true =>
      rw [br_true hb2] at h
      cbv
      try (rw [hb2]; cbv)
      try (rw [hb2]; cbv)
      cases hb3 : x7_2 with
      | true =>
        rw [br_true hb3] at h
        cbv
        cases hb4 : x4_2 with
        | true =>
          rw [br_true hb4] at h
          cbv
          try (rw [hb2]; cbv)
          obtain ⟨x9, hx9, h⟩ := of_cl h
          obtain ⟨x9_Belt, x9_Chutes, x9_Inlets, x9_Plan, x9_Now⟩ := x9
          try dsimp only at h
          refine ACallR.mk _ _ (.g [.r (.s 2 (r_Item x9_Belt)), .r (.s 3 (r_Chute x9_Chutes)), .r (.s 2 (r_Inlet x9_Inlets)), .r (.s 1 (r_I64 x9_Plan)), .r (.v (.int .i64 x9_Now))]) rfl (hF _ _ _ (c_L_toCentre hg ht hx9)) (.inl rfl) (Nat.le_of_ble_eq_true rfl) (by cbv; (try simp only [hrda_Chute, hrda_I64, hrda_Inlet, hrda_Item])) ?_
          cbv
          refine AStep.mk ⟨(lend_Item ht (dlen_Item hg ht _)), ⟨(lend_Chute ht (dlen_Chute hg ht _)), ⟨(lend_Inlet ht (dlen_Inlet hg ht _)), (lend_I64 ht (dlen_I64 hg ht _))⟩⟩⟩ ?_
          cbv
          obtain ⟨x10, hx10, h⟩ := of_cl h
          try dsimp only at h
          refine ACall.mk _ _ (by rw [show rd (d_Item x5_Belt) 0 (dlen (d_Item x5_Belt)) = r_Item x5_Belt from rdw_Item hg ht (dlen_Item hg ht _), show rd (d_Chute x5_Chutes) 0 (dlen (d_Chute x5_Chutes)) = r_Chute x5_Chutes from rdw_Chute hg ht (dlen_Chute hg ht _), show rd (d_Inlet x5_Inlets) 0 (dlen (d_Inlet x5_Inlets)) = r_Inlet x5_Inlets from rdw_Inlet hg ht (dlen_Inlet hg ht _), show rd (d_I64 x5_Plan) 0 (dlen (d_I64 x5_Plan)) = r_I64 x5_Plan from rdw_I64 hg ht (dlen_I64 hg ht _)]; try rfl) (hF _ _ _ (c_L_eqCentre hg ht hx10)) (.inr rfl) (Nat.le_of_ble_eq_true rfl) ?_
          cbv
          cases hb5 : x10 with
          | true =>
            rw [br_true hb5] at h
            cbv
            refine AStep.mk ⟨⟨rfl, (dlen_Item hg ht _)⟩, ⟨⟨rfl, (dlen_Chute hg ht _)⟩, ⟨⟨rfl, (dlen_Inlet hg ht _)⟩, ⟨rfl, (dlen_I64 hg ht _)⟩⟩⟩⟩ ?_
            cbv
            obtain ⟨x11, hx11, h⟩ := of_cl h
            obtain ⟨x11_1, ⟨x11_2_Belt, x11_2_Chutes, x11_2_Inlets, x11_2_Plan, x11_2_Now⟩⟩ := x11
            try dsimp only at h
            refine ACallM.mk _ _ _ _ rfl rfl (hF _ _ _ (c_L_markCentre hg ht hx11)) rfl (Nat.le_of_ble_eq_true rfl) (Nat.le_of_ble_eq_true rfl) ?_
            cbv
            obtain ⟨hc1, h⟩ := of_gd h
            obtain ⟨hc2, h⟩ := of_gd h
            obtain ⟨hc3, h⟩ := of_gd h
            obtain ⟨hc4, h⟩ := of_gd h
            cases hb6 : (lt x11_1 0) with
            | true =>
              rw [br_true hb6] at h
              cbv
              try (rw [hb6]; cbv)
              try (rw [hb6]; cbv)
              try (rw [hb6]; cbv)
              try (rw [hb6]; cbv)
              obtain rfl := Option.some.inj h
              exact ARet.mk trivial hX.symm
            | false =>
              rw [br_false hb6] at h
              cbv
              try (rw [hb6]; cbv)
              try (rw [hb6]; cbv)
              refine AStep.mk ⟨(lend_Item ht (dlen_Item hg ht _)), ⟨(lend_Chute ht (dlen_Chute hg ht _)), ⟨(lend_Inlet ht (dlen_Inlet hg ht _)), (lend_I64 ht (dlen_I64 hg ht _))⟩⟩⟩ ?_
              cbv
              obtain ⟨x12, hx12, h⟩ := of_cl h
              try dsimp only at h
              refine ACall.mk _ _ (by rw [show rd (d_Item x7_1_Belt) 0 (dlen (d_Item x7_1_Belt)) = r_Item x7_1_Belt from rdw_Item hg ht (dlen_Item hg ht _), show rd (d_Chute x7_1_Chutes) 0 (dlen (d_Chute x7_1_Chutes)) = r_Chute x7_1_Chutes from rdw_Chute hg ht (dlen_Chute hg ht _), show rd (d_Inlet x7_1_Inlets) 0 (dlen (d_Inlet x7_1_Inlets)) = r_Inlet x7_1_Inlets from rdw_Inlet hg ht (dlen_Inlet hg ht _), show rd (d_I64 x7_1_Plan) 0 (dlen (d_I64 x7_1_Plan)) = r_I64 x7_1_Plan from rdw_I64 hg ht (dlen_I64 hg ht _)]; try rfl) (hF _ _ _ (c_L_eqCentre hg ht hx12)) (.inr rfl) (Nat.le_of_ble_eq_true rfl) ?_
              cbv
              try (rw [hb6]; cbv)
              try (rw [hb6]; cbv)
              cases hb7 : x12 with
              | true =>
                rw [br_true hb7] at h
                cbv
                try (rw [hb7]; cbv)
                try (rw [hb7]; cbv)
                try (rw [hb3]; cbv)
                try (rw [hb4]; cbv)
                try (rw [hb7]; cbv)
                refine AStep.mk ⟨⟨rfl, (dlen_Item hg ht _)⟩, ⟨⟨rfl, (dlen_Chute hg ht _)⟩, ⟨⟨rfl, (dlen_Inlet hg ht _)⟩, ⟨rfl, (dlen_I64 hg ht _)⟩⟩⟩⟩ ?_
                cbv
                obtain ⟨x13, hx13, h⟩ := of_cl h
                obtain ⟨x13_1, ⟨x13_2_Belt, x13_2_Chutes, x13_2_Inlets, x13_2_Plan, x13_2_Now⟩⟩ := x13
                try dsimp only at h
                refine ACallM.mk _ _ _ _ rfl rfl (hF _ _ _ (c_L_markCentre hg ht hx13)) rfl (Nat.le_of_ble_eq_true rfl) (Nat.le_of_ble_eq_true rfl) ?_
                cbv
                obtain ⟨hc5, h⟩ := of_gd h
                obtain ⟨hc6, h⟩ := of_gd h
                obtain ⟨hc7, h⟩ := of_gd h
                obtain ⟨hc8, h⟩ := of_gd h
                refine AStep.mk ⟨(lend_Item ht (lenp_Item ht (dlen_Item hg ht _) hc5)), ⟨(lend_Chute ht (lenp_Chute ht (dlen_Chute hg ht _) hc6)), ⟨(lend_Inlet ht (lenp_Inlet ht (dlen_Inlet hg ht _) hc7)), (lend_I64 ht (lenp_I64 ht (dlen_I64 hg ht _) hc8))⟩⟩⟩ ?_
                cbv
                obtain ⟨x14, hx14, h⟩ := of_lP h
                try dsimp only at h
                refine ACall.mk _ _ (by rw [show rd (d_Item x13_2_Belt) 0 (dlen (d_Item x7_1_Belt)) = r_Item x13_2_Belt from rdw_Item hg ht (lenp_Item ht (dlen_Item hg ht _) hc5), show rd (d_Chute x13_2_Chutes) 0 (dlen (d_Chute x7_1_Chutes)) = r_Chute x13_2_Chutes from rdw_Chute hg ht (lenp_Chute ht (dlen_Chute hg ht _) hc6), show rd (d_Inlet x13_2_Inlets) 0 (dlen (d_Inlet x7_1_Inlets)) = r_Inlet x13_2_Inlets from rdw_Inlet hg ht (lenp_Inlet ht (dlen_Inlet hg ht _) hc7), show rd (d_I64 x13_2_Plan) 0 (dlen (d_I64 x7_1_Plan)) = r_I64 x13_2_Plan from rdw_I64 hg ht (lenp_I64 ht (dlen_I64 hg ht _) hc8)]; try rfl) (hF _ _ _ (c_L_heldCentre hg ht hx14)) (.inr rfl) (Nat.le_of_ble_eq_true rfl) ?_
                cbv
                cases hb8 : (lt x14 0) with
                | true =>
                  rw [br_true hb8] at h
                  cbv
                  obtain rfl := Option.some.inj h
                  exact ARet.mk trivial hX.symm
                | false =>
                  rw [br_false hb8] at h
                  cbv
                  cases hb9 : (eq x14 x13_1) with
                  | true =>
                    rw [br_true hb9] at h
                    cbv
                    obtain ⟨x15, hx15, h⟩ := of_cl h
                    obtain ⟨x15_Belt, x15_Chutes, x15_Inlets, x15_Plan, x15_Now⟩ := x15
                    try dsimp only at h
                    refine ACallR.mk _ _ (.g [.r (.s 2 (r_Item x15_Belt)), .r (.s 3 (r_Chute x15_Chutes)), .r (.s 2 (r_Inlet x15_Inlets)), .r (.s 1 (r_I64 x15_Plan)), .r (.v (.int .i64 x15_Now))]) rfl (hF _ _ _ (c_L_toCentre hg ht hx15)) (.inl rfl) (Nat.le_of_ble_eq_true rfl) (by cbv; (try simp only [hrda_Chute, hrda_I64, hrda_Inlet, hrda_Item])) ?_
                    cbv
                    obtain ⟨x16, hx16, h⟩ := of_lP h
                    obtain ⟨x16_Id, x16_Dest⟩ := x16
                    try dsimp only at h
                    refine ACall.mk _ _ rfl (hF _ _ _ (c_L_toItem hg ht hx16)) (.inl rfl) (Nat.le_of_ble_eq_true rfl) ?_
                    cbv
                    obtain ⟨x17, hx17, h⟩ := of_cl h
                    obtain ⟨⟨x17_1_Belt, x17_1_Chutes, x17_1_Inlets, x17_1_Plan, x17_1_Now⟩, x17_2⟩ := x17
                    try dsimp only at h
                    refine ACallR.mk _ _ (.u [.g [.r (.s 2 (r_Item x17_1_Belt)), .r (.s 3 (r_Chute x17_1_Chutes)), .r (.s 2 (r_Inlet x17_1_Inlets)), .r (.s 1 (r_I64 x17_1_Plan)), .r (.v (.int .i64 x17_1_Now))], .c (.r (.v (.bool x17_2)))]) rfl (hF _ _ _ (c_I_FeedCentre hg ht hx17)) (.inl rfl) (Nat.le_of_ble_eq_true rfl) (by cbv; (try simp only [hrda_Chute, hrda_I64, hrda_Inlet, hrda_Item])) ?_
                    cbv
                    obtain ⟨x18, hx18, h⟩ := of_cl h
                    try dsimp only at h
                    refine ACall.mk _ _ rfl (hF _ _ _ (c_L_eqCentre hg ht hx18)) (.inl rfl) (Nat.le_of_ble_eq_true rfl) ?_
                    cbv
                    cases hb10 : x18 with
                    | true =>
                      rw [br_true hb10] at h
                      cbv
                      try (rw [hb10]; cbv)
                      try (rw [hb10]; cbv)
                      cases hb11 : x17_2 with
                      | true =>
                        rw [br_true hb11] at h
                        cbv
                        try (rw [hb4]; cbv)
                        try (rw [hb10]; cbv)
                        refine AStep.mk ⟨(lend_Item ht (lenp_Item ht (dlen_Item hg ht _) hc5)), ⟨(lend_Chute ht (lenp_Chute ht (dlen_Chute hg ht _) hc6)), ⟨(lend_Inlet ht (lenp_Inlet ht (dlen_Inlet hg ht _) hc7)), (lend_I64 ht (lenp_I64 ht (dlen_I64 hg ht _) hc8))⟩⟩⟩ ?_
                        cbv
                        obtain ⟨x19, hx19, h⟩ := of_lP h
                        try dsimp only at h
                        refine ACall.mk _ _ (by rw [show rd (d_Item x13_2_Belt) 0 (dlen (d_Item x7_1_Belt)) = r_Item x13_2_Belt from rdw_Item hg ht (lenp_Item ht (dlen_Item hg ht _) hc5), show rd (d_Chute x13_2_Chutes) 0 (dlen (d_Chute x7_1_Chutes)) = r_Chute x13_2_Chutes from rdw_Chute hg ht (lenp_Chute ht (dlen_Chute hg ht _) hc6), show rd (d_Inlet x13_2_Inlets) 0 (dlen (d_Inlet x7_1_Inlets)) = r_Inlet x13_2_Inlets from rdw_Inlet hg ht (lenp_Inlet ht (dlen_Inlet hg ht _) hc7), show rd (d_I64 x13_2_Plan) 0 (dlen (d_I64 x7_1_Plan)) = r_I64 x13_2_Plan from rdw_I64 hg ht (lenp_I64 ht (dlen_I64 hg ht _) hc8)]; try rfl) (hF _ _ _ (c_L_heldCentre hg ht hx19)) (.inr rfl) (Nat.le_of_ble_eq_true rfl) ?_
                        cbv
                        cases hb12 : (lt x19 0) with
                        | true =>
                          rw [br_true hb12] at h
                          cbv
                          obtain rfl := Option.some.inj h
                          exact ARet.mk trivial hX.symm
                        | false =>
                          rw [br_false hb12] at h
                          cbv
                          cases hb13 : (eq x19 x13_1) with
                          | true =>
                            rw [br_true hb13] at h
                            cbv
                            obtain rfl := Option.some.inj h
                            exact ARet.mk trivial hX.symm
                          | false =>
                            rw [br_false hb13] at h
                            cbv
                            obtain rfl := Option.some.inj h
                            exact ARet.mk trivial hX.symm
                      | false =>
                        rw [br_false hb11] at h
                        cbv
                        try (rw [hb4]; cbv)
                        try (rw [hb10]; cbv)
                        obtain rfl := Option.some.inj h
                        exact ARet.mk trivial hX.symm
                    | false =>
                      rw [br_false hb10] at h
                      cbv
                      try (rw [hb10]; cbv)
                      try (rw [hb10]; cbv)
                      try (rw [hb10]; cbv)
                      obtain rfl := Option.some.inj h
                      exact ARet.mk trivial hX.symm
                  | false =>
                    rw [br_false hb9] at h
                    cbv
                    obtain rfl := Option.some.inj h
                    exact ARet.mk trivial hX.symm
              | false =>
                rw [br_false hb7] at h
                cbv
                try (rw [hb7]; cbv)
                try (rw [hb7]; cbv)
                try (rw [hb7]; cbv)
                obtain rfl := Option.some.inj h
                exact ARet.mk trivial hX.symm
          | false =>
            rw [br_false hb5] at h
            cbv
            obtain rfl := Option.some.inj h
            exact ARet.mk trivial hX.symm
        | false =>
          rw [br_false hb4] at h
          cbv
          try (rw [hb2]; cbv)
          obtain rfl := Option.some.inj h
          exact ARet.mk trivial hX.symm
      | false =>
        rw [br_false hb3] at h
        cbv
        cases hb14 : x4_2 with
        | true =>
          rw [br_true hb14] at h
          cbv
          try (rw [hb2]; cbv)
          obtain rfl := Option.some.inj h
          exact ARet.mk trivial hX.symm
        | false =>
          rw [br_false hb14] at h
          cbv
          try (rw [hb2]; cbv)
          obtain ⟨x20, hx20, h⟩ := of_cl h
          obtain ⟨x20_Belt, x20_Chutes, x20_Inlets, x20_Plan, x20_Now⟩ := x20
          try dsimp only at h
          refine ACallR.mk _ _ (.g [.r (.s 2 (r_Item x20_Belt)), .r (.s 3 (r_Chute x20_Chutes)), .r (.s 2 (r_Inlet x20_Inlets)), .r (.s 1 (r_I64 x20_Plan)), .r (.v (.int .i64 x20_Now))]) rfl (hF _ _ _ (c_L_toCentre hg ht hx20)) (.inl rfl) (Nat.le_of_ble_eq_true rfl) (by cbv; (try simp only [hrda_Chute, hrda_I64, hrda_Inlet, hrda_Item])) ?_
          cbv
          refine AStep.mk ⟨(lend_Item ht (dlen_Item hg ht _)), ⟨(lend_Chute ht (dlen_Chute hg ht _)), ⟨(lend_Inlet ht (dlen_Inlet hg ht _)), (lend_I64 ht (dlen_I64 hg ht _))⟩⟩⟩ ?_
          cbv
          obtain ⟨x21, hx21, h⟩ := of_cl h
          try dsimp only at h
          refine ACall.mk _ _ (by rw [show rd (d_Item x5_Belt) 0 (dlen (d_Item x5_Belt)) = r_Item x5_Belt from rdw_Item hg ht (dlen_Item hg ht _), show rd (d_Chute x5_Chutes) 0 (dlen (d_Chute x5_Chutes)) = r_Chute x5_Chutes from rdw_Chute hg ht (dlen_Chute hg ht _), show rd (d_Inlet x5_Inlets) 0 (dlen (d_Inlet x5_Inlets)) = r_Inlet x5_Inlets from rdw_Inlet hg ht (dlen_Inlet hg ht _), show rd (d_I64 x5_Plan) 0 (dlen (d_I64 x5_Plan)) = r_I64 x5_Plan from rdw_I64 hg ht (dlen_I64 hg ht _)]; try rfl) (hF _ _ _ (c_L_eqCentre hg ht hx21)) (.inr rfl) (Nat.le_of_ble_eq_true rfl) ?_
          cbv
          cases hb15 : x21 with
          | true =>
            rw [br_true hb15] at h
            cbv
            refine AStep.mk ⟨⟨rfl, (dlen_Item hg ht _)⟩, ⟨⟨rfl, (dlen_Chute hg ht _)⟩, ⟨⟨rfl, (dlen_Inlet hg ht _)⟩, ⟨rfl, (dlen_I64 hg ht _)⟩⟩⟩⟩ ?_
            cbv
            obtain ⟨x22, hx22, h⟩ := of_cl h
            obtain ⟨x22_1, ⟨x22_2_Belt, x22_2_Chutes, x22_2_Inlets, x22_2_Plan, x22_2_Now⟩⟩ := x22
            try dsimp only at h
            refine ACallM.mk _ _ _ _ rfl rfl (hF _ _ _ (c_L_markCentre hg ht hx22)) rfl (Nat.le_of_ble_eq_true rfl) (Nat.le_of_ble_eq_true rfl) ?_
            cbv
            obtain ⟨hc9, h⟩ := of_gd h
            obtain ⟨hc10, h⟩ := of_gd h
            obtain ⟨hc11, h⟩ := of_gd h
            obtain ⟨hc12, h⟩ := of_gd h
            cases hb16 : (lt x22_1 0) with
            | true =>
              rw [br_true hb16] at h
              cbv
              try (rw [hb16]; cbv)
              try (rw [hb16]; cbv)
              try (rw [hb16]; cbv)
              try (rw [hb16]; cbv)
              obtain rfl := Option.some.inj h
              exact ARet.mk trivial hX.symm
            | false =>
              rw [br_false hb16] at h
              cbv
              try (rw [hb16]; cbv)
              try (rw [hb16]; cbv)
              refine AStep.mk ⟨(lend_Item ht (dlen_Item hg ht _)), ⟨(lend_Chute ht (dlen_Chute hg ht _)), ⟨(lend_Inlet ht (dlen_Inlet hg ht _)), (lend_I64 ht (dlen_I64 hg ht _))⟩⟩⟩ ?_
              cbv
              obtain ⟨x23, hx23, h⟩ := of_cl h
              try dsimp only at h
              refine ACall.mk _ _ (by rw [show rd (d_Item x7_1_Belt) 0 (dlen (d_Item x7_1_Belt)) = r_Item x7_1_Belt from rdw_Item hg ht (dlen_Item hg ht _), show rd (d_Chute x7_1_Chutes) 0 (dlen (d_Chute x7_1_Chutes)) = r_Chute x7_1_Chutes from rdw_Chute hg ht (dlen_Chute hg ht _), show rd (d_Inlet x7_1_Inlets) 0 (dlen (d_Inlet x7_1_Inlets)) = r_Inlet x7_1_Inlets from rdw_Inlet hg ht (dlen_Inlet hg ht _), show rd (d_I64 x7_1_Plan) 0 (dlen (d_I64 x7_1_Plan)) = r_I64 x7_1_Plan from rdw_I64 hg ht (dlen_I64 hg ht _)]; try rfl) (hF _ _ _ (c_L_eqCentre hg ht hx23)) (.inr rfl) (Nat.le_of_ble_eq_true rfl) ?_
              cbv
              try (rw [hb16]; cbv)
              try (rw [hb16]; cbv)
              cases hb17 : x23 with
              | true =>
                rw [br_true hb17] at h
                cbv
                try (rw [hb17]; cbv)
                try (rw [hb17]; cbv)
                try (rw [hb3]; cbv)
                try (rw [hb14]; cbv)
                try (rw [hb17]; cbv)
                refine AStep.mk ⟨⟨rfl, (dlen_Item hg ht _)⟩, ⟨⟨rfl, (dlen_Chute hg ht _)⟩, ⟨⟨rfl, (dlen_Inlet hg ht _)⟩, ⟨rfl, (dlen_I64 hg ht _)⟩⟩⟩⟩ ?_
                cbv
                obtain ⟨x24, hx24, h⟩ := of_cl h
                obtain ⟨x24_1, ⟨x24_2_Belt, x24_2_Chutes, x24_2_Inlets, x24_2_Plan, x24_2_Now⟩⟩ := x24
                try dsimp only at h
                refine ACallM.mk _ _ _ _ rfl rfl (hF _ _ _ (c_L_markCentre hg ht hx24)) rfl (Nat.le_of_ble_eq_true rfl) (Nat.le_of_ble_eq_true rfl) ?_
                cbv
                obtain ⟨hc13, h⟩ := of_gd h
                obtain ⟨hc14, h⟩ := of_gd h
                obtain ⟨hc15, h⟩ := of_gd h
                obtain ⟨hc16, h⟩ := of_gd h
                refine AStep.mk ⟨(lend_Item ht (lenp_Item ht (dlen_Item hg ht _) hc13)), ⟨(lend_Chute ht (lenp_Chute ht (dlen_Chute hg ht _) hc14)), ⟨(lend_Inlet ht (lenp_Inlet ht (dlen_Inlet hg ht _) hc15)), (lend_I64 ht (lenp_I64 ht (dlen_I64 hg ht _) hc16))⟩⟩⟩ ?_
                cbv
                obtain ⟨x25, hx25, h⟩ := of_lP h
                try dsimp only at h
                refine ACall.mk _ _ (by rw [show rd (d_Item x24_2_Belt) 0 (dlen (d_Item x7_1_Belt)) = r_Item x24_2_Belt from rdw_Item hg ht (lenp_Item ht (dlen_Item hg ht _) hc13), show rd (d_Chute x24_2_Chutes) 0 (dlen (d_Chute x7_1_Chutes)) = r_Chute x24_2_Chutes from rdw_Chute hg ht (lenp_Chute ht (dlen_Chute hg ht _) hc14), show rd (d_Inlet x24_2_Inlets) 0 (dlen (d_Inlet x7_1_Inlets)) = r_Inlet x24_2_Inlets from rdw_Inlet hg ht (lenp_Inlet ht (dlen_Inlet hg ht _) hc15), show rd (d_I64 x24_2_Plan) 0 (dlen (d_I64 x7_1_Plan)) = r_I64 x24_2_Plan from rdw_I64 hg ht (lenp_I64 ht (dlen_I64 hg ht _) hc16)]; try rfl) (hF _ _ _ (c_L_heldCentre hg ht hx25)) (.inr rfl) (Nat.le_of_ble_eq_true rfl) ?_
                cbv
                cases hb18 : (lt x25 0) with
                | true =>
                  rw [br_true hb18] at h
                  cbv
                  obtain rfl := Option.some.inj h
                  exact ARet.mk trivial hX.symm
                | false =>
                  rw [br_false hb18] at h
                  cbv
                  cases hb19 : (eq x25 x24_1) with
                  | true =>
                    rw [br_true hb19] at h
                    cbv
                    obtain ⟨x26, hx26, h⟩ := of_cl h
                    obtain ⟨x26_Belt, x26_Chutes, x26_Inlets, x26_Plan, x26_Now⟩ := x26
                    try dsimp only at h
                    refine ACallR.mk _ _ (.g [.r (.s 2 (r_Item x26_Belt)), .r (.s 3 (r_Chute x26_Chutes)), .r (.s 2 (r_Inlet x26_Inlets)), .r (.s 1 (r_I64 x26_Plan)), .r (.v (.int .i64 x26_Now))]) rfl (hF _ _ _ (c_L_toCentre hg ht hx26)) (.inl rfl) (Nat.le_of_ble_eq_true rfl) (by cbv; (try simp only [hrda_Chute, hrda_I64, hrda_Inlet, hrda_Item])) ?_
                    cbv
                    obtain ⟨x27, hx27, h⟩ := of_lP h
                    obtain ⟨x27_Id, x27_Dest⟩ := x27
                    try dsimp only at h
                    refine ACall.mk _ _ rfl (hF _ _ _ (c_L_toItem hg ht hx27)) (.inl rfl) (Nat.le_of_ble_eq_true rfl) ?_
                    cbv
                    obtain ⟨x28, hx28, h⟩ := of_cl h
                    obtain ⟨⟨x28_1_Belt, x28_1_Chutes, x28_1_Inlets, x28_1_Plan, x28_1_Now⟩, x28_2⟩ := x28
                    try dsimp only at h
                    refine ACallR.mk _ _ (.u [.g [.r (.s 2 (r_Item x28_1_Belt)), .r (.s 3 (r_Chute x28_1_Chutes)), .r (.s 2 (r_Inlet x28_1_Inlets)), .r (.s 1 (r_I64 x28_1_Plan)), .r (.v (.int .i64 x28_1_Now))], .c (.r (.v (.bool x28_2)))]) rfl (hF _ _ _ (c_I_FeedCentre hg ht hx28)) (.inl rfl) (Nat.le_of_ble_eq_true rfl) (by cbv; (try simp only [hrda_Chute, hrda_I64, hrda_Inlet, hrda_Item])) ?_
                    cbv
                    obtain ⟨x29, hx29, h⟩ := of_cl h
                    try dsimp only at h
                    refine ACall.mk _ _ rfl (hF _ _ _ (c_L_eqCentre hg ht hx29)) (.inl rfl) (Nat.le_of_ble_eq_true rfl) ?_
                    cbv
                    cases hb20 : x29 with
                    | true =>
                      rw [br_true hb20] at h
                      cbv
                      try (rw [hb20]; cbv)
                      try (rw [hb20]; cbv)
                      cases hb21 : x28_2 with
                      | true =>
                        rw [br_true hb21] at h
                        cbv
                        try (rw [hb14]; cbv)
                        try (rw [hb20]; cbv)
                        obtain rfl := Option.some.inj h
                        exact ARet.mk trivial hX.symm
                      | false =>
                        rw [br_false hb21] at h
                        cbv
                        try (rw [hb14]; cbv)
                        try (rw [hb20]; cbv)
                        refine AStep.mk ⟨(lend_Item ht (lenp_Item ht (dlen_Item hg ht _) hc13)), ⟨(lend_Chute ht (lenp_Chute ht (dlen_Chute hg ht _) hc14)), ⟨(lend_Inlet ht (lenp_Inlet ht (dlen_Inlet hg ht _) hc15)), (lend_I64 ht (lenp_I64 ht (dlen_I64 hg ht _) hc16))⟩⟩⟩ ?_
                        cbv
                        obtain ⟨x30, hx30, h⟩ := of_lP h
                        try dsimp only at h
                        refine ACall.mk _ _ (by rw [show rd (d_Item x24_2_Belt) 0 (dlen (d_Item x7_1_Belt)) = r_Item x24_2_Belt from rdw_Item hg ht (lenp_Item ht (dlen_Item hg ht _) hc13), show rd (d_Chute x24_2_Chutes) 0 (dlen (d_Chute x7_1_Chutes)) = r_Chute x24_2_Chutes from rdw_Chute hg ht (lenp_Chute ht (dlen_Chute hg ht _) hc14), show rd (d_Inlet x24_2_Inlets) 0 (dlen (d_Inlet x7_1_Inlets)) = r_Inlet x24_2_Inlets from rdw_Inlet hg ht (lenp_Inlet ht (dlen_Inlet hg ht _) hc15), show rd (d_I64 x24_2_Plan) 0 (dlen (d_I64 x7_1_Plan)) = r_I64 x24_2_Plan from rdw_I64 hg ht (lenp_I64 ht (dlen_I64 hg ht _) hc16)]; try rfl) (hF _ _ _ (c_L_heldCentre hg ht hx30)) (.inr rfl) (Nat.le_of_ble_eq_true rfl) ?_
                        cbv
                        cases hb22 : (lt x30 0) with
                        | true =>
                          rw [br_true hb22] at h
                          cbv
                          obtain rfl := Option.some.inj h
                          exact ARet.mk trivial hX.symm
                        | false =>
                          rw [br_false hb22] at h
                          cbv
                          cases hb23 : (eq x30 x24_1) with
                          | true =>
                            rw [br_true hb23] at h
                            cbv
                            obtain rfl := Option.some.inj h
                            exact ARet.mk trivial hX.symm
                          | false =>
                            rw [br_false hb23] at h
                            cbv
                            obtain rfl := Option.some.inj h
                            exact ARet.mk trivial hX.symm
                    | false =>
                      rw [br_false hb20] at h
                      cbv
                      try (rw [hb20]; cbv)
                      try (rw [hb20]; cbv)
                      try (rw [hb20]; cbv)
                      obtain rfl := Option.some.inj h
                      exact ARet.mk trivial hX.symm
                  | false =>
                    rw [br_false hb19] at h
                    cbv
                    obtain rfl := Option.some.inj h
                    exact ARet.mk trivial hX.symm
              | false =>
                rw [br_false hb17] at h
                cbv
                try (rw [hb17]; cbv)
                try (rw [hb17]; cbv)
                try (rw [hb17]; cbv)
                obtain rfl := Option.some.inj h
                exact ARet.mk trivial hX.symm
          | false =>
            rw [br_false hb15] at h
            cbv
            obtain rfl := Option.some.inj h
            exact ARet.mk trivial hX.symm
    | false =>
      rw [br_false hb2] at h
      cbv
      try (rw [hb2]; cbv)
      try (rw [hb2]; cbv)
      try (rw [hb2]; cbv)
      obtain rfl := Option.some.inj h
      exact ARet.mk trivial hX.symm
end Go.Vs
