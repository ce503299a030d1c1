/- Part of the proofs of this seat's laws: Lad. No condition. -/
import Derived.Test.YtieeagobedjogaaTy
import Derived.Test.YtieeagobedjogaaTIRall
import Derived.Test.YtieeagobedjogaaLab
import Derived.Test.YtieeagobedjogaaLac
import Derived.Test.YtieeagobedjogaaLaa
set_option linter.unusedVariables false
set_option linter.unusedSimpArgs false
set_option linter.unusedSectionVars false
namespace Go.Vs
set_option maxRecDepth 100000
def ir62 : J :=
  .seq (.reg none [⟨(some 2), none, .box (.t 0)⟩,
     ⟨(some 4), none, .alloc [.n 2, .n 3, .n 2, .n 1, .r (.v (.int .i64 0))]⟩,
     ⟨(some 5), none, .mv (.k (.c (.n 2)))⟩] [1, 2, 4])
  (.seq (.reg none [⟨(some 7), none, .ld true 5 (.t 2)⟩,
     ⟨(some 8), none, .call 106 true [(.t 7)]⟩,
     ⟨(some 6), none, .alloc [.n 2, .n 3, .n 2, .n 1, .r (.v (.int .i64 0))]⟩,
     ⟨none, none, .st 5 (.t 6) (.t 8)⟩] [1, 2, 4, 6])
  (.seq (.seq (.reg none [⟨(some 9), none, .ld true 5 (.t 2)⟩,
      ⟨(some 10), none, .call 31 true [(.t 9)]⟩,
      ⟨(some 11), none, .not (.t 10)⟩,
      ⟨(some 12), none, .mv (.t 11)⟩,
      ⟨(some 13), (some (12, false)), .mv (.t 1)⟩,
      ⟨(some 14), (some (12, false)), .fa 1 (.t 2)⟩,
      ⟨(some 15), (some (12, false)), .ld false 1 (.t 14)⟩,
      ⟨(some 16), (some (12, false)), .len false (.t 15)⟩,
      ⟨(some 17), (some (12, false)), .bin .sub .i (.t 16) (.k (V.i 1))⟩,
      ⟨(some 18), (some (12, false)), .call 85 true [(.t 13), (.k (V.i 0)), (.t 17)]⟩,
      ⟨(some 19), (some (12, false)), .not (.t 18)⟩,
      ⟨(some 20), none, .pick (.t 12) (.k (V.b true)) (.t 19)⟩] [1, 2, 4, 6, 20])
   (.cond (.t 20)
    (.seq (.reg none [⟨(some 21), none, .ld true 5 (.t 6)⟩,
        ⟨(some 22), none, .bsl 2 []⟩,
        ⟨none, none, .st 5 (.t 4) (.t 21)⟩,
        ⟨(some 5), none, .mv (.t 22)⟩] [4, 5])
     (.ret))
    (.skip)))
  (.seq (.reg none [⟨(some 23), none, .fa 1 (.t 6)⟩,
     ⟨(some 24), none, .ld false 1 (.t 23)⟩,
     ⟨(some 25), none, .mv (.t 1)⟩,
     ⟨(some 26), none, .bsl 2 []⟩,
     ⟨(some 27), none, .ia 3 (.t 24) (.t 25)⟩,
     ⟨(some 28), none, .fa 2 (.t 27)⟩,
     ⟨none, none, .st 1 (.t 28) (.t 26)⟩] [1, 2, 4, 6])
  (.seq (.reg (some [[], [], [1], [], [1, 2, 3], [1, 2, 3, 4], [1, 2, 3, 4, 5], [1, 2, 3, 4, 5, 6], [0, 1, 2, 3, 4, 5, 6, 7], [0, 1, 2, 3, 4, 5, 6, 7, 8]]) [⟨(some 29), none, .ld true 5 (.t 6)⟩,
     ⟨(some 30), none, .fa 1 (.t 2)⟩,
     ⟨(some 31), none, .ld false 1 (.t 30)⟩,
     ⟨(some 32), none, .mv (.t 1)⟩,
     ⟨(some 33), none, .ia 3 (.t 31) (.t 32)⟩,
     ⟨(some 34), none, .fa 2 (.t 33)⟩,
     ⟨(some 35), none, .ld false 1 (.t 34)⟩,
     ⟨(some 36), none, .call 108 true [(.t 35)]⟩,
     ⟨none, none, .st 5 (.t 4) (.t 29)⟩,
     ⟨(some 5), none, .mv (.t 36)⟩] [4, 5])
  (.ret)))))
def rv62 : List RV := [.c 4 true 5, .t 5]
open Go.Proofs Go.IntWalk
set_option linter.unusedVariables false
set_option maxRecDepth 100000
set_option maxHeartbeats 4000000
def S_ClearChute (g : G) (t : TE) (a0 : Centre) (a1 : Int) : Option (Centre × (List Item)) :=
  cl (S_l7Copy g t a0) fun x1 =>
  cl (S_IsCentre g t a0) fun x2 =>
  br x2
  (
   lP (S_l1In g t a1 0 (g.wrap .i64 (g.sub (g.llen (t.r_Chute a0.Chutes)) 1))) fun x3 =>
   br x3
   (
    lP ([]) fun (l1 : List Item) =>
    gd (((0 : Int) ≤ a1 ∧ a1 < (((g.dlen (t.d_Chute x1.Chutes)) : Nat) : Int))) <|
    gt x1.Chutes (g.nat a1) fun x4 =>
    lP (List.set x1.Chutes (g.nat a1) (Chute.mk x4.Cell x4.Room l1)) fun (l2 : List Chute) =>
    gd (((0 : Int) ≤ a1)) <|
    gt a0.Chutes (g.nat a1) fun x5 =>
    cl (S_l7Items g t x5.Held) fun x6 =>
    some (((Centre.mk x1.Belt l2 x1.Inlets x1.Plan x1.Now), x6)))
   (
    lP ([]) fun (l3 : List Item) =>
    some ((x1, l3))))
  (
   lP ([]) fun (l4 : List Item) =>
   some ((x1, l4)))
theorem fit62 : codeFit Try.prog Try.f62.ntmps (Try.f62.body.getD .skip) ir62 = true := by kernel_rfl
theorem c_S_ClearChute {g : G} {t : TE} {a0 : Centre} {a1 : Int} {r : Centre × (List Item)} (hg : g = G.real) (ht : t = TE.real) (h : S_ClearChute g t a0 a1 = some r) : Fn Try.prog 62 [.g (Centre.rs t a0), .c (.v (.int .i64 a1))] (.u [.g (Centre.ds t r.1), .c (.o 2 (t.d_Item r.2))]) := by
  obtain ⟨X, hX⟩ := hide (.u [.g (Centre.ds t r.1), .c (.o 2 (t.d_Item r.2))] : X)
  rw [← hX]
  refine fn_of (rvs := rv62) (j := ir62) Try.func62 rfl fit62 (Nat.le_of_ble_eq_true rfl) (by kernel_rfl) prog_mixed ?_
  intro g2 F hg2 hF
  obtain rfl : g2 = g := hg2.unique.trans hg.symm
  clear hg2
  obtain ⟨wrap, lt, le, eq, quo, rem, band, bor, bxor, shl, shr, nat, int, add, sub, mul, cat, seq, slt, sub3, byte, llen, nadd, nsub, dlen, dapp, dset, drep, rd, rda, up, rsub, dsub, all, sle, slen, hasI, putI, hasS, putS, imin, imax, fzc⟩ := g2
  obtain ⟨r_Item, d_Item, r_Chute, d_Chute, r_Inlet, d_Inlet, r_I64, d_I64, r_U8, d_U8⟩ := t
  obtain ⟨a0_Belt, a0_Chutes, a0_Inlets, a0_Plan, a0_Now⟩ := a0
  unfold S_ClearChute at h
  try dsimp only at h
  cbv
  obtain ⟨x1, hx1, h⟩ := of_cl h
  obtain ⟨x1_Belt, x1_Chutes, x1_Inlets, x1_Plan, x1_Now⟩ := x1
  try dsimp only at h
  refine ACall.mk _ _ rfl (hF _ _ _ (c_S_l7Copy hg ht hx1)) (.inl rfl) (Nat.le_of_ble_eq_true rfl) ?_
  cbv
  obtain ⟨x2, hx2, h⟩ := of_cl h
  try dsimp only at h
  refine ACall.mk _ _ rfl (hF _ _ _ (c_S_IsCentre hg ht hx2)) (.inl rfl) (Nat.le_of_ble_eq_true rfl) ?_
  cbv
  cases hb1 : x2 with
  | true =>
    rw [br_true hb1] at h
    cbv
    try (rw [hb1]; cbv)
    try (rw [hb1]; cbv)
    try (rw [hb1]; cbv)
    try (rw [hb1]; cbv)
    try (rw [hb1]; cbv)
    obtain ⟨x3, hx3, h⟩ := of_lP h
    try dsimp only at h
    refine ACall.mk _ _ rfl (hF _ _ _ (c_S_l1In hg ht hx3)) (.inl rfl) (Nat.le_of_ble_eq_true rfl) ?_
    cbv
    try (rw [hb1]; cbv)
    try (rw [hb1]; cbv)
    cases hb2 : x3 with
    | true =>
      rw [br_true hb2] at h
      cbv
      obtain ⟨l1, hl1, h⟩ := of_lP h
      try dsimp only at h
      refine ANew.mk (d_Item l1) (dlen (d_Item l1)) (by rw [← hl1]; exact lit_Item hg ht []) (by rw [← hl1]; exact litn_Item hg ht []) ?_
      cbv
      obtain ⟨hc1, h⟩ := of_gd h
      refine AStep.mk hc1 ?_
      cbv
      refine AStep.mk ⟨rfl, (dlen_Item hg ht _)⟩ ?_
      cbv
      obtain ⟨x4, hx4, h⟩ := of_gt h
      obtain ⟨x4_Cell, x4_Room, x4_Held⟩ := x4
      try dsimp only at h
      refine AGet.mk _ (d_get_Chute hg ht hx4) ?_
      cbv
      obtain ⟨l2, hl2, h⟩ := of_lP h
      try dsimp only at h
      refine ANew.mk (d_Chute l2) _ (by rw [← hl2]; exact dset_Chute hg ht _ _ (Chute.mk x4_Cell x4_Room l1)) rfl ?_
      have hnl2 : (dlen (d_Chute x1_Chutes)) = (d_Chute l2).length := (by rw [← hl2, dsetl_Chute ht]; exact (dlen_Chute hg ht _))
      cbv
      obtain ⟨hc2, h⟩ := of_gd h
      refine AStep.mk hc2 ?_
      cbv
      obtain ⟨x5, hx5, h⟩ := of_gt h
      obtain ⟨x5_Cell, x5_Room, x5_Held⟩ := x5
      try dsimp only at h
      refine AGet.mk _ (r_get_Chute hg ht hx5) ?_
      cbv
      obtain ⟨x6, hx6, h⟩ := of_cl h
      try dsimp only at h
      refine ACall.mk _ _ rfl (hF _ _ _ (c_S_l7Items hg ht hx6)) (.inl rfl) (Nat.le_of_ble_eq_true rfl) ?_
      cbv
      obtain rfl := Option.some.inj h
      exact ARet.mk ⟨⟨⟨rfl, (dlen_Item hg ht _)⟩, ⟨⟨rfl, hnl2⟩, ⟨⟨rfl, (dlen_Inlet hg ht _)⟩, ⟨rfl, (dlen_I64 hg ht _)⟩⟩⟩⟩, ⟨rfl, (dlen_Item hg ht _)⟩⟩ hX.symm
    | false =>
      rw [br_false hb2] at h
      cbv
      obtain ⟨l3, hl3, h⟩ := of_lP h
      try dsimp only at h
      refine ANew.mk (d_Item l3) (dlen (d_Item l3)) (by rw [← hl3]; exact lit_Item hg ht []) (by rw [← hl3]; exact litn_Item hg ht []) ?_
      cbv
      obtain rfl := Option.some.inj h
      exact ARet.mk ⟨⟨⟨rfl, (dlen_Item hg ht _)⟩, ⟨⟨rfl, (dlen_Chute hg ht _)⟩, ⟨⟨rfl, (dlen_Inlet hg ht _)⟩, ⟨rfl, (dlen_I64 hg ht _)⟩⟩⟩⟩, ⟨rfl, (dlen_Item hg ht _)⟩⟩ hX.symm
  | false =>
    rw [br_false hb1] at h
    cbv
    try (rw [hb1]; cbv)
    try (rw [hb1]; cbv)
    try (rw [hb1]; cbv)
    try (rw [hb1]; cbv)
    try (rw [hb1]; cbv)
    try (rw [hb1]; cbv)
    try (rw [hb1]; cbv)
    obtain ⟨l4, hl4, h⟩ := of_lP h
    try dsimp only at h
    refine ANew.mk (d_Item l4) (dlen (d_Item l4)) (by rw [← hl4]; exact lit_Item hg ht []) (by rw [← hl4]; exact litn_Item hg ht []) ?_
    cbv
    obtain rfl := Option.some.inj h
    exact ARet.mk ⟨⟨⟨rfl, (dlen_Item hg ht _)⟩, ⟨⟨rfl, (dlen_Chute hg ht _)⟩, ⟨⟨rfl, (dlen_Inlet hg ht _)⟩, ⟨rfl, (dlen_I64 hg ht _)⟩⟩⟩⟩, ⟨rfl, (dlen_Item hg ht _)⟩⟩ hX.symm
end Go.Vs
namespace Go.Vs
set_option maxRecDepth 100000
def ir63 : J :=
  .seq (.reg none [⟨(some 2), none, .box (.t 0)⟩,
     ⟨(some 4), none, .alloc [.n 2, .n 3, .n 2, .n 1, .r (.v (.int .i64 0))]⟩,
     ⟨(some 5), none, .mv (.k (.c (.n 2)))⟩] [1, 2, 4])
  (.seq (.reg none [⟨(some 7), none, .ld true 5 (.t 2)⟩,
     ⟨(some 8), none, .call 94 true [(.t 7)]⟩,
     ⟨(some 6), none, .alloc [.n 2, .n 3, .n 2, .n 1, .r (.v (.int .i64 0))]⟩,
     ⟨none, none, .st 5 (.t 6) (.t 8)⟩] [1, 2, 4, 6])
  (.seq (.seq (.reg none [⟨(some 9), none, .ld true 5 (.t 2)⟩,
      ⟨(some 10), none, .call 32 true [(.t 9)]⟩,
      ⟨(some 11), none, .not (.t 10)⟩,
      ⟨(some 12), none, .mv (.t 11)⟩,
      ⟨(some 13), (some (12, false)), .mv (.t 1)⟩,
      ⟨(some 14), (some (12, false)), .bin .lss .i (.t 13) (.k (V.i 0))⟩,
      ⟨(some 15), none, .pick (.t 12) (.k (V.b true)) (.t 14)⟩,
      ⟨(some 16), none, .mv (.t 15)⟩,
      ⟨(some 17), (some (16, false)), .mv (.t 1)⟩,
      ⟨(some 18), (some (16, false)), .fa 1 (.t 2)⟩,
      ⟨(some 19), (some (16, false)), .ld false 1 (.t 18)⟩,
      ⟨(some 20), (some (16, false)), .len false (.t 19)⟩,
      ⟨(some 21), (some (16, false)), .bin .geq .i (.t 17) (.t 20)⟩,
      ⟨(some 22), none, .pick (.t 16) (.k (V.b true)) (.t 21)⟩] [1, 2, 4, 6, 22])
   (.cond (.t 22)
    (.seq (.reg none [⟨(some 23), none, .ld true 5 (.t 6)⟩,
        ⟨none, none, .st 5 (.t 4) (.t 23)⟩,
        ⟨(some 5), none, .mv (.k (.c (.n 2)))⟩] [4, 5])
     (.ret))
    (.skip)))
  (.seq (.reg none [⟨(some 24), none, .fa 1 (.t 6)⟩,
     ⟨(some 25), none, .ld false 1 (.t 24)⟩,
     ⟨(some 26), none, .mv (.t 1)⟩,
     ⟨(some 27), none, .ia 3 (.t 25) (.t 26)⟩,
     ⟨(some 28), none, .fa 2 (.t 27)⟩,
     ⟨none, none, .st 1 (.t 28) (.k (.c (.n 2)))⟩] [1, 2, 4, 6])
  (.seq (.reg (some [[], [], [1], [], [1, 2, 3], [1, 2, 3, 4], [1, 2, 3, 4, 5], [1, 2, 3, 4, 5, 6], [0, 1, 2, 3, 4, 5, 6, 7], [0, 1, 2, 3, 4, 5, 6, 7, 8]]) [⟨(some 29), none, .ld true 5 (.t 6)⟩,
     ⟨(some 30), none, .fa 1 (.t 2)⟩,
     ⟨(some 31), none, .ld false 1 (.t 30)⟩,
     ⟨(some 32), none, .mv (.t 1)⟩,
     ⟨(some 33), none, .ia 3 (.t 31) (.t 32)⟩,
     ⟨(some 34), none, .fa 2 (.t 33)⟩,
     ⟨(some 35), none, .ld false 1 (.t 34)⟩,
     ⟨(some 36), none, .call 109 true [(.t 35)]⟩,
     ⟨none, none, .st 5 (.t 4) (.t 29)⟩,
     ⟨(some 5), none, .mv (.t 36)⟩] [4, 5])
  (.ret)))))
def rv63 : List RV := [.c 4 true 5, .t 5]
open Go.Proofs Go.IntWalk
set_option linter.unusedVariables false
set_option maxRecDepth 100000
set_option maxHeartbeats 4000000
def I_ClearChute (g : G) (t : TE) (a0 : Centre) (a1 : Int) : Option (Centre × (List Item)) :=
  cl (I_copyCentre g t a0) fun x1 =>
  cl (I_IsCentre g t a0) fun x2 =>
  br x2
  (
   br (g.lt a1 0)
   (
    some ((x1, [])))
   (
    br (g.le (g.llen (t.r_Chute a0.Chutes)) a1)
    (
     some ((x1, [])))
    (
     gd (((0 : Int) ≤ a1 ∧ a1 < (((g.dlen (t.d_Chute x1.Chutes)) : Nat) : Int))) <|
     gt x1.Chutes (g.nat a1) fun x3 =>
     lP (List.set x1.Chutes (g.nat a1) (Chute.mk x3.Cell x3.Room [])) fun (l1 : List Chute) =>
     gd (((0 : Int) ≤ a1)) <|
     gt a0.Chutes (g.nat a1) fun x4 =>
     cl (I_copyItems g t x4.Held) fun x5 =>
     some (((Centre.mk x1.Belt l1 x1.Inlets x1.Plan x1.Now), x5)))))
  (
   some ((x1, [])))
theorem fit63 : codeFit Try.prog Try.f63.ntmps (Try.f63.body.getD .skip) ir63 = true := by kernel_rfl
theorem c_I_ClearChute {g : G} {t : TE} {a0 : Centre} {a1 : Int} {r : Centre × (List Item)} (hg : g = G.real) (ht : t = TE.real) (h : I_ClearChute g t a0 a1 = some r) : Fn Try.prog 63 [.g (Centre.rs t a0), .c (.v (.int .i64 a1))] (.u [.g (Centre.ds t r.1), .c (.o 2 (t.d_Item r.2))]) := by
  obtain ⟨X, hX⟩ := hide (.u [.g (Centre.ds t r.1), .c (.o 2 (t.d_Item r.2))] : X)
  rw [← hX]
  refine fn_of (rvs := rv63) (j := ir63) Try.func63 rfl fit63 (Nat.le_of_ble_eq_true rfl) (by kernel_rfl) prog_mixed ?_
  intro g2 F hg2 hF
  obtain rfl : g2 = g := hg2.unique.trans hg.symm
  clear hg2
  obtain ⟨wrap, lt, le, eq, quo, rem, band, bor, bxor, shl, shr, nat, int, add, sub, mul, cat, seq, slt, sub3, byte, llen, nadd, nsub, dlen, dapp, dset, drep, rd, rda, up, rsub, dsub, all, sle, slen, hasI, putI, hasS, putS, imin, imax, fzc⟩ := g2
  obtain ⟨r_Item, d_Item, r_Chute, d_Chute, r_Inlet, d_Inlet, r_I64, d_I64, r_U8, d_U8⟩ := t
  obtain ⟨a0_Belt, a0_Chutes, a0_Inlets, a0_Plan, a0_Now⟩ := a0
  have hnil_Item : d_Item [] = [] := d_nil_Item ht
  have hnil_Chute : d_Chute [] = [] := d_nil_Chute ht
  have hnil_Inlet : d_Inlet [] = [] := d_nil_Inlet ht
  have hnil_I64 : d_I64 [] = [] := d_nil_I64 ht
  have hnil_U8 : d_U8 [] = [] := d_nil_U8 ht
  unfold I_ClearChute at h
  try dsimp only at h
  cbv
  obtain ⟨x1, hx1, h⟩ := of_cl h
  obtain ⟨x1_Belt, x1_Chutes, x1_Inlets, x1_Plan, x1_Now⟩ := x1
  try dsimp only at h
  refine ACall.mk _ _ rfl (hF _ _ _ (c_I_copyCentre hg ht hx1)) (.inl rfl) (Nat.le_of_ble_eq_true rfl) ?_
  cbv
  obtain ⟨x2, hx2, h⟩ := of_cl h
  try dsimp only at h
  refine ACall.mk _ _ rfl (hF _ _ _ (c_I_IsCentre hg ht hx2)) (.inl rfl) (Nat.le_of_ble_eq_true rfl) ?_
  cbv
  cases hb1 : x2 with
  | true =>
    rw [br_true hb1] at h
    cbv
    try (rw [hb1]; cbv)
    try (rw [hb1]; cbv)
    cases hb2 : (lt a1 0) with
    | true =>
      rw [br_true hb2] at h
      cbv
      try (rw [hb2]; cbv)
      try (rw [hb2]; cbv)
      try (rw [hb2]; cbv)
      try (rw [hb2]; cbv)
      try (rw [hb2]; cbv)
      obtain rfl := Option.some.inj h
      exact ARet.mk ⟨⟨rfl, (dlen_Item hg ht _)⟩, ⟨⟨rfl, (dlen_Chute hg ht _)⟩, ⟨⟨rfl, (dlen_Inlet hg ht _)⟩, ⟨rfl, (dlen_I64 hg ht _)⟩⟩⟩⟩ (by rw [hX]; first | rfl | (simp only [Item.ds, Chute.ds, Inlet.ds, Centre.ds, Cur.ds, hnil_Item]; try rfl))
    | false =>
      rw [br_false hb2] at h
      cbv
      try (rw [hb2]; cbv)
      try (rw [hb2]; cbv)
      try (rw [hb2]; cbv)
      try (rw [hb2]; cbv)
      try (rw [hb2]; cbv)
      cases hb3 : (le (llen (r_Chute a0_Chutes)) a1) with
      | true =>
        rw [br_true hb3] at h
        cbv
        obtain rfl := Option.some.inj h
        exact ARet.mk ⟨⟨rfl, (dlen_Item hg ht _)⟩, ⟨⟨rfl, (dlen_Chute hg ht _)⟩, ⟨⟨rfl, (dlen_Inlet hg ht _)⟩, ⟨rfl, (dlen_I64 hg ht _)⟩⟩⟩⟩ (by rw [hX]; first | rfl | (simp only [Item.ds, Chute.ds, Inlet.ds, Centre.ds, Cur.ds, hnil_Item]; try rfl))
      | false =>
        rw [br_false hb3] at h
        cbv
        obtain ⟨hc1, h⟩ := of_gd h
        refine AStep.mk hc1 ?_
        cbv
        obtain ⟨x3, hx3, h⟩ := of_gt h
        obtain ⟨x3_Cell, x3_Room, x3_Held⟩ := x3
        try dsimp only at h
        refine AGet.mk _ (d_get_Chute hg ht hx3) ?_
        cbv
        obtain ⟨l1, hl1, h⟩ := of_lP h
        try dsimp only at h
        refine ANew.mk (d_Chute l1) _ (by rw [← hl1]; have e := dset_Chute hg ht x1_Chutes (nat a1) (Chute.mk x3_Cell x3_Room []); dsimp only [Chute.ds] at e; (try simp only [hnil_Item, hnil_Chute, hnil_Inlet, hnil_I64, hnil_U8] at e); exact e) rfl ?_
        have hnl1 : (dlen (d_Chute x1_Chutes)) = (d_Chute l1).length := (by rw [← hl1, dsetl_Chute ht]; exact (dlen_Chute hg ht _))
        cbv
        obtain ⟨hc2, h⟩ := of_gd h
        refine AStep.mk hc2 ?_
        cbv
        obtain ⟨x4, hx4, h⟩ := of_gt h
        obtain ⟨x4_Cell, x4_Room, x4_Held⟩ := x4
        try dsimp only at h
        refine AGet.mk _ (r_get_Chute hg ht hx4) ?_
        cbv
        obtain ⟨x5, hx5, h⟩ := of_cl h
        try dsimp only at h
        refine ACall.mk _ _ rfl (hF _ _ _ (c_I_copyItems hg ht hx5)) (.inl rfl) (Nat.le_of_ble_eq_true rfl) ?_
        cbv
        obtain rfl := Option.some.inj h
        exact ARet.mk ⟨⟨⟨rfl, (dlen_Item hg ht _)⟩, ⟨⟨rfl, hnl1⟩, ⟨⟨rfl, (dlen_Inlet hg ht _)⟩, ⟨rfl, (dlen_I64 hg ht _)⟩⟩⟩⟩, ⟨rfl, (dlen_Item hg ht _)⟩⟩ hX.symm
  | false =>
    rw [br_false hb1] at h
    cbv
    try (rw [hb1]; cbv)
    try (rw [hb1]; cbv)
    obtain rfl := Option.some.inj h
    exact ARet.mk ⟨⟨rfl, (dlen_Item hg ht _)⟩, ⟨⟨rfl, (dlen_Chute hg ht _)⟩, ⟨⟨rfl, (dlen_Inlet hg ht _)⟩, ⟨rfl, (dlen_I64 hg ht _)⟩⟩⟩⟩ (by rw [hX]; first | rfl | (simp only [Item.ds, Chute.ds, Inlet.ds, Centre.ds, Cur.ds, hnil_Item]; try rfl))
end Go.Vs
namespace Go.Vs
set_option maxRecDepth 100000
def ir17 : J :=
  .seq (.reg none [⟨(some 2), none, .box (.t 0)⟩,
     ⟨(some 4), none, .mv (.k (V.b false))⟩] [1, 2])
  (.seq (.reg none [⟨(some 5), none, .mv (.k (V.i 1048576))⟩] [1, 2, 5])
  (.seq (.reg none [⟨(some 16), none, .ld true 5 (.t 2)⟩,
     ⟨(some 17), none, .mv (.t 5)⟩,
     ⟨(some 18), none, .call 24 true [(.t 16), (.t 17)]⟩,
     ⟨(some 5), none, .mv (.t 18)⟩] [1, 2, 5])
  (.seq (.seq (.reg none [⟨(some 19), none, .mv (.t 5)⟩,
      ⟨(some 20), none, .bin .lss .i (.t 19) (.k (V.i 0))⟩] [1, 2, 20])
   (.cond (.t 20)
    (.seq (.reg none [⟨(some 4), none, .mv (.k (V.b true))⟩] [4])
     (.ret))
    (.skip)))
  (.seq (.reg none [⟨(some 22), none, .ld true 5 (.t 2)⟩,
     ⟨(some 23), none, .call 26 false [(.t 22)]⟩,
     ⟨(some 24), none, .mv (.t 1)⟩,
     ⟨(some 25), none, .call 62 false [(.t 23), (.t 24)]⟩,
     ⟨(some 21), none, .mv (.t 25)⟩,
     ⟨(some 26), none, .ext 0 (.t 21)⟩,
     ⟨(some 27), none, .ext 1 (.t 21)⟩,
     ⟨(some 6), none, .alloc [.n 2, .n 3, .n 2, .n 1, .r (.v (.int .i64 0))]⟩,
     ⟨none, none, .st 5 (.t 6) (.t 26)⟩,
     ⟨(some 7), none, .mv (.t 27)⟩] [1, 2, 6, 7])
  (.seq (.reg none [⟨(some 28), none, .ld true 5 (.t 2)⟩,
     ⟨(some 29), none, .call 26 true [(.t 28)]⟩,
     ⟨(some 8), none, .alloc [.n 2, .n 3, .n 2, .n 1, .r (.v (.int .i64 0))]⟩,
     ⟨none, none, .st 5 (.t 8) (.t 29)⟩] [1, 2, 6, 7, 8])
  (.seq (.reg none [⟨(some 31), none, .ld true 5 (.t 8)⟩,
     ⟨(some 32), none, .mv (.t 1)⟩,
     ⟨(some 33), none, .call 63 true [(.t 31), (.t 32)]⟩,
     ⟨(some 30), none, .mv (.t 33)⟩,
     ⟨(some 34), none, .ext 0 (.t 30)⟩,
     ⟨(some 35), none, .ext 1 (.t 30)⟩,
     ⟨(some 9), none, .alloc [.n 2, .n 3, .n 2, .n 1, .r (.v (.int .i64 0))]⟩,
     ⟨none, none, .st 5 (.t 9) (.t 34)⟩,
     ⟨(some 10), none, .mv (.t 35)⟩] [1, 2, 6, 7, 8, 9, 10])
  (.seq (.seq (.reg none [⟨(some 36), none, .ld true 5 (.t 9)⟩,
      ⟨(some 37), none, .ld true 5 (.t 6)⟩,
      ⟨(some 38), none, .call 28 true [(.t 36), (.t 37)]⟩,
      ⟨(some 39), none, .not (.t 38)⟩,
      ⟨(some 40), none, .mv (.t 39)⟩,
      ⟨(some 41), (some (40, false)), .mv (.t 10)⟩,
      ⟨(some 42), (some (40, false)), .mv (.t 7)⟩,
      ⟨(some 43), (some (40, false)), .call 64 true [(.t 41), (.t 42)]⟩,
      ⟨(some 44), (some (40, false)), .not (.t 43)⟩,
      ⟨(some 45), none, .pick (.t 40) (.k (V.b true)) (.t 44)⟩] [1, 2, 6, 7, 8, 9, 10, 45])
   (.cond (.t 45)
    (.seq (.reg none [⟨(some 4), none, .mv (.k (V.b false))⟩] [4])
     (.ret))
    (.skip)))
  (.seq (.seq (.reg (some [[], [], [1], [0, 1, 2], [0, 1, 2, 3]]) [⟨(some 46), none, .ld true 5 (.t 8)⟩,
      ⟨(some 47), none, .ld true 5 (.t 2)⟩,
      ⟨(some 48), none, .call 26 false [(.t 47)]⟩,
      ⟨(some 49), none, .call 28 true [(.t 46), (.t 48)]⟩,
      ⟨(some 50), none, .not (.t 49)⟩] [1, 2, 6, 7, 8, 9, 10, 50])
   (.cond (.t 50)
    (.seq (.reg none [⟨(some 4), none, .mv (.k (V.b false))⟩] [4])
     (.ret))
    (.skip)))
  (.seq (.reg none [⟨(some 11), none, .mv (.k (V.i 1))⟩] [1, 2, 6, 7, 8, 9, 10, 11])
  (.seq (.reg none [⟨(some 51), none, .ld true 5 (.t 8)⟩,
     ⟨(some 52), none, .mv (.t 11)⟩,
     ⟨(some 53), none, .callm 49 (.t 51) [(.t 52)]⟩,
     ⟨(some 11), none, .mv (.t 53)⟩] [1, 2, 6, 7, 9, 10, 11])
  (.seq (.seq (.reg none [⟨(some 54), none, .mv (.t 11)⟩,
      ⟨(some 55), none, .bin .lss .i (.t 54) (.k (V.i 0))⟩,
      ⟨(some 56), none, .mv (.t 55)⟩,
      ⟨(some 57), (some (56, false)), .ld true 5 (.t 9)⟩,
      ⟨(some 58), (some (56, false)), .ld true 5 (.t 6)⟩,
      ⟨(some 59), (some (56, false)), .call 28 true [(.t 57), (.t 58)]⟩,
      ⟨(some 60), (some (56, false)), .not (.t 59)⟩,
      ⟨(some 61), none, .pick (.t 56) (.k (V.b true)) (.t 60)⟩,
      ⟨(some 62), none, .mv (.t 61)⟩,
      ⟨(some 63), (some (62, false)), .mv (.t 10)⟩,
      ⟨(some 64), (some (62, false)), .mv (.t 7)⟩,
      ⟨(some 65), (some (62, false)), .call 64 true [(.t 63), (.t 64)]⟩,
      ⟨(some 66), (some (62, false)), .not (.t 65)⟩,
      ⟨(some 67), none, .pick (.t 62) (.k (V.b true)) (.t 66)⟩] [1, 2, 6, 7, 9, 10, 67])
   (.cond (.t 67)
    (.seq (.reg none [⟨(some 4), none, .mv (.k (V.b false))⟩] [4])
     (.ret))
    (.skip)))
  (.seq (.reg none [⟨(some 12), none, .mv (.k (V.i 1))⟩] [1, 2, 6, 7, 9, 10, 12])
  (.seq (.reg none [⟨(some 68), none, .ld true 5 (.t 9)⟩,
     ⟨(some 69), none, .mv (.t 12)⟩,
     ⟨(some 70), none, .callm 49 (.t 68) [(.t 69)]⟩,
     ⟨(some 12), none, .mv (.t 70)⟩] [1, 2, 6, 7, 9, 10, 12])
  (.seq (.reg none [⟨(some 71), none, .mv (.t 10)⟩,
     ⟨(some 72), none, .mv (.t 12)⟩,
     ⟨(some 73), none, .callm 65 (.t 71) [(.t 72)]⟩,
     ⟨(some 12), none, .mv (.t 73)⟩] [1, 2, 6, 7, 9, 10, 12])
  (.seq (.reg none [⟨(some 13), none, .mv (.k (V.i 1))⟩] [1, 2, 6, 7, 9, 10, 12, 13])
  (.seq (.reg none [⟨(some 74), none, .ld true 5 (.t 9)⟩,
     ⟨(some 75), none, .mv (.t 13)⟩,
     ⟨(some 76), none, .call 50 true [(.t 74), (.t 75)]⟩,
     ⟨(some 13), none, .mv (.t 76)⟩] [1, 2, 6, 7, 9, 10, 12, 13])
  (.seq (.seq (.reg none [⟨(some 77), none, .mv (.t 13)⟩,
      ⟨(some 78), none, .bin .lss .i (.t 77) (.k (V.i 0))⟩] [1, 2, 6, 7, 9, 10, 12, 13, 78])
   (.cond (.t 78)
    (.seq (.reg none [⟨(some 4), none, .mv (.k (V.b false))⟩] [4])
     (.ret))
    (.skip)))
  (.seq (.reg none [⟨(some 79), none, .mv (.t 10)⟩,
     ⟨(some 80), none, .mv (.t 13)⟩,
     ⟨(some 81), none, .call 66 true [(.t 79), (.t 80)]⟩,
     ⟨(some 13), none, .mv (.t 81)⟩] [1, 2, 6, 7, 9, 10, 12, 13])
  (.seq (.seq (.reg none [⟨(some 82), none, .mv (.t 13)⟩,
      ⟨(some 83), none, .bin .lss .i (.t 82) (.k (V.i 0))⟩] [1, 2, 6, 7, 9, 10, 12, 13, 83])
   (.cond (.t 83)
    (.seq (.reg none [⟨(some 4), none, .mv (.k (V.b false))⟩] [4])
     (.ret))
    (.skip)))
  (.seq (.seq (.reg none [⟨(some 84), none, .mv (.t 13)⟩,
      ⟨(some 85), none, .mv (.t 12)⟩,
      ⟨(some 86), none, .bin .neq .i (.t 84) (.t 85)⟩] [1, 2, 6, 7, 9, 10, 12, 86])
   (.cond (.t 86)
    (.seq (.reg none [⟨(some 4), none, .mv (.k (V.b false))⟩] [4])
     (.ret))
    (.skip)))
  (.seq (.reg none [⟨(some 88), none, .ld true 5 (.t 2)⟩,
     ⟨(some 89), none, .call 26 false [(.t 88)]⟩,
     ⟨(some 90), none, .mv (.t 1)⟩,
     ⟨(some 91), none, .call 63 false [(.t 89), (.t 90)]⟩,
     ⟨(some 87), none, .mv (.t 91)⟩,
     ⟨(some 92), none, .ext 0 (.t 87)⟩,
     ⟨(some 93), none, .ext 1 (.t 87)⟩,
     ⟨(some 14), none, .alloc [.n 2, .n 3, .n 2, .n 1, .r (.v (.int .i64 0))]⟩,
     ⟨none, none, .st 5 (.t 14) (.t 92)⟩,
     ⟨(some 15), none, .mv (.t 93)⟩] [6, 7, 9, 10, 12, 14, 15])
  (.seq (.seq (.reg none [⟨(some 94), none, .ld true 5 (.t 14)⟩,
      ⟨(some 95), none, .ld true 5 (.t 6)⟩,
      ⟨(some 96), none, .call 28 true [(.t 94), (.t 95)]⟩,
      ⟨(some 97), none, .not (.t 96)⟩,
      ⟨(some 98), none, .mv (.t 97)⟩,
      ⟨(some 99), (some (98, false)), .mv (.t 15)⟩,
      ⟨(some 100), (some (98, false)), .mv (.t 7)⟩,
      ⟨(some 101), (some (98, false)), .call 64 true [(.t 99), (.t 100)]⟩,
      ⟨(some 102), (some (98, false)), .not (.t 101)⟩,
      ⟨(some 103), none, .pick (.t 98) (.k (V.b true)) (.t 102)⟩] [9, 10, 12, 103])
   (.cond (.t 103)
    (.seq (.reg none [⟨(some 4), none, .mv (.k (V.b false))⟩] [4])
     (.ret))
    (.skip)))
  (.seq (.reg none [⟨(some 13), none, .mv (.k (V.i 1))⟩] [9, 10, 12, 13])
  (.seq (.reg none [⟨(some 104), none, .ld true 5 (.t 9)⟩,
     ⟨(some 105), none, .mv (.t 13)⟩,
     ⟨(some 106), none, .call 50 true [(.t 104), (.t 105)]⟩,
     ⟨(some 13), none, .mv (.t 106)⟩] [10, 12, 13])
  (.seq (.seq (.reg none [⟨(some 107), none, .mv (.t 13)⟩,
      ⟨(some 108), none, .bin .lss .i (.t 107) (.k (V.i 0))⟩] [10, 12, 13, 108])
   (.cond (.t 108)
    (.seq (.reg none [⟨(some 4), none, .mv (.k (V.b false))⟩] [4])
     (.ret))
    (.skip)))
  (.seq (.reg none [⟨(some 109), none, .mv (.t 10)⟩,
     ⟨(some 110), none, .mv (.t 13)⟩,
     ⟨(some 111), none, .call 66 true [(.t 109), (.t 110)]⟩,
     ⟨(some 13), none, .mv (.t 111)⟩] [12, 13])
  (.seq (.seq (.reg none [⟨(some 112), none, .mv (.t 13)⟩,
      ⟨(some 113), none, .bin .lss .i (.t 112) (.k (V.i 0))⟩] [12, 13, 113])
   (.cond (.t 113)
    (.seq (.reg none [⟨(some 4), none, .mv (.k (V.b false))⟩] [4])
     (.ret))
    (.skip)))
  (.seq (.seq (.reg none [⟨(some 114), none, .mv (.t 13)⟩,
      ⟨(some 115), none, .mv (.t 12)⟩,
      ⟨(some 116), none, .bin .neq .i (.t 114) (.t 115)⟩] [116])
   (.cond (.t 116)
    (.seq (.reg none [⟨(some 4), none, .mv (.k (V.b false))⟩] [4])
     (.ret))
    (.skip)))
  (.seq (.reg none [⟨(some 4), none, .mv (.k (V.b true))⟩] [4])
  (.ret))))))))))))))))))))))))))))))
def rv17 : List RV := [.t 4]
open Go.Proofs Go.IntWalk
set_option linter.unusedVariables false
set_option maxRecDepth 100000
set_option maxHeartbeats 4000000
def L_FnExactClearChute (g : G) (t : TE) (a0 : Centre) (a1 : Int) : Option Bool :=
  lP (L_szCentre g t a0 1048576) fun x1 =>
  br (g.lt x1 0)
  (
   some true)
  (
   cl (L_toCentre g t a0) fun x2 =>
   cl (S_ClearChute g t x2 a1) fun x3 =>
   cl (L_toCentre g t a0) fun x4 =>
   cl (I_ClearChute g t x4 a1) fun x5 =>
   cl (L_eqCentre g t (Centre.mk x5.1.Belt x5.1.Chutes x5.1.Inlets x5.1.Plan x5.1.Now) (Centre.mk x3.1.Belt x3.1.Chutes x3.1.Inlets x3.1.Plan x3.1.Now)) fun x6 =>
   br x6
   (
    cl (L_eqItemS g t x5.2 x3.2) fun x7 =>
    br x7
    (
     cl (L_toCentre g t a0) fun x8 =>
     cl (L_eqCentre g t x4 x8) fun x9 =>
     br x9
     (
      cl (L_markCentre g t x4 1) fun x10 =>
      gd ((x10.2.Belt.length = x4.Belt.length)) <|
      gd ((x10.2.Chutes.length = x4.Chutes.length)) <|
      gd ((x10.2.Inlets.length = x4.Inlets.length)) <|
      gd ((x10.2.Plan.length = x4.Plan.length)) <|
      br (g.lt x10.1 0)
      (
       some false)
      (
       cl (L_eqCentre g t (Centre.mk x5.1.Belt x5.1.Chutes x5.1.Inlets x5.1.Plan x5.1.Now) (Centre.mk x3.1.Belt x3.1.Chutes x3.1.Inlets x3.1.Plan x3.1.Now)) fun x11 =>
       br x11
       (
        cl (L_eqItemS g t x5.2 x3.2) fun x12 =>
        br x12
        (
         cl (L_markCentre g t (Centre.mk x5.1.Belt x5.1.Chutes x5.1.Inlets x5.1.Plan x5.1.Now) 1) fun x13 =>
         gd ((x13.2.Belt.length = x5.1.Belt.length)) <|
         gd ((x13.2.Chutes.length = x5.1.Chutes.length)) <|
         gd ((x13.2.Inlets.length = x5.1.Inlets.length)) <|
         gd ((x13.2.Plan.length = x5.1.Plan.length)) <|
         cl (L_markItemS g t x5.2 x13.1) fun x14 =>
         gd ((x14.2.length = x5.2.length)) <|
         lP (L_heldCentre g t (Centre.mk x13.2.Belt x13.2.Chutes x13.2.Inlets x13.2.Plan x5.1.Now) 1) fun x15 =>
         br (g.lt x15 0)
         (
          some false)
         (
          lP (L_heldItemS g t x14.2 x15) fun x16 =>
          br (g.lt x16 0)
          (
           some false)
          (
           br (g.eq x16 x14.1)
           (
            cl (L_toCentre g t a0) fun x17 =>
            cl (I_ClearChute g t x17 a1) fun x18 =>
            cl (L_eqCentre g t (Centre.mk x18.1.Belt x18.1.Chutes x18.1.Inlets x18.1.Plan x18.1.Now) (Centre.mk x3.1.Belt x3.1.Chutes x3.1.Inlets x3.1.Plan x3.1.Now)) fun x19 =>
            br x19
            (
             cl (L_eqItemS g t x18.2 x3.2) fun x20 =>
             br x20
             (
              lP (L_heldCentre g t (Centre.mk x13.2.Belt x13.2.Chutes x13.2.Inlets x13.2.Plan x5.1.Now) 1) fun x21 =>
              br (g.lt x21 0)
              (
               some false)
              (
               lP (L_heldItemS g t x14.2 x21) fun x22 =>
               br (g.lt x22 0)
               (
                some false)
               (
                br (g.eq x22 x14.1)
                (
                 some true)
                (
                 some false))))
             (
              some false))
            (
             some false))
           (
            some false))))
        (
         some false))
       (
        some false)))
     (
      some false))
    (
     some false))
   (
    some false))
theorem fit17 : codeFit Try.prog Try.f17.ntmps (Try.f17.body.getD .skip) ir17 = true := by kernel_rfl
theorem c_L_FnExactClearChute {g : G} {t : TE} {a0 : Centre} {a1 : Int} {r : Bool} (hg : g = G.real) (ht : t = TE.real) (h : L_FnExactClearChute g t a0 a1 = some r) : Fn Try.prog 17 [.g (Centre.rs t a0), .c (.v (.int .i64 a1))] (.c (.r (.v (.bool r)))) := by
  obtain ⟨X, hX⟩ := hide (.c (.r (.v (.bool r))) : X)
  rw [← hX]
  refine fn_of (rvs := rv17) (j := ir17) Try.func17 rfl fit17 (Nat.le_of_ble_eq_true rfl) (by kernel_rfl) prog_mixed ?_
  intro g2 F hg2 hF
  obtain rfl : g2 = g := hg2.unique.trans hg.symm
  clear hg2
  obtain ⟨wrap, lt, le, eq, quo, rem, band, bor, bxor, shl, shr, nat, int, add, sub, mul, cat, seq, slt, sub3, byte, llen, nadd, nsub, dlen, dapp, dset, drep, rd, rda, up, rsub, dsub, all, sle, slen, hasI, putI, hasS, putS, imin, imax, fzc⟩ := g2
  obtain ⟨r_Item, d_Item, r_Chute, d_Chute, r_Inlet, d_Inlet, r_I64, d_I64, r_U8, d_U8⟩ := t
  obtain ⟨a0_Belt, a0_Chutes, a0_Inlets, a0_Plan, a0_Now⟩ := a0
  have hfr_Item : ∀ l, freshDss (d_Item l) = true := fresh_Item ht
  have hrda_Item : ∀ l, rda (d_Item l) = r_Item l := rda_Item hg ht
  have hfr_Chute : ∀ l, freshDss (d_Chute l) = true := fresh_Chute ht
  have hrda_Chute : ∀ l, rda (d_Chute l) = r_Chute l := rda_Chute hg ht
  have hfr_Inlet : ∀ l, freshDss (d_Inlet l) = true := fresh_Inlet ht
  have hrda_Inlet : ∀ l, rda (d_Inlet l) = r_Inlet l := rda_Inlet hg ht
  have hfr_I64 : ∀ l, freshDss (d_I64 l) = true := fresh_I64 ht
  have hrda_I64 : ∀ l, rda (d_I64 l) = r_I64 l := rda_I64 hg ht
  unfold L_FnExactClearChute at h
  try dsimp only at h
  cbv
  obtain ⟨x1, hx1, h⟩ := of_lP h
  try dsimp only at h
  refine ACall.mk _ _ rfl (hF _ _ _ (c_L_szCentre hg ht hx1)) (.inl rfl) (Nat.le_of_ble_eq_true rfl) ?_
  cbv
  cases hb1 : (lt x1 0) with
  | true =>
    rw [br_true hb1] at h
    cbv
    obtain rfl := Option.some.inj h
    exact ARet.mk trivial hX.symm
  | false =>
    rw [br_false hb1] at h
    cbv
    obtain ⟨x2, hx2, h⟩ := of_cl h
    obtain ⟨x2_Belt, x2_Chutes, x2_Inlets, x2_Plan, x2_Now⟩ := x2
    try dsimp only at h
    refine ACallR.mk _ _ (.g [.r (.s 2 (r_Item x2_Belt)), .r (.s 3 (r_Chute x2_Chutes)), .r (.s 2 (r_Inlet x2_Inlets)), .r (.s 1 (r_I64 x2_Plan)), .r (.v (.int .i64 x2_Now))]) rfl (hF _ _ _ (c_L_toCentre hg ht hx2)) (.inl rfl) (Nat.le_of_ble_eq_true rfl) (by cbv; (try simp only [hrda_Chute, hrda_I64, hrda_Inlet, hrda_Item])) ?_
    cbv
    obtain ⟨x3, hx3, h⟩ := of_cl h
    obtain ⟨⟨x3_1_Belt, x3_1_Chutes, x3_1_Inlets, x3_1_Plan, x3_1_Now⟩, x3_2⟩ := x3
    try dsimp only at h
    refine ACallR.mk _ _ (.u [.g [.r (.s 2 (r_Item x3_1_Belt)), .r (.s 3 (r_Chute x3_1_Chutes)), .r (.s 2 (r_Inlet x3_1_Inlets)), .r (.s 1 (r_I64 x3_1_Plan)), .r (.v (.int .i64 x3_1_Now))], .c (.r (.s 2 (r_Item x3_2)))]) rfl (hF _ _ _ (c_S_ClearChute hg ht hx3)) (.inl rfl) (Nat.le_of_ble_eq_true rfl) (by cbv; (try simp only [hrda_Chute, hrda_I64, hrda_Inlet, hrda_Item])) ?_
    cbv
    obtain ⟨x4, hx4, h⟩ := of_cl h
    obtain ⟨x4_Belt, x4_Chutes, x4_Inlets, x4_Plan, x4_Now⟩ := x4
    try dsimp only at h
    refine ACall.mk _ _ rfl (hF _ _ _ (c_L_toCentre hg ht hx4)) (.inl rfl) (Nat.le_of_ble_eq_true rfl) ?_
    cbv
    refine AStep.mk ⟨(lend_Item ht (dlen_Item hg ht _)), ⟨(lend_Chute ht (dlen_Chute hg ht _)), ⟨(lend_Inlet ht (dlen_Inlet hg ht _)), (lend_I64 ht (dlen_I64 hg ht _))⟩⟩⟩ ?_
    cbv
    obtain ⟨x5, hx5, h⟩ := of_cl h
    obtain ⟨⟨x5_1_Belt, x5_1_Chutes, x5_1_Inlets, x5_1_Plan, x5_1_Now⟩, x5_2⟩ := x5
    try dsimp only at h
    refine ACall.mk _ _ (by rw [show rd (d_Item x4_Belt) 0 (dlen (d_Item x4_Belt)) = r_Item x4_Belt from rdw_Item hg ht (dlen_Item hg ht _), show rd (d_Chute x4_Chutes) 0 (dlen (d_Chute x4_Chutes)) = r_Chute x4_Chutes from rdw_Chute hg ht (dlen_Chute hg ht _), show rd (d_Inlet x4_Inlets) 0 (dlen (d_Inlet x4_Inlets)) = r_Inlet x4_Inlets from rdw_Inlet hg ht (dlen_Inlet hg ht _), show rd (d_I64 x4_Plan) 0 (dlen (d_I64 x4_Plan)) = r_I64 x4_Plan from rdw_I64 hg ht (dlen_I64 hg ht _)]; try rfl) (hF _ _ _ (c_I_ClearChute hg ht hx5)) (.inr (by simp only [Go.Vs.X.fresh, Go.Vs.X.freshs, freshD, freshDs, Bool.and_self, Centre.ds, hfr_Chute, hfr_I64, hfr_Inlet, hfr_Item])) (Nat.le_of_ble_eq_true rfl) ?_
    cbv
    refine AStep.mk ⟨(lend_Item ht (dlen_Item hg ht _)), ⟨(lend_Chute ht (dlen_Chute hg ht _)), ⟨(lend_Inlet ht (dlen_Inlet hg ht _)), (lend_I64 ht (dlen_I64 hg ht _))⟩⟩⟩ ?_
    cbv
    obtain ⟨x6, hx6, h⟩ := of_cl h
    try dsimp only at h
    refine ACall.mk _ _ (by rw [show rd (d_Item x5_1_Belt) 0 (dlen (d_Item x5_1_Belt)) = r_Item x5_1_Belt from rdw_Item hg ht (dlen_Item hg ht _), show rd (d_Chute x5_1_Chutes) 0 (dlen (d_Chute x5_1_Chutes)) = r_Chute x5_1_Chutes from rdw_Chute hg ht (dlen_Chute hg ht _), show rd (d_Inlet x5_1_Inlets) 0 (dlen (d_Inlet x5_1_Inlets)) = r_Inlet x5_1_Inlets from rdw_Inlet hg ht (dlen_Inlet hg ht _), show rd (d_I64 x5_1_Plan) 0 (dlen (d_I64 x5_1_Plan)) = r_I64 x5_1_Plan from rdw_I64 hg ht (dlen_I64 hg ht _)]; try rfl) (hF _ _ _ (c_L_eqCentre hg ht hx6)) (.inr rfl) (Nat.le_of_ble_eq_true rfl) ?_
    cbv
    cases hb2 : x6 with
    | true =>
      rw [br_true hb2] at h
      cbv
      try (rw [hb2]; cbv)
      try (rw [hb2]; cbv)
      refine AStep.mk (lend_Item ht (dlen_Item hg ht _)) ?_
      cbv
      obtain ⟨x7, hx7, h⟩ := of_cl h
      try dsimp only at h
      refine ACall.mk _ _ (by rw [show rd (d_Item x5_2) 0 (dlen (d_Item x5_2)) = r_Item x5_2 from rdw_Item hg ht (dlen_Item hg ht _)]; try rfl) (hF _ _ _ (c_L_eqItemS hg ht hx7)) (.inr rfl) (Nat.le_of_ble_eq_true rfl) ?_
      cbv
      try (rw [hb2]; cbv)
      try (rw [hb2]; cbv)
      cases hb3 : x7 with
      | true =>
        rw [br_true hb3] at h
        cbv
        obtain ⟨x8, hx8, h⟩ := of_cl h
        obtain ⟨x8_Belt, x8_Chutes, x8_Inlets, x8_Plan, x8_Now⟩ := x8
        try dsimp only at h
        refine ACallR.mk _ _ (.g [.r (.s 2 (r_Item x8_Belt)), .r (.s 3 (r_Chute x8_Chutes)), .r (.s 2 (r_Inlet x8_Inlets)), .r (.s 1 (r_I64 x8_Plan)), .r (.v (.int .i64 x8_Now))]) rfl (hF _ _ _ (c_L_toCentre hg ht hx8)) (.inl rfl) (Nat.le_of_ble_eq_true rfl) (by cbv; (try simp only [hrda_Chute, hrda_I64, hrda_Inlet, hrda_Item])) ?_
        cbv
        refine AStep.mk ⟨(lend_Item ht (dlen_Item hg ht _)), ⟨(lend_Chute ht (dlen_Chute hg ht _)), ⟨(lend_Inlet ht (dlen_Inlet hg ht _)), (lend_I64 ht (dlen_I64 hg ht _))⟩⟩⟩ ?_
        cbv
        obtain ⟨x9, hx9, h⟩ := of_cl h
        try dsimp only at h
        refine ACall.mk _ _ (by rw [show rd (d_Item x4_Belt) 0 (dlen (d_Item x4_Belt)) = r_Item x4_Belt from rdw_Item hg ht (dlen_Item hg ht _), show rd (d_Chute x4_Chutes) 0 (dlen (d_Chute x4_Chutes)) = r_Chute x4_Chutes from rdw_Chute hg ht (dlen_Chute hg ht _), show rd (d_Inlet x4_Inlets) 0 (dlen (d_Inlet x4_Inlets)) = r_Inlet x4_Inlets from rdw_Inlet hg ht (dlen_Inlet hg ht _), show rd (d_I64 x4_Plan) 0 (dlen (d_I64 x4_Plan)) = r_I64 x4_Plan from rdw_I64 hg ht (dlen_I64 hg ht _)]; try rfl) (hF _ _ _ (c_L_eqCentre hg ht hx9)) (.inr rfl) (Nat.le_of_ble_eq_true rfl) ?_
        cbv
        cases hb4 : x9 with
        | true =>
          rw [br_true hb4] at h
          cbv
          refine AStep.mk ⟨⟨rfl, (dlen_Item hg ht _)⟩, ⟨⟨rfl, (dlen_Chute hg ht _)⟩, ⟨⟨rfl, (dlen_Inlet hg ht _)⟩, ⟨rfl, (dlen_I64 hg ht _)⟩⟩⟩⟩ ?_
          cbv
          obtain ⟨x10, hx10, h⟩ := of_cl h
          obtain ⟨x10_1, ⟨x10_2_Belt, x10_2_Chutes, x10_2_Inlets, x10_2_Plan, x10_2_Now⟩⟩ := x10
          try dsimp only at h
          refine ACallM.mk _ _ _ _ rfl rfl (hF _ _ _ (c_L_markCentre hg ht hx10)) rfl (Nat.le_of_ble_eq_true rfl) (Nat.le_of_ble_eq_true rfl) ?_
          cbv
          obtain ⟨hc1, h⟩ := of_gd h
          obtain ⟨hc2, h⟩ := of_gd h
          obtain ⟨hc3, h⟩ := of_gd h
          obtain ⟨hc4, h⟩ := of_gd h
          cases hb5 : (lt x10_1 0) with
          | true =>
            rw [br_true hb5] at h
            cbv
            try (rw [hb5]; cbv)
            try (rw [hb5]; cbv)
            try (rw [hb5]; cbv)
            try (rw [hb5]; cbv)
            obtain rfl := Option.some.inj h
            exact ARet.mk trivial hX.symm
          | false =>
            rw [br_false hb5] at h
            cbv
            try (rw [hb5]; cbv)
            try (rw [hb5]; cbv)
            refine AStep.mk ⟨(lend_Item ht (dlen_Item hg ht _)), ⟨(lend_Chute ht (dlen_Chute hg ht _)), ⟨(lend_Inlet ht (dlen_Inlet hg ht _)), (lend_I64 ht (dlen_I64 hg ht _))⟩⟩⟩ ?_
            cbv
            obtain ⟨x11, hx11, h⟩ := of_cl h
            try dsimp only at h
            refine ACall.mk _ _ (by rw [show rd (d_Item x5_1_Belt) 0 (dlen (d_Item x5_1_Belt)) = r_Item x5_1_Belt from rdw_Item hg ht (dlen_Item hg ht _), show rd (d_Chute x5_1_Chutes) 0 (dlen (d_Chute x5_1_Chutes)) = r_Chute x5_1_Chutes from rdw_Chute hg ht (dlen_Chute hg ht _), show rd (d_Inlet x5_1_Inlets) 0 (dlen (d_Inlet x5_1_Inlets)) = r_Inlet x5_1_Inlets from rdw_Inlet hg ht (dlen_Inlet hg ht _), show rd (d_I64 x5_1_Plan) 0 (dlen (d_I64 x5_1_Plan)) = r_I64 x5_1_Plan from rdw_I64 hg ht (dlen_I64 hg ht _)]; try rfl) (hF _ _ _ (c_L_eqCentre hg ht hx11)) (.inr rfl) (Nat.le_of_ble_eq_true rfl) ?_
            cbv
            try (rw [hb5]; cbv)
            try (rw [hb5]; cbv)
            cases hb6 : x11 with
            | true =>
              rw [br_true hb6] at h
              cbv
              try (rw [hb6]; cbv)
              try (rw [hb6]; cbv)
              refine AStep.mk (lend_Item ht (dlen_Item hg ht _)) ?_
              cbv
              obtain ⟨x12, hx12, h⟩ := of_cl h
              try dsimp only at h
              refine ACall.mk _ _ (by rw [show rd (d_Item x5_2) 0 (dlen (d_Item x5_2)) = r_Item x5_2 from rdw_Item hg ht (dlen_Item hg ht _)]; try rfl) (hF _ _ _ (c_L_eqItemS hg ht hx12)) (.inr rfl) (Nat.le_of_ble_eq_true rfl) ?_
              cbv
              try (rw [hb6]; cbv)
              try (rw [hb6]; cbv)
              cases hb7 : x12 with
              | true =>
                rw [br_true hb7] at h
                cbv
                refine AStep.mk ⟨⟨rfl, (dlen_Item hg ht _)⟩, ⟨⟨rfl, (dlen_Chute hg ht _)⟩, ⟨⟨rfl, (dlen_Inlet hg ht _)⟩, ⟨rfl, (dlen_I64 hg ht _)⟩⟩⟩⟩ ?_
                cbv
                obtain ⟨x13, hx13, h⟩ := of_cl h
                obtain ⟨x13_1, ⟨x13_2_Belt, x13_2_Chutes, x13_2_Inlets, x13_2_Plan, x13_2_Now⟩⟩ := x13
                try dsimp only at h
                refine ACallM.mk _ _ _ _ rfl rfl (hF _ _ _ (c_L_markCentre hg ht hx13)) rfl (Nat.le_of_ble_eq_true rfl) (Nat.le_of_ble_eq_true rfl) ?_
                cbv
                obtain ⟨hc5, h⟩ := of_gd h
                obtain ⟨hc6, h⟩ := of_gd h
                obtain ⟨hc7, h⟩ := of_gd h
                obtain ⟨hc8, h⟩ := of_gd h
                refine AStep.mk ⟨rfl, (dlen_Item hg ht _)⟩ ?_
                cbv
                obtain ⟨x14, hx14, h⟩ := of_cl h
                obtain ⟨x14_1, x14_2⟩ := x14
                try dsimp only at h
                refine ACallM.mk _ _ _ _ rfl rfl (hF _ _ _ (c_L_markItemS hg ht hx14)) rfl (Nat.le_of_ble_eq_true rfl) (Nat.le_of_ble_eq_true rfl) ?_
                cbv
                obtain ⟨hc9, h⟩ := of_gd h
                refine AStep.mk ⟨(lend_Item ht (lenp_Item ht (dlen_Item hg ht _) hc5)), ⟨(lend_Chute ht (lenp_Chute ht (dlen_Chute hg ht _) hc6)), ⟨(lend_Inlet ht (lenp_Inlet ht (dlen_Inlet hg ht _) hc7)), (lend_I64 ht (lenp_I64 ht (dlen_I64 hg ht _) hc8))⟩⟩⟩ ?_
                cbv
                obtain ⟨x15, hx15, h⟩ := of_lP h
                try dsimp only at h
                refine ACall.mk _ _ (by rw [show rd (d_Item x13_2_Belt) 0 (dlen (d_Item x5_1_Belt)) = r_Item x13_2_Belt from rdw_Item hg ht (lenp_Item ht (dlen_Item hg ht _) hc5), show rd (d_Chute x13_2_Chutes) 0 (dlen (d_Chute x5_1_Chutes)) = r_Chute x13_2_Chutes from rdw_Chute hg ht (lenp_Chute ht (dlen_Chute hg ht _) hc6), show rd (d_Inlet x13_2_Inlets) 0 (dlen (d_Inlet x5_1_Inlets)) = r_Inlet x13_2_Inlets from rdw_Inlet hg ht (lenp_Inlet ht (dlen_Inlet hg ht _) hc7), show rd (d_I64 x13_2_Plan) 0 (dlen (d_I64 x5_1_Plan)) = r_I64 x13_2_Plan from rdw_I64 hg ht (lenp_I64 ht (dlen_I64 hg ht _) hc8)]; try rfl) (hF _ _ _ (c_L_heldCentre hg ht hx15)) (.inr rfl) (Nat.le_of_ble_eq_true rfl) ?_
                cbv
                cases hb8 : (lt x15 0) with
                | true =>
                  rw [br_true hb8] at h
                  cbv
                  obtain rfl := Option.some.inj h
                  exact ARet.mk trivial hX.symm
                | false =>
                  rw [br_false hb8] at h
                  cbv
                  refine AStep.mk (lend_Item ht (lenp_Item ht (dlen_Item hg ht _) hc9)) ?_
                  cbv
                  obtain ⟨x16, hx16, h⟩ := of_lP h
                  try dsimp only at h
                  refine ACall.mk _ _ (by rw [show rd (d_Item x14_2) 0 (dlen (d_Item x5_2)) = r_Item x14_2 from rdw_Item hg ht (lenp_Item ht (dlen_Item hg ht _) hc9)]; try rfl) (hF _ _ _ (c_L_heldItemS hg ht hx16)) (.inr rfl) (Nat.le_of_ble_eq_true rfl) ?_
                  cbv
                  cases hb9 : (lt x16 0) with
                  | true =>
                    rw [br_true hb9] at h
                    cbv
                    obtain rfl := Option.some.inj h
                    exact ARet.mk trivial hX.symm
                  | false =>
                    rw [br_false hb9] at h
                    cbv
                    cases hb10 : (eq x16 x14_1) with
                    | true =>
                      rw [br_true hb10] at h
                      cbv
                      obtain ⟨x17, hx17, h⟩ := of_cl h
                      obtain ⟨x17_Belt, x17_Chutes, x17_Inlets, x17_Plan, x17_Now⟩ := x17
                      try dsimp only at h
                      refine ACallR.mk _ _ (.g [.r (.s 2 (r_Item x17_Belt)), .r (.s 3 (r_Chute x17_Chutes)), .r (.s 2 (r_Inlet x17_Inlets)), .r (.s 1 (r_I64 x17_Plan)), .r (.v (.int .i64 x17_Now))]) rfl (hF _ _ _ (c_L_toCentre hg ht hx17)) (.inl rfl) (Nat.le_of_ble_eq_true rfl) (by cbv; (try simp only [hrda_Chute, hrda_I64, hrda_Inlet, hrda_Item])) ?_
                      cbv
                      obtain ⟨x18, hx18, h⟩ := of_cl h
                      obtain ⟨⟨x18_1_Belt, x18_1_Chutes, x18_1_Inlets, x18_1_Plan, x18_1_Now⟩, x18_2⟩ := x18
                      try dsimp only at h
                      refine ACallR.mk _ _ (.u [.g [.r (.s 2 (r_Item x18_1_Belt)), .r (.s 3 (r_Chute x18_1_Chutes)), .r (.s 2 (r_Inlet x18_1_Inlets)), .r (.s 1 (r_I64 x18_1_Plan)), .r (.v (.int .i64 x18_1_Now))], .c (.r (.s 2 (r_Item x18_2)))]) rfl (hF _ _ _ (c_I_ClearChute hg ht hx18)) (.inl rfl) (Nat.le_of_ble_eq_true rfl) (by cbv; (try simp only [hrda_Chute, hrda_I64, hrda_Inlet, hrda_Item])) ?_
                      cbv
                      obtain ⟨x19, hx19, h⟩ := of_cl h
                      try dsimp only at h
                      refine ACall.mk _ _ rfl (hF _ _ _ (c_L_eqCentre hg ht hx19)) (.inl rfl) (Nat.le_of_ble_eq_true rfl) ?_
                      cbv
                      cases hb11 : x19 with
                      | true =>
                        rw [br_true hb11] at h
                        cbv
                        try (rw [hb11]; cbv)
                        try (rw [hb11]; cbv)
                        obtain ⟨x20, hx20, h⟩ := of_cl h
                        try dsimp only at h
                        refine ACall.mk _ _ rfl (hF _ _ _ (c_L_eqItemS hg ht hx20)) (.inl rfl) (Nat.le_of_ble_eq_true rfl) ?_
                        cbv
                        try (rw [hb11]; cbv)
                        try (rw [hb11]; cbv)
                        cases hb12 : x20 with
                        | true =>
                          rw [br_true hb12] at h
                          cbv
                          refine AStep.mk ⟨(lend_Item ht (lenp_Item ht (dlen_Item hg ht _) hc5)), ⟨(lend_Chute ht (lenp_Chute ht (dlen_Chute hg ht _) hc6)), ⟨(lend_Inlet ht (lenp_Inlet ht (dlen_Inlet hg ht _) hc7)), (lend_I64 ht (lenp_I64 ht (dlen_I64 hg ht _) hc8))⟩⟩⟩ ?_
                          cbv
                          obtain ⟨x21, hx21, h⟩ := of_lP h
                          try dsimp only at h
                          refine ACall.mk _ _ (by rw [show rd (d_Item x13_2_Belt) 0 (dlen (d_Item x5_1_Belt)) = r_Item x13_2_Belt from rdw_Item hg ht (lenp_Item ht (dlen_Item hg ht _) hc5), show rd (d_Chute x13_2_Chutes) 0 (dlen (d_Chute x5_1_Chutes)) = r_Chute x13_2_Chutes from rdw_Chute hg ht (lenp_Chute ht (dlen_Chute hg ht _) hc6), show rd (d_Inlet x13_2_Inlets) 0 (dlen (d_Inlet x5_1_Inlets)) = r_Inlet x13_2_Inlets from rdw_Inlet hg ht (lenp_Inlet ht (dlen_Inlet hg ht _) hc7), show rd (d_I64 x13_2_Plan) 0 (dlen (d_I64 x5_1_Plan)) = r_I64 x13_2_Plan from rdw_I64 hg ht (lenp_I64 ht (dlen_I64 hg ht _) hc8)]; try rfl) (hF _ _ _ (c_L_heldCentre hg ht hx21)) (.inr rfl) (Nat.le_of_ble_eq_true rfl) ?_
                          cbv
                          cases hb13 : (lt x21 0) with
                          | true =>
                            rw [br_true hb13] at h
                            cbv
                            obtain rfl := Option.some.inj h
                            exact ARet.mk trivial hX.symm
                          | false =>
                            rw [br_false hb13] at h
                            cbv
                            refine AStep.mk (lend_Item ht (lenp_Item ht (dlen_Item hg ht _) hc9)) ?_
                            cbv
                            obtain ⟨x22, hx22, h⟩ := of_lP h
                            try dsimp only at h
                            refine ACall.mk _ _ (by rw [show rd (d_Item x14_2) 0 (dlen (d_Item x5_2)) = r_Item x14_2 from rdw_Item hg ht (lenp_Item ht (dlen_Item hg ht _) hc9)]; try rfl) (hF _ _ _ (c_L_heldItemS hg ht hx22)) (.inr rfl) (Nat.le_of_ble_eq_true rfl) ?_
                            cbv
                            cases hb14 : (lt x22 0) with
                            | true =>
                              rw [br_true hb14] at h
                              cbv
                              obtain rfl := Option.some.inj h
                              exact ARet.mk trivial hX.symm
                            | false =>
                              rw [br_false hb14] at h
                              cbv
                              cases hb15 : (eq x22 x14_1) with
                              | true =>
                                rw [br_true hb15] at h
                                cbv
                                obtain rfl := Option.some.inj h
                                exact ARet.mk trivial hX.symm
                              | false =>
                                rw [br_false hb15] at h
                                cbv
                                obtain rfl := Option.some.inj h
                                exact ARet.mk trivial hX.symm
                        | false =>
                          rw [br_false hb12] at h
                          cbv
                          obtain rfl := Option.some.inj h
                          exact ARet.mk trivial hX.symm
                      | false =>
                        rw [br_false hb11] at h
                        cbv
                        try (rw [hb11]; cbv)
                        try (rw [hb11]; cbv)
                        try (rw [hb11]; cbv)
                        try (rw [hb11]; cbv)
                        obtain rfl := Option.some.inj h
                        exact ARet.mk trivial hX.symm
                    | false =>
                      rw [br_false hb10] at h
                      cbv
                      obtain rfl := Option.some.inj h
                      exact ARet.mk trivial hX.symm
              | false =>
                rw [br_false hb7] at h
                cbv
                obtain rfl := Option.some.inj h
                exact ARet.mk trivial hX.symm
            | false =>
              rw [br_false hb6] at h
              cbv
              try (rw [hb6]; cbv)
              try (rw [hb6]; cbv)
              try (rw [hb6]; cbv)
              try (rw [hb6]; cbv)
              obtain rfl := Option.some.inj h
              exact ARet.mk trivial hX.symm
        | false =>
          rw [br_false hb4] at h
          cbv
          obtain rfl := Option.some.inj h
          exact ARet.mk trivial hX.symm
      | false =>
        rw [br_false hb3] at h
        cbv
        obtain rfl := Option.some.inj h
        exact ARet.mk trivial hX.symm
    | false =>
      rw [br_false hb2] at h
      cbv
      try (rw [hb2]; cbv)
      try (rw [hb2]; cbv)
      try (rw [hb2]; cbv)
      try (rw [hb2]; cbv)
      obtain rfl := Option.some.inj h
      exact ARet.mk trivial hX.symm
end Go.Vs
