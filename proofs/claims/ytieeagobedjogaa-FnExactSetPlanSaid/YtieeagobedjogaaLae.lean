/- Part of the proofs of this seat's laws: Lae. No condition. -/
import Derived.Test.YtieeagobedjogaaTy
import Derived.Test.YtieeagobedjogaaTIRall
import Derived.Test.YtieeagobedjogaaLab
import Derived.Test.YtieeagobedjogaaLac
import Derived.Test.YtieeagobedjogaaLaa
set_option linter.unusedVariables false
set_option linter.unusedSimpArgs false
set_option linter.unusedSectionVars false
namespace Go.Vs
set_option maxRecDepth 100000
def ir67 : J :=
  .seq (.reg none [⟨(some 3), none, .box (.t 0)⟩,
     ⟨(some 6), none, .alloc [.n 2, .n 3, .n 2, .n 1, .r (.v (.int .i64 0))]⟩,
     ⟨(some 7), none, .mv (.k (V.b false))⟩] [1, 2, 3, 6])
  (.seq (.reg none [⟨(some 9), none, .ld true 5 (.t 3)⟩,
     ⟨(some 10), none, .call 106 true [(.t 9)]⟩,
     ⟨(some 8), none, .alloc [.n 2, .n 3, .n 2, .n 1, .r (.v (.int .i64 0))]⟩,
     ⟨none, none, .st 5 (.t 8) (.t 10)⟩] [1, 2, 3, 6, 8])
  (.seq (.seq (.reg none [⟨(some 11), none, .ld true 5 (.t 3)⟩,
      ⟨(some 12), none, .call 31 true [(.t 11)]⟩,
      ⟨(some 13), none, .not (.t 12)⟩,
      ⟨(some 14), none, .mv (.t 13)⟩,
      ⟨(some 15), (some (14, false)), .mv (.t 1)⟩,
      ⟨(some 16), (some (14, false)), .fa 3 (.t 3)⟩,
      ⟨(some 17), (some (14, false)), .ld false 1 (.t 16)⟩,
      ⟨(some 18), (some (14, false)), .len false (.t 17)⟩,
      ⟨(some 19), (some (14, false)), .bin .sub .i (.t 18) (.k (V.i 1))⟩,
      ⟨(some 20), (some (14, false)), .call 85 true [(.t 15), (.k (V.i 0)), (.t 19)]⟩,
      ⟨(some 21), (some (14, false)), .not (.t 20)⟩,
      ⟨(some 22), none, .pick (.t 14) (.k (V.b true)) (.t 21)⟩,
      ⟨(some 23), none, .mv (.t 22)⟩,
      ⟨(some 24), (some (23, false)), .mv (.t 2)⟩,
      ⟨(some 25), (some (23, false)), .fa 1 (.t 3)⟩,
      ⟨(some 26), (some (23, false)), .ld false 1 (.t 25)⟩,
      ⟨(some 27), (some (23, false)), .len false (.t 26)⟩,
      ⟨(some 28), (some (23, false)), .bin .sub .i (.t 27) (.k (V.i 1))⟩,
      ⟨(some 29), (some (23, false)), .call 85 true [(.t 24), (.k (V.i 0)), (.t 28)]⟩,
      ⟨(some 30), (some (23, false)), .not (.t 29)⟩,
      ⟨(some 31), none, .pick (.t 23) (.k (V.b true)) (.t 30)⟩] [1, 2, 6, 8, 31])
   (.cond (.t 31)
    (.seq (.reg none [⟨(some 32), none, .ld true 5 (.t 8)⟩,
        ⟨none, none, .st 5 (.t 6) (.t 32)⟩,
        ⟨(some 7), none, .mv (.k (V.b false))⟩] [6, 7])
     (.ret))
    (.skip)))
  (.seq (.reg none [⟨(some 33), none, .fa 3 (.t 8)⟩,
     ⟨(some 34), none, .ld false 1 (.t 33)⟩,
     ⟨(some 35), none, .mv (.t 1)⟩,
     ⟨(some 36), none, .mv (.t 2)⟩,
     ⟨(some 37), none, .ia 1 (.t 34) (.t 35)⟩,
     ⟨none, none, .st 1 (.t 37) (.t 36)⟩] [6, 8])
  (.seq (.reg none [⟨(some 38), none, .ld true 5 (.t 8)⟩,
     ⟨none, none, .st 5 (.t 6) (.t 38)⟩,
     ⟨(some 7), none, .mv (.k (V.b true))⟩] [6, 7])
  (.ret)))))
def rv67 : List RV := [.c 6 true 5, .t 7]
open Go.Proofs Go.IntWalk
set_option linter.unusedVariables false
set_option maxRecDepth 100000
set_option maxHeartbeats 4000000
def S_SetPlan (g : G) (t : TE) (a0 : Centre) (a1 : Int) (a2 : Int) : Option (Centre × Bool) :=
  cl (S_l7Copy g t a0) fun x1 =>
  cl (S_IsCentre g t a0) fun x2 =>
  br x2
  (
   lP (S_l1In g t a1 0 (g.wrap .i64 (g.sub (g.llen (t.r_I64 a0.Plan)) 1))) fun x3 =>
   br x3
   (
    lP (S_l1In g t a2 0 (g.wrap .i64 (g.sub (g.llen (t.r_Chute a0.Chutes)) 1))) fun x4 =>
    br x4
    (
     gd (((0 : Int) ≤ a1 ∧ a1 < (((g.dlen (t.d_I64 x1.Plan)) : Nat) : Int))) <|
     gt x1.Plan (g.nat a1) fun x5 =>
     lP (List.set x1.Plan (g.nat a1) a2) fun (l1 : List Int) =>
     some (((Centre.mk x1.Belt x1.Chutes x1.Inlets l1 x1.Now), true)))
    (
     some ((x1, false))))
   (
    some ((x1, false))))
  (
   some ((x1, false)))
theorem fit67 : codeFit Try.prog Try.f67.ntmps (Try.f67.body.getD .skip) ir67 = true := by kernel_rfl
theorem c_S_SetPlan {g : G} {t : TE} {a0 : Centre} {a1 : Int} {a2 : Int} {r : Centre × Bool} (hg : g = G.real) (ht : t = TE.real) (h : S_SetPlan g t a0 a1 a2 = some r) : Fn Try.prog 67 [.g (Centre.rs t a0), .c (.v (.int .i64 a1)), .c (.v (.int .i64 a2))] (.u [.g (Centre.ds t r.1), .c (.r (.v (.bool r.2)))]) := by
  obtain ⟨X, hX⟩ := hide (.u [.g (Centre.ds t r.1), .c (.r (.v (.bool r.2)))] : X)
  rw [← hX]
  refine fn_of (rvs := rv67) (j := ir67) Try.func67 rfl fit67 (Nat.le_of_ble_eq_true rfl) (by kernel_rfl) prog_mixed ?_
  intro g2 F hg2 hF
  obtain rfl : g2 = g := hg2.unique.trans hg.symm
  clear hg2
  obtain ⟨wrap, lt, le, eq, quo, rem, band, bor, bxor, shl, shr, nat, int, add, sub, mul, cat, seq, slt, sub3, byte, llen, nadd, nsub, dlen, dapp, dset, drep, rd, rda, up, rsub, dsub, all, sle, slen, hasI, putI, hasS, putS, imin, imax, fzc⟩ := g2
  obtain ⟨r_Item, d_Item, r_Chute, d_Chute, r_Inlet, d_Inlet, r_I64, d_I64, r_U8, d_U8⟩ := t
  obtain ⟨a0_Belt, a0_Chutes, a0_Inlets, a0_Plan, a0_Now⟩ := a0
  unfold S_SetPlan at h
  try dsimp only at h
  cbv
  obtain ⟨x1, hx1, h⟩ := of_cl h
  obtain ⟨x1_Belt, x1_Chutes, x1_Inlets, x1_Plan, x1_Now⟩ := x1
  try dsimp only at h
  refine ACall.mk _ _ rfl (hF _ _ _ (c_S_l7Copy hg ht hx1)) (.inl rfl) (Nat.le_of_ble_eq_true rfl) ?_
  cbv
  obtain ⟨x2, hx2, h⟩ := of_cl h
  try dsimp only at h
  refine ACall.mk _ _ rfl (hF _ _ _ (c_S_IsCentre hg ht hx2)) (.inl rfl) (Nat.le_of_ble_eq_true rfl) ?_
  cbv
  cases hb1 : x2 with
  | true =>
    rw [br_true hb1] at h
    cbv
    try (rw [hb1]; cbv)
    try (rw [hb1]; cbv)
    try (rw [hb1]; cbv)
    try (rw [hb1]; cbv)
    try (rw [hb1]; cbv)
    obtain ⟨x3, hx3, h⟩ := of_lP h
    try dsimp only at h
    refine ACall.mk _ _ rfl (hF _ _ _ (c_S_l1In hg ht hx3)) (.inl rfl) (Nat.le_of_ble_eq_true rfl) ?_
    cbv
    try (rw [hb1]; cbv)
    try (rw [hb1]; cbv)
    cases hb2 : x3 with
    | true =>
      rw [br_true hb2] at h
      cbv
      try (rw [hb2]; cbv)
      try (rw [hb2]; cbv)
      try (rw [hb2]; cbv)
      try (rw [hb2]; cbv)
      try (rw [hb2]; cbv)
      obtain ⟨x4, hx4, h⟩ := of_lP h
      try dsimp only at h
      refine ACall.mk _ _ rfl (hF _ _ _ (c_S_l1In hg ht hx4)) (.inl rfl) (Nat.le_of_ble_eq_true rfl) ?_
      cbv
      try (rw [hb2]; cbv)
      try (rw [hb2]; cbv)
      cases hb3 : x4 with
      | true =>
        rw [br_true hb3] at h
        cbv
        obtain ⟨hc1, h⟩ := of_gd h
        refine AStep.mk hc1 ?_
        cbv
        obtain ⟨x5, hx5, h⟩ := of_gt h
        try dsimp only at h
        refine AGet.mk _ (d_get_I64 hg ht hx5) ?_
        cbv
        obtain ⟨l1, hl1, h⟩ := of_lP h
        try dsimp only at h
        refine ANew.mk (d_I64 l1) _ (by rw [← hl1]; exact dset_I64 hg ht _ _ a2) rfl ?_
        have hnl1 : (dlen (d_I64 x1_Plan)) = (d_I64 l1).length := (by rw [← hl1, dsetl_I64 ht]; exact (dlen_I64 hg ht _))
        cbv
        obtain rfl := Option.some.inj h
        exact ARet.mk ⟨⟨rfl, (dlen_Item hg ht _)⟩, ⟨⟨rfl, (dlen_Chute hg ht _)⟩, ⟨⟨rfl, (dlen_Inlet hg ht _)⟩, ⟨rfl, hnl1⟩⟩⟩⟩ hX.symm
      | false =>
        rw [br_false hb3] at h
        cbv
        obtain rfl := Option.some.inj h
        exact ARet.mk ⟨⟨rfl, (dlen_Item hg ht _)⟩, ⟨⟨rfl, (dlen_Chute hg ht _)⟩, ⟨⟨rfl, (dlen_Inlet hg ht _)⟩, ⟨rfl, (dlen_I64 hg ht _)⟩⟩⟩⟩ hX.symm
    | false =>
      rw [br_false hb2] at h
      cbv
      try (rw [hb2]; cbv)
      try (rw [hb2]; cbv)
      try (rw [hb2]; cbv)
      try (rw [hb2]; cbv)
      try (rw [hb2]; cbv)
      try (rw [hb2]; cbv)
      try (rw [hb2]; cbv)
      obtain rfl := Option.some.inj h
      exact ARet.mk ⟨⟨rfl, (dlen_Item hg ht _)⟩, ⟨⟨rfl, (dlen_Chute hg ht _)⟩, ⟨⟨rfl, (dlen_Inlet hg ht _)⟩, ⟨rfl, (dlen_I64 hg ht _)⟩⟩⟩⟩ hX.symm
  | false =>
    rw [br_false hb1] at h
    cbv
    try (rw [hb1]; cbv)
    try (rw [hb1]; cbv)
    try (rw [hb1]; cbv)
    try (rw [hb1]; cbv)
    try (rw [hb1]; cbv)
    try (rw [hb1]; cbv)
    try (rw [hb1]; cbv)
    obtain rfl := Option.some.inj h
    exact ARet.mk ⟨⟨rfl, (dlen_Item hg ht _)⟩, ⟨⟨rfl, (dlen_Chute hg ht _)⟩, ⟨⟨rfl, (dlen_Inlet hg ht _)⟩, ⟨rfl, (dlen_I64 hg ht _)⟩⟩⟩⟩ hX.symm
end Go.Vs
namespace Go.Vs
set_option maxRecDepth 100000
def ir68 : J :=
  .seq (.reg none [⟨(some 3), none, .box (.t 0)⟩,
     ⟨(some 6), none, .alloc [.n 2, .n 3, .n 2, .n 1, .r (.v (.int .i64 0))]⟩,
     ⟨(some 7), none, .mv (.k (V.b false))⟩] [1, 2, 3, 6])
  (.seq (.reg none [⟨(some 9), none, .ld true 5 (.t 3)⟩,
     ⟨(some 10), none, .call 94 true [(.t 9)]⟩,
     ⟨(some 8), none, .alloc [.n 2, .n 3, .n 2, .n 1, .r (.v (.int .i64 0))]⟩,
     ⟨none, none, .st 5 (.t 8) (.t 10)⟩] [1, 2, 3, 6, 8])
  (.seq (.seq (.reg none [⟨(some 11), none, .ld true 5 (.t 3)⟩,
      ⟨(some 12), none, .call 32 true [(.t 11)]⟩,
      ⟨(some 13), none, .not (.t 12)⟩,
      ⟨(some 14), none, .mv (.t 13)⟩,
      ⟨(some 15), (some (14, false)), .mv (.t 1)⟩,
      ⟨(some 16), (some (14, false)), .bin .lss .i (.t 15) (.k (V.i 0))⟩,
      ⟨(some 17), none, .pick (.t 14) (.k (V.b true)) (.t 16)⟩,
      ⟨(some 18), none, .mv (.t 17)⟩,
      ⟨(some 19), (some (18, false)), .mv (.t 1)⟩,
      ⟨(some 20), (some (18, false)), .fa 3 (.t 3)⟩,
      ⟨(some 21), (some (18, false)), .ld false 1 (.t 20)⟩,
      ⟨(some 22), (some (18, false)), .len false (.t 21)⟩,
      ⟨(some 23), (some (18, false)), .bin .geq .i (.t 19) (.t 22)⟩,
      ⟨(some 24), none, .pick (.t 18) (.k (V.b true)) (.t 23)⟩,
      ⟨(some 25), none, .mv (.t 24)⟩,
      ⟨(some 26), (some (25, false)), .mv (.t 2)⟩,
      ⟨(some 27), (some (25, false)), .bin .lss .i (.t 26) (.k (V.i 0))⟩,
      ⟨(some 28), none, .pick (.t 25) (.k (V.b true)) (.t 27)⟩,
      ⟨(some 29), none, .mv (.t 28)⟩,
      ⟨(some 30), (some (29, false)), .mv (.t 2)⟩,
      ⟨(some 31), (some (29, false)), .fa 1 (.t 3)⟩,
      ⟨(some 32), (some (29, false)), .ld false 1 (.t 31)⟩,
      ⟨(some 33), (some (29, false)), .len false (.t 32)⟩,
      ⟨(some 34), (some (29, false)), .bin .geq .i (.t 30) (.t 33)⟩,
      ⟨(some 35), none, .pick (.t 29) (.k (V.b true)) (.t 34)⟩] [1, 2, 6, 8, 35])
   (.cond (.t 35)
    (.seq (.reg none [⟨(some 36), none, .ld true 5 (.t 8)⟩,
        ⟨none, none, .st 5 (.t 6) (.t 36)⟩,
        ⟨(some 7), none, .mv (.k (V.b false))⟩] [6, 7])
     (.ret))
    (.skip)))
  (.seq (.reg none [⟨(some 37), none, .fa 3 (.t 8)⟩,
     ⟨(some 38), none, .ld false 1 (.t 37)⟩,
     ⟨(some 39), none, .mv (.t 1)⟩,
     ⟨(some 40), none, .mv (.t 2)⟩,
     ⟨(some 41), none, .ia 1 (.t 38) (.t 39)⟩,
     ⟨none, none, .st 1 (.t 41) (.t 40)⟩] [6, 8])
  (.seq (.reg none [⟨(some 42), none, .ld true 5 (.t 8)⟩,
     ⟨none, none, .st 5 (.t 6) (.t 42)⟩,
     ⟨(some 7), none, .mv (.k (V.b true))⟩] [6, 7])
  (.ret)))))
def rv68 : List RV := [.c 6 true 5, .t 7]
open Go.Proofs Go.IntWalk
set_option linter.unusedVariables false
set_option maxRecDepth 100000
set_option maxHeartbeats 4000000
def I_SetPlan (g : G) (t : TE) (a0 : Centre) (a1 : Int) (a2 : Int) : Option (Centre × Bool) :=
  cl (I_copyCentre g t a0) fun x1 =>
  cl (I_IsCentre g t a0) fun x2 =>
  br x2
  (
   br (g.lt a1 0)
   (
    some ((x1, false)))
   (
    br (g.le (g.llen (t.r_I64 a0.Plan)) a1)
    (
     some ((x1, false)))
    (
     br (g.lt a2 0)
     (
      some ((x1, false)))
     (
      br (g.le (g.llen (t.r_Chute a0.Chutes)) a2)
      (
       some ((x1, false)))
      (
       gd (((0 : Int) ≤ a1 ∧ a1 < (((g.dlen (t.d_I64 x1.Plan)) : Nat) : Int))) <|
       gt x1.Plan (g.nat a1) fun x3 =>
       lP (List.set x1.Plan (g.nat a1) a2) fun (l1 : List Int) =>
       some (((Centre.mk x1.Belt x1.Chutes x1.Inlets l1 x1.Now), true)))))))
  (
   some ((x1, false)))
theorem fit68 : codeFit Try.prog Try.f68.ntmps (Try.f68.body.getD .skip) ir68 = true := by kernel_rfl
theorem c_I_SetPlan {g : G} {t : TE} {a0 : Centre} {a1 : Int} {a2 : Int} {r : Centre × Bool} (hg : g = G.real) (ht : t = TE.real) (h : I_SetPlan g t a0 a1 a2 = some r) : Fn Try.prog 68 [.g (Centre.rs t a0), .c (.v (.int .i64 a1)), .c (.v (.int .i64 a2))] (.u [.g (Centre.ds t r.1), .c (.r (.v (.bool r.2)))]) := by
  obtain ⟨X, hX⟩ := hide (.u [.g (Centre.ds t r.1), .c (.r (.v (.bool r.2)))] : X)
  rw [← hX]
  refine fn_of (rvs := rv68) (j := ir68) Try.func68 rfl fit68 (Nat.le_of_ble_eq_true rfl) (by kernel_rfl) prog_mixed ?_
  intro g2 F hg2 hF
  obtain rfl : g2 = g := hg2.unique.trans hg.symm
  clear hg2
  obtain ⟨wrap, lt, le, eq, quo, rem, band, bor, bxor, shl, shr, nat, int, add, sub, mul, cat, seq, slt, sub3, byte, llen, nadd, nsub, dlen, dapp, dset, drep, rd, rda, up, rsub, dsub, all, sle, slen, hasI, putI, hasS, putS, imin, imax, fzc⟩ := g2
  obtain ⟨r_Item, d_Item, r_Chute, d_Chute, r_Inlet, d_Inlet, r_I64, d_I64, r_U8, d_U8⟩ := t
  obtain ⟨a0_Belt, a0_Chutes, a0_Inlets, a0_Plan, a0_Now⟩ := a0
  unfold I_SetPlan at h
  try dsimp only at h
  cbv
  obtain ⟨x1, hx1, h⟩ := of_cl h
  obtain ⟨x1_Belt, x1_Chutes, x1_Inlets, x1_Plan, x1_Now⟩ := x1
  try dsimp only at h
  refine ACall.mk _ _ rfl (hF _ _ _ (c_I_copyCentre hg ht hx1)) (.inl rfl) (Nat.le_of_ble_eq_true rfl) ?_
  cbv
  obtain ⟨x2, hx2, h⟩ := of_cl h
  try dsimp only at h
  refine ACall.mk _ _ rfl (hF _ _ _ (c_I_IsCentre hg ht hx2)) (.inl rfl) (Nat.le_of_ble_eq_true rfl) ?_
  cbv
  cases hb1 : x2 with
  | true =>
    rw [br_true hb1] at h
    cbv
    try (rw [hb1]; cbv)
    try (rw [hb1]; cbv)
    cases hb2 : (lt a1 0) with
    | true =>
      rw [br_true hb2] at h
      cbv
      try (rw [hb2]; cbv)
      try (rw [hb2]; cbv)
      try (rw [hb2]; cbv)
      try (rw [hb2]; cbv)
      try (rw [hb2]; cbv)
      obtain rfl := Option.some.inj h
      exact ARet.mk ⟨⟨rfl, (dlen_Item hg ht _)⟩, ⟨⟨rfl, (dlen_Chute hg ht _)⟩, ⟨⟨rfl, (dlen_Inlet hg ht _)⟩, ⟨rfl, (dlen_I64 hg ht _)⟩⟩⟩⟩ hX.symm
    | false =>
      rw [br_false hb2] at h
      cbv
      try (rw [hb2]; cbv)
      try (rw [hb2]; cbv)
      try (rw [hb2]; cbv)
      try (rw [hb2]; cbv)
      try (rw [hb2]; cbv)
      cases hb3 : (le (llen (r_I64 a0_Plan)) a1) with
      | true =>
        rw [br_true hb3] at h
        cbv
        try (rw [hb3]; cbv)
        try (rw [hb3]; cbv)
        obtain rfl := Option.some.inj h
        exact ARet.mk ⟨⟨rfl, (dlen_Item hg ht _)⟩, ⟨⟨rfl, (dlen_Chute hg ht _)⟩, ⟨⟨rfl, (dlen_Inlet hg ht _)⟩, ⟨rfl, (dlen_I64 hg ht _)⟩⟩⟩⟩ hX.symm
      | false =>
        rw [br_false hb3] at h
        cbv
        try (rw [hb3]; cbv)
        try (rw [hb3]; cbv)
        cases hb4 : (lt a2 0) with
        | true =>
          rw [br_true hb4] at h
          cbv
          try (rw [hb4]; cbv)
          try (rw [hb4]; cbv)
          try (rw [hb4]; cbv)
          try (rw [hb4]; cbv)
          try (rw [hb4]; cbv)
          obtain rfl := Option.some.inj h
          exact ARet.mk ⟨⟨rfl, (dlen_Item hg ht _)⟩, ⟨⟨rfl, (dlen_Chute hg ht _)⟩, ⟨⟨rfl, (dlen_Inlet hg ht _)⟩, ⟨rfl, (dlen_I64 hg ht _)⟩⟩⟩⟩ hX.symm
        | false =>
          rw [br_false hb4] at h
          cbv
          try (rw [hb4]; cbv)
          try (rw [hb4]; cbv)
          try (rw [hb4]; cbv)
          try (rw [hb4]; cbv)
          try (rw [hb4]; cbv)
          cases hb5 : (le (llen (r_Chute a0_Chutes)) a2) with
          | true =>
            rw [br_true hb5] at h
            cbv
            obtain rfl := Option.some.inj h
            exact ARet.mk ⟨⟨rfl, (dlen_Item hg ht _)⟩, ⟨⟨rfl, (dlen_Chute hg ht _)⟩, ⟨⟨rfl, (dlen_Inlet hg ht _)⟩, ⟨rfl, (dlen_I64 hg ht _)⟩⟩⟩⟩ hX.symm
          | false =>
            rw [br_false hb5] at h
            cbv
            obtain ⟨hc1, h⟩ := of_gd h
            refine AStep.mk hc1 ?_
            cbv
            obtain ⟨x3, hx3, h⟩ := of_gt h
            try dsimp only at h
            refine AGet.mk _ (d_get_I64 hg ht hx3) ?_
            cbv
            obtain ⟨l1, hl1, h⟩ := of_lP h
            try dsimp only at h
            refine ANew.mk (d_I64 l1) _ (by rw [← hl1]; exact dset_I64 hg ht _ _ a2) rfl ?_
            have hnl1 : (dlen (d_I64 x1_Plan)) = (d_I64 l1).length := (by rw [← hl1, dsetl_I64 ht]; exact (dlen_I64 hg ht _))
            cbv
            obtain rfl := Option.some.inj h
            exact ARet.mk ⟨⟨rfl, (dlen_Item hg ht _)⟩, ⟨⟨rfl, (dlen_Chute hg ht _)⟩, ⟨⟨rfl, (dlen_Inlet hg ht _)⟩, ⟨rfl, hnl1⟩⟩⟩⟩ hX.symm
  | false =>
    rw [br_false hb1] at h
    cbv
    try (rw [hb1]; cbv)
    try (rw [hb1]; cbv)
    obtain rfl := Option.some.inj h
    exact ARet.mk ⟨⟨rfl, (dlen_Item hg ht _)⟩, ⟨⟨rfl, (dlen_Chute hg ht _)⟩, ⟨⟨rfl, (dlen_Inlet hg ht _)⟩, ⟨rfl, (dlen_I64 hg ht _)⟩⟩⟩⟩ hX.symm
end Go.Vs
namespace Go.Vs
set_option maxRecDepth 100000
def ir18 : J :=
  .seq (.reg none [⟨(some 3), none, .box (.t 0)⟩,
     ⟨(some 6), none, .mv (.k (V.b false))⟩] [1, 2, 3])
  (.seq (.reg none [⟨(some 7), none, .mv (.k (V.i 1048576))⟩] [1, 2, 3, 7])
  (.seq (.reg none [⟨(some 18), none, .ld true 5 (.t 3)⟩,
     ⟨(some 19), none, .mv (.t 7)⟩,
     ⟨(some 20), none, .call 24 true [(.t 18), (.t 19)]⟩,
     ⟨(some 7), none, .mv (.t 20)⟩] [1, 2, 3, 7])
  (.seq (.seq (.reg none [⟨(some 21), none, .mv (.t 7)⟩,
      ⟨(some 22), none, .bin .lss .i (.t 21) (.k (V.i 0))⟩] [1, 2, 3, 22])
   (.cond (.t 22)
    (.seq (.reg none [⟨(some 6), none, .mv (.k (V.b true))⟩] [6])
     (.ret))
    (.skip)))
  (.seq (.reg none [⟨(some 24), none, .ld true 5 (.t 3)⟩,
     ⟨(some 25), none, .call 26 false [(.t 24)]⟩,
     ⟨(some 26), none, .mv (.t 1)⟩,
     ⟨(some 27), none, .mv (.t 2)⟩,
     ⟨(some 28), none, .call 67 false [(.t 25), (.t 26), (.t 27)]⟩,
     ⟨(some 23), none, .mv (.t 28)⟩,
     ⟨(some 29), none, .ext 0 (.t 23)⟩,
     ⟨(some 30), none, .ext 1 (.t 23)⟩,
     ⟨(some 8), none, .alloc [.n 2, .n 3, .n 2, .n 1, .r (.v (.int .i64 0))]⟩,
     ⟨none, none, .st 5 (.t 8) (.t 29)⟩,
     ⟨(some 9), none, .mv (.t 30)⟩] [1, 2, 3, 8, 9])
  (.seq (.reg none [⟨(some 31), none, .ld true 5 (.t 3)⟩,
     ⟨(some 32), none, .call 26 true [(.t 31)]⟩,
     ⟨(some 10), none, .alloc [.n 2, .n 3, .n 2, .n 1, .r (.v (.int .i64 0))]⟩,
     ⟨none, none, .st 5 (.t 10) (.t 32)⟩] [1, 2, 3, 8, 9, 10])
  (.seq (.reg none [⟨(some 34), none, .ld true 5 (.t 10)⟩,
     ⟨(some 35), none, .mv (.t 1)⟩,
     ⟨(some 36), none, .mv (.t 2)⟩,
     ⟨(some 37), none, .call 68 true [(.t 34), (.t 35), (.t 36)]⟩,
     ⟨(some 33), none, .mv (.t 37)⟩,
     ⟨(some 38), none, .ext 0 (.t 33)⟩,
     ⟨(some 39), none, .ext 1 (.t 33)⟩,
     ⟨(some 11), none, .alloc [.n 2, .n 3, .n 2, .n 1, .r (.v (.int .i64 0))]⟩,
     ⟨none, none, .st 5 (.t 11) (.t 38)⟩,
     ⟨(some 12), none, .mv (.t 39)⟩] [1, 2, 3, 8, 9, 10, 11, 12])
  (.seq (.seq (.reg none [⟨(some 40), none, .ld true 5 (.t 11)⟩,
      ⟨(some 41), none, .ld true 5 (.t 8)⟩,
      ⟨(some 42), none, .call 28 true [(.t 40), (.t 41)]⟩,
      ⟨(some 43), none, .not (.t 42)⟩,
      ⟨(some 44), none, .mv (.t 43)⟩,
      ⟨(some 45), (some (44, false)), .mv (.t 12)⟩,
      ⟨(some 46), (some (44, false)), .mv (.t 9)⟩,
      ⟨(some 47), (some (44, false)), .bin .neq .b (.t 45) (.t 46)⟩,
      ⟨(some 48), none, .pick (.t 44) (.k (V.b true)) (.t 47)⟩] [1, 2, 3, 8, 9, 10, 11, 12, 48])
   (.cond (.t 48)
    (.seq (.reg none [⟨(some 6), none, .mv (.k (V.b false))⟩] [6])
     (.ret))
    (.skip)))
  (.seq (.seq (.reg (some [[], [], [1], [0, 1, 2], [0, 1, 2, 3]]) [⟨(some 49), none, .ld true 5 (.t 10)⟩,
      ⟨(some 50), none, .ld true 5 (.t 3)⟩,
      ⟨(some 51), none, .call 26 false [(.t 50)]⟩,
      ⟨(some 52), none, .call 28 true [(.t 49), (.t 51)]⟩,
      ⟨(some 53), none, .not (.t 52)⟩] [1, 2, 3, 8, 9, 10, 11, 12, 53])
   (.cond (.t 53)
    (.seq (.reg none [⟨(some 6), none, .mv (.k (V.b false))⟩] [6])
     (.ret))
    (.skip)))
  (.seq (.reg none [⟨(some 13), none, .mv (.k (V.i 1))⟩] [1, 2, 3, 8, 9, 10, 11, 12, 13])
  (.seq (.reg none [⟨(some 54), none, .ld true 5 (.t 10)⟩,
     ⟨(some 55), none, .mv (.t 13)⟩,
     ⟨(some 56), none, .callm 49 (.t 54) [(.t 55)]⟩,
     ⟨(some 13), none, .mv (.t 56)⟩] [1, 2, 3, 8, 9, 11, 12, 13])
  (.seq (.seq (.reg none [⟨(some 57), none, .mv (.t 13)⟩,
      ⟨(some 58), none, .bin .lss .i (.t 57) (.k (V.i 0))⟩,
      ⟨(some 59), none, .mv (.t 58)⟩,
      ⟨(some 60), (some (59, false)), .ld true 5 (.t 11)⟩,
      ⟨(some 61), (some (59, false)), .ld true 5 (.t 8)⟩,
      ⟨(some 62), (some (59, false)), .call 28 true [(.t 60), (.t 61)]⟩,
      ⟨(some 63), (some (59, false)), .not (.t 62)⟩,
      ⟨(some 64), none, .pick (.t 59) (.k (V.b true)) (.t 63)⟩,
      ⟨(some 65), none, .mv (.t 64)⟩,
      ⟨(some 66), (some (65, false)), .mv (.t 12)⟩,
      ⟨(some 67), (some (65, false)), .mv (.t 9)⟩,
      ⟨(some 68), (some (65, false)), .bin .neq .b (.t 66) (.t 67)⟩,
      ⟨(some 69), none, .pick (.t 65) (.k (V.b true)) (.t 68)⟩] [1, 2, 3, 8, 9, 11, 69])
   (.cond (.t 69)
    (.seq (.reg none [⟨(some 6), none, .mv (.k (V.b false))⟩] [6])
     (.ret))
    (.skip)))
  (.seq (.reg none [⟨(some 14), none, .mv (.k (V.i 1))⟩] [1, 2, 3, 8, 9, 11, 14])
  (.seq (.reg none [⟨(some 70), none, .ld true 5 (.t 11)⟩,
     ⟨(some 71), none, .mv (.t 14)⟩,
     ⟨(some 72), none, .callm 49 (.t 70) [(.t 71)]⟩,
     ⟨(some 14), none, .mv (.t 72)⟩] [1, 2, 3, 8, 9, 11, 14])
  (.seq (.reg none [⟨(some 15), none, .mv (.k (V.i 1))⟩] [1, 2, 3, 8, 9, 11, 14, 15])
  (.seq (.reg none [⟨(some 73), none, .ld true 5 (.t 11)⟩,
     ⟨(some 74), none, .mv (.t 15)⟩,
     ⟨(some 75), none, .call 50 true [(.t 73), (.t 74)]⟩,
     ⟨(some 15), none, .mv (.t 75)⟩] [1, 2, 3, 8, 9, 11, 14, 15])
  (.seq (.seq (.reg none [⟨(some 76), none, .mv (.t 15)⟩,
      ⟨(some 77), none, .bin .lss .i (.t 76) (.k (V.i 0))⟩] [1, 2, 3, 8, 9, 11, 14, 15, 77])
   (.cond (.t 77)
    (.seq (.reg none [⟨(some 6), none, .mv (.k (V.b false))⟩] [6])
     (.ret))
    (.skip)))
  (.seq (.seq (.reg none [⟨(some 78), none, .mv (.t 15)⟩,
      ⟨(some 79), none, .mv (.t 14)⟩,
      ⟨(some 80), none, .bin .neq .i (.t 78) (.t 79)⟩] [1, 2, 3, 8, 9, 11, 14, 80])
   (.cond (.t 80)
    (.seq (.reg none [⟨(some 6), none, .mv (.k (V.b false))⟩] [6])
     (.ret))
    (.skip)))
  (.seq (.reg none [⟨(some 82), none, .ld true 5 (.t 3)⟩,
     ⟨(some 83), none, .call 26 false [(.t 82)]⟩,
     ⟨(some 84), none, .mv (.t 1)⟩,
     ⟨(some 85), none, .mv (.t 2)⟩,
     ⟨(some 86), none, .call 68 false [(.t 83), (.t 84), (.t 85)]⟩,
     ⟨(some 81), none, .mv (.t 86)⟩,
     ⟨(some 87), none, .ext 0 (.t 81)⟩,
     ⟨(some 88), none, .ext 1 (.t 81)⟩,
     ⟨(some 16), none, .alloc [.n 2, .n 3, .n 2, .n 1, .r (.v (.int .i64 0))]⟩,
     ⟨none, none, .st 5 (.t 16) (.t 87)⟩,
     ⟨(some 17), none, .mv (.t 88)⟩] [8, 9, 11, 14, 16, 17])
  (.seq (.seq (.reg none [⟨(some 89), none, .ld true 5 (.t 16)⟩,
      ⟨(some 90), none, .ld true 5 (.t 8)⟩,
      ⟨(some 91), none, .call 28 true [(.t 89), (.t 90)]⟩,
      ⟨(some 92), none, .not (.t 91)⟩,
      ⟨(some 93), none, .mv (.t 92)⟩,
      ⟨(some 94), (some (93, false)), .mv (.t 17)⟩,
      ⟨(some 95), (some (93, false)), .mv (.t 9)⟩,
      ⟨(some 96), (some (93, false)), .bin .neq .b (.t 94) (.t 95)⟩,
      ⟨(some 97), none, .pick (.t 93) (.k (V.b true)) (.t 96)⟩] [11, 14, 97])
   (.cond (.t 97)
    (.seq (.reg none [⟨(some 6), none, .mv (.k (V.b false))⟩] [6])
     (.ret))
    (.skip)))
  (.seq (.reg none [⟨(some 15), none, .mv (.k (V.i 1))⟩] [11, 14, 15])
  (.seq (.reg none [⟨(some 98), none, .ld true 5 (.t 11)⟩,
     ⟨(some 99), none, .mv (.t 15)⟩,
     ⟨(some 100), none, .call 50 true [(.t 98), (.t 99)]⟩,
     ⟨(some 15), none, .mv (.t 100)⟩] [14, 15])
  (.seq (.seq (.reg none [⟨(some 101), none, .mv (.t 15)⟩,
      ⟨(some 102), none, .bin .lss .i (.t 101) (.k (V.i 0))⟩] [14, 15, 102])
   (.cond (.t 102)
    (.seq (.reg none [⟨(some 6), none, .mv (.k (V.b false))⟩] [6])
     (.ret))
    (.skip)))
  (.seq (.seq (.reg none [⟨(some 103), none, .mv (.t 15)⟩,
      ⟨(some 104), none, .mv (.t 14)⟩,
      ⟨(some 105), none, .bin .neq .i (.t 103) (.t 104)⟩] [105])
   (.cond (.t 105)
    (.seq (.reg none [⟨(some 6), none, .mv (.k (V.b false))⟩] [6])
     (.ret))
    (.skip)))
  (.seq (.reg none [⟨(some 6), none, .mv (.k (V.b true))⟩] [6])
  (.ret)))))))))))))))))))))))))
def rv18 : List RV := [.t 6]
open Go.Proofs Go.IntWalk
set_option linter.unusedVariables false
set_option maxRecDepth 100000
set_option maxHeartbeats 4000000
def L_FnExactSetPlan (g : G) (t : TE) (a0 : Centre) (a1 : Int) (a2 : Int) : Option Bool :=
  lP (L_szCentre g t a0 1048576) fun x1 =>
  br (g.lt x1 0)
  (
   some true)
  (
   cl (L_toCentre g t a0) fun x2 =>
   cl (S_SetPlan g t x2 a1 a2) fun x3 =>
   cl (L_toCentre g t a0) fun x4 =>
   cl (I_SetPlan g t x4 a1 a2) fun x5 =>
   cl (L_eqCentre g t (Centre.mk x5.1.Belt x5.1.Chutes x5.1.Inlets x5.1.Plan x5.1.Now) (Centre.mk x3.1.Belt x3.1.Chutes x3.1.Inlets x3.1.Plan x3.1.Now)) fun x6 =>
   br x6
   (
    br x5.2
    (
     br x3.2
     (
      cl (L_toCentre g t a0) fun x7 =>
      cl (L_eqCentre g t x4 x7) fun x8 =>
      br x8
      (
       cl (L_markCentre g t x4 1) fun x9 =>
       gd ((x9.2.Belt.length = x4.Belt.length)) <|
       gd ((x9.2.Chutes.length = x4.Chutes.length)) <|
       gd ((x9.2.Inlets.length = x4.Inlets.length)) <|
       gd ((x9.2.Plan.length = x4.Plan.length)) <|
       br (g.lt x9.1 0)
       (
        some false)
       (
        cl (L_eqCentre g t (Centre.mk x5.1.Belt x5.1.Chutes x5.1.Inlets x5.1.Plan x5.1.Now) (Centre.mk x3.1.Belt x3.1.Chutes x3.1.Inlets x3.1.Plan x3.1.Now)) fun x10 =>
        br x10
        (
         cl (L_markCentre g t (Centre.mk x5.1.Belt x5.1.Chutes x5.1.Inlets x5.1.Plan x5.1.Now) 1) fun x11 =>
         gd ((x11.2.Belt.length = x5.1.Belt.length)) <|
         gd ((x11.2.Chutes.length = x5.1.Chutes.length)) <|
         gd ((x11.2.Inlets.length = x5.1.Inlets.length)) <|
         gd ((x11.2.Plan.length = x5.1.Plan.length)) <|
         lP (L_heldCentre g t (Centre.mk x11.2.Belt x11.2.Chutes x11.2.Inlets x11.2.Plan x5.1.Now) 1) fun x12 =>
         br (g.lt x12 0)
         (
          some false)
         (
          br (g.eq x12 x11.1)
          (
           cl (L_toCentre g t a0) fun x13 =>
           cl (I_SetPlan g t x13 a1 a2) fun x14 =>
           cl (L_eqCentre g t (Centre.mk x14.1.Belt x14.1.Chutes x14.1.Inlets x14.1.Plan x14.1.Now) (Centre.mk x3.1.Belt x3.1.Chutes x3.1.Inlets x3.1.Plan x3.1.Now)) fun x15 =>
           br x15
           (
            br x14.2
            (
             lP (L_heldCentre g t (Centre.mk x11.2.Belt x11.2.Chutes x11.2.Inlets x11.2.Plan x5.1.Now) 1) fun x16 =>
             br (g.lt x16 0)
             (
              some false)
             (
              br (g.eq x16 x11.1)
              (
               some true)
              (
               some false)))
            (
             some false))
           (
            some false))
          (
           some false)))
        (
         some false)))
      (
       some false))
     (
      some false))
    (
     br x3.2
     (
      some false)
     (
      cl (L_toCentre g t a0) fun x17 =>
      cl (L_eqCentre g t x4 x17) fun x18 =>
      br x18
      (
       cl (L_markCentre g t x4 1) fun x19 =>
       gd ((x19.2.Belt.length = x4.Belt.length)) <|
       gd ((x19.2.Chutes.length = x4.Chutes.length)) <|
       gd ((x19.2.Inlets.length = x4.Inlets.length)) <|
       gd ((x19.2.Plan.length = x4.Plan.length)) <|
       br (g.lt x19.1 0)
       (
        some false)
       (
        cl (L_eqCentre g t (Centre.mk x5.1.Belt x5.1.Chutes x5.1.Inlets x5.1.Plan x5.1.Now) (Centre.mk x3.1.Belt x3.1.Chutes x3.1.Inlets x3.1.Plan x3.1.Now)) fun x20 =>
        br x20
        (
         cl (L_markCentre g t (Centre.mk x5.1.Belt x5.1.Chutes x5.1.Inlets x5.1.Plan x5.1.Now) 1) fun x21 =>
         gd ((x21.2.Belt.length = x5.1.Belt.length)) <|
         gd ((x21.2.Chutes.length = x5.1.Chutes.length)) <|
         gd ((x21.2.Inlets.length = x5.1.Inlets.length)) <|
         gd ((x21.2.Plan.length = x5.1.Plan.length)) <|
         lP (L_heldCentre g t (Centre.mk x21.2.Belt x21.2.Chutes x21.2.Inlets x21.2.Plan x5.1.Now) 1) fun x22 =>
         br (g.lt x22 0)
         (
          some false)
         (
          br (g.eq x22 x21.1)
          (
           cl (L_toCentre g t a0) fun x23 =>
           cl (I_SetPlan g t x23 a1 a2) fun x24 =>
           cl (L_eqCentre g t (Centre.mk x24.1.Belt x24.1.Chutes x24.1.Inlets x24.1.Plan x24.1.Now) (Centre.mk x3.1.Belt x3.1.Chutes x3.1.Inlets x3.1.Plan x3.1.Now)) fun x25 =>
           br x25
           (
            br x24.2
            (
             some false)
            (
             lP (L_heldCentre g t (Centre.mk x21.2.Belt x21.2.Chutes x21.2.Inlets x21.2.Plan x5.1.Now) 1) fun x26 =>
             br (g.lt x26 0)
             (
              some false)
             (
              br (g.eq x26 x21.1)
              (
               some true)
              (
               some false))))
           (
            some false))
          (
           some false)))
        (
         some false)))
      (
       some false))))
   (
    some false))
theorem fit18 : codeFit Try.prog Try.f18.ntmps (Try.f18.body.getD .skip) ir18 = true := by kernel_rfl
theorem c_L_FnExactSetPlan {g : G} {t : TE} {a0 : Centre} {a1 : Int} {a2 : Int} {r : Bool} (hg : g = G.real) (ht : t = TE.real) (h : L_FnExactSetPlan g t a0 a1 a2 = some r) : Fn Try.prog 18 [.g (Centre.rs t a0), .c (.v (.int .i64 a1)), .c (.v (.int .i64 a2))] (.c (.r (.v (.bool r)))) := by
  obtain ⟨X, hX⟩ := hide (.c (.r (.v (.bool r))) : X)
  rw [← hX]
  refine fn_of (rvs := rv18) (j := ir18) Try.func18 rfl fit18 (Nat.le_of_ble_eq_true rfl) (by kernel_rfl) prog_mixed ?_
  intro g2 F hg2 hF
  obtain rfl : g2 = g := hg2.unique.trans hg.symm
  clear hg2
  obtain ⟨wrap, lt, le, eq, quo, rem, band, bor, bxor, shl, shr, nat, int, add, sub, mul, cat, seq, slt, sub3, byte, llen, nadd, nsub, dlen, dapp, dset, drep, rd, rda, up, rsub, dsub, all, sle, slen, hasI, putI, hasS, putS, imin, imax, fzc⟩ := g2
  obtain ⟨r_Item, d_Item, r_Chute, d_Chute, r_Inlet, d_Inlet, r_I64, d_I64, r_U8, d_U8⟩ := t
  obtain ⟨a0_Belt, a0_Chutes, a0_Inlets, a0_Plan, a0_Now⟩ := a0
  have hfr_Item : ∀ l, freshDss (d_Item l) = true := fresh_Item ht
  have hrda_Item : ∀ l, rda (d_Item l) = r_Item l := rda_Item hg ht
  have hfr_Chute : ∀ l, freshDss (d_Chute l) = true := fresh_Chute ht
  have hrda_Chute : ∀ l, rda (d_Chute l) = r_Chute l := rda_Chute hg ht
  have hfr_Inlet : ∀ l, freshDss (d_Inlet l) = true := fresh_Inlet ht
  have hrda_Inlet : ∀ l, rda (d_Inlet l) = r_Inlet l := rda_Inlet hg ht
  have hfr_I64 : ∀ l, freshDss (d_I64 l) = true := fresh_I64 ht
  have hrda_I64 : ∀ l, rda (d_I64 l) = r_I64 l := rda_I64 hg ht
  unfold L_FnExactSetPlan at h
  try dsimp only at h
  cbv
  obtain ⟨x1, hx1, h⟩ := of_lP h
  try dsimp only at h
  refine ACall.mk _ _ rfl (hF _ _ _ (c_L_szCentre hg ht hx1)) (.inl rfl) (Nat.le_of_ble_eq_true rfl) ?_
  cbv
  cases hb1 : (lt x1 0) with
  | true =>
    rw [br_true hb1] at h
    cbv
    obtain rfl := Option.some.inj h
    exact ARet.mk trivial hX.symm
  | false =>
    rw [br_false hb1] at h
    cbv
    obtain ⟨x2, hx2, h⟩ := of_cl h
    obtain ⟨x2_Belt, x2_Chutes, x2_Inlets, x2_Plan, x2_Now⟩ := x2
    try dsimp only at h
    refine ACallR.mk _ _ (.g [.r (.s 2 (r_Item x2_Belt)), .r (.s 3 (r_Chute x2_Chutes)), .r (.s 2 (r_Inlet x2_Inlets)), .r (.s 1 (r_I64 x2_Plan)), .r (.v (.int .i64 x2_Now))]) rfl (hF _ _ _ (c_L_toCentre hg ht hx2)) (.inl rfl) (Nat.le_of_ble_eq_true rfl) (by cbv; (try simp only [hrda_Chute, hrda_I64, hrda_Inlet, hrda_Item])) ?_
    cbv
    obtain ⟨x3, hx3, h⟩ := of_cl h
    obtain ⟨⟨x3_1_Belt, x3_1_Chutes, x3_1_Inlets, x3_1_Plan, x3_1_Now⟩, x3_2⟩ := x3
    try dsimp only at h
    refine ACallR.mk _ _ (.u [.g [.r (.s 2 (r_Item x3_1_Belt)), .r (.s 3 (r_Chute x3_1_Chutes)), .r (.s 2 (r_Inlet x3_1_Inlets)), .r (.s 1 (r_I64 x3_1_Plan)), .r (.v (.int .i64 x3_1_Now))], .c (.r (.v (.bool x3_2)))]) rfl (hF _ _ _ (c_S_SetPlan hg ht hx3)) (.inl rfl) (Nat.le_of_ble_eq_true rfl) (by cbv; (try simp only [hrda_Chute, hrda_I64, hrda_Inlet, hrda_Item])) ?_
    cbv
    obtain ⟨x4, hx4, h⟩ := of_cl h
    obtain ⟨x4_Belt, x4_Chutes, x4_Inlets, x4_Plan, x4_Now⟩ := x4
    try dsimp only at h
    refine ACall.mk _ _ rfl (hF _ _ _ (c_L_toCentre hg ht hx4)) (.inl rfl) (Nat.le_of_ble_eq_true rfl) ?_
    cbv
    refine AStep.mk ⟨(lend_Item ht (dlen_Item hg ht _)), ⟨(lend_Chute ht (dlen_Chute hg ht _)), ⟨(lend_Inlet ht (dlen_Inlet hg ht _)), (lend_I64 ht (dlen_I64 hg ht _))⟩⟩⟩ ?_
    cbv
    obtain ⟨x5, hx5, h⟩ := of_cl h
    obtain ⟨⟨x5_1_Belt, x5_1_Chutes, x5_1_Inlets, x5_1_Plan, x5_1_Now⟩, x5_2⟩ := x5
    try dsimp only at h
    refine ACall.mk _ _ (by rw [show rd (d_Item x4_Belt) 0 (dlen (d_Item x4_Belt)) = r_Item x4_Belt from rdw_Item hg ht (dlen_Item hg ht _), show rd (d_Chute x4_Chutes) 0 (dlen (d_Chute x4_Chutes)) = r_Chute x4_Chutes from rdw_Chute hg ht (dlen_Chute hg ht _), show rd (d_Inlet x4_Inlets) 0 (dlen (d_Inlet x4_Inlets)) = r_Inlet x4_Inlets from rdw_Inlet hg ht (dlen_Inlet hg ht _), show rd (d_I64 x4_Plan) 0 (dlen (d_I64 x4_Plan)) = r_I64 x4_Plan from rdw_I64 hg ht (dlen_I64 hg ht _)]; try rfl) (hF _ _ _ (c_I_SetPlan hg ht hx5)) (.inr (by simp only [Go.Vs.X.fresh, Go.Vs.X.freshs, freshD, freshDs, Bool.and_self, Centre.ds, hfr_Chute, hfr_I64, hfr_Inlet, hfr_Item])) (Nat.le_of_ble_eq_true rfl) ?_
    cbv
    refine AStep.mk ⟨(lend_Item ht (dlen_Item hg ht _)), ⟨(lend_Chute ht (dlen_Chute hg ht _)), ⟨(lend_Inlet ht (dlen_Inlet hg ht _)), (lend_I64 ht (dlen_I64 hg ht _))⟩⟩⟩ ?_
    cbv
    obtain ⟨x6, hx6, h⟩ := of_cl h
    try dsimp only at h
    refine ACall.mk _ _ (by rw [show rd (d_Item x5_1_Belt) 0 (dlen (d_Item x5_1_Belt)) = r_Item x5_1_Belt from rdw_Item hg ht (dlen_Item hg ht _), show rd (d_Chute x5_1_Chutes) 0 (dlen (d_Chute x5_1_Chutes)) = r_Chute x5_1_Chutes from rdw_Chute hg ht (dlen_Chute hg ht _), show rd (d_Inlet x5_1_Inlets) 0 (dlen (d_Inlet x5_1_Inlets)) = r_Inlet x5_1_Inlets from rdw_Inlet hg ht (dlen_Inlet hg ht _), show rd (d_I64 x5_1_Plan) 0 (dlen (d_I64 x5_1_Plan)) = r_I64 x5_1_Plan from rdw_I64 hg ht (dlen_I64 hg ht _)]; try rfl) (hF _ _ _ (c_L_eqCentre hg ht hx6)) (.inr rfl) (Nat.le_of_ble_eq_true rfl) ?_
    cbv
    cases hb2 : x6 with
    | true =>
      rw [br_true hb2] at h
      cbv
      try (rw [hb2]; cbv)
      try (rw [hb2]; cbv)
      cases hb3 : x5_2 with
      | true =>
        rw [br_true hb3] at h
        cbv
        cases hb4 : x3_2 with
        | true =>
          rw [br_true hb4] at h
          cbv
          try (rw [hb2]; cbv)
          obtain ⟨x7, hx7, h⟩ := of_cl h
          obtain ⟨x7_Belt, x7_Chutes, x7_Inlets, x7_Plan, x7_Now⟩ := x7
          try dsimp only at h
          refine ACallR.mk _ _ (.g [.r (.s 2 (r_Item x7_Belt)), .r (.s 3 (r_Chute x7_Chutes)), .r (.s 2 (r_Inlet x7_Inlets)), .r (.s 1 (r_I64 x7_Plan)), .r (.v (.int .i64 x7_Now))]) rfl (hF _ _ _ (c_L_toCentre hg ht hx7)) (.inl rfl) (Nat.le_of_ble_eq_true rfl) (by cbv; (try simp only [hrda_Chute, hrda_I64, hrda_Inlet, hrda_Item])) ?_
          cbv
          refine AStep.mk ⟨(lend_Item ht (dlen_Item hg ht _)), ⟨(lend_Chute ht (dlen_Chute hg ht _)), ⟨(lend_Inlet ht (dlen_Inlet hg ht _)), (lend_I64 ht (dlen_I64 hg ht _))⟩⟩⟩ ?_
          cbv
          obtain ⟨x8, hx8, h⟩ := of_cl h
          try dsimp only at h
          refine ACall.mk _ _ (by rw [show rd (d_Item x4_Belt) 0 (dlen (d_Item x4_Belt)) = r_Item x4_Belt from rdw_Item hg ht (dlen_Item hg ht _), show rd (d_Chute x4_Chutes) 0 (dlen (d_Chute x4_Chutes)) = r_Chute x4_Chutes from rdw_Chute hg ht (dlen_Chute hg ht _), show rd (d_Inlet x4_Inlets) 0 (dlen (d_Inlet x4_Inlets)) = r_Inlet x4_Inlets from rdw_Inlet hg ht (dlen_Inlet hg ht _), show rd (d_I64 x4_Plan) 0 (dlen (d_I64 x4_Plan)) = r_I64 x4_Plan from rdw_I64 hg ht (dlen_I64 hg ht _)]; try rfl) (hF _ _ _ (c_L_eqCentre hg ht hx8)) (.inr rfl) (Nat.le_of_ble_eq_true rfl) ?_
          cbv
          cases hb5 : x8 with
          | true =>
            rw [br_true hb5] at h
            cbv
            refine AStep.mk ⟨⟨rfl, (dlen_Item hg ht _)⟩, ⟨⟨rfl, (dlen_Chute hg ht _)⟩, ⟨⟨rfl, (dlen_Inlet hg ht _)⟩, ⟨rfl, (dlen_I64 hg ht _)⟩⟩⟩⟩ ?_
            cbv
            obtain ⟨x9, hx9, h⟩ := of_cl h
            obtain ⟨x9_1, ⟨x9_2_Belt, x9_2_Chutes, x9_2_Inlets, x9_2_Plan, x9_2_Now⟩⟩ := x9
            try dsimp only at h
            refine ACallM.mk _ _ _ _ rfl rfl (hF _ _ _ (c_L_markCentre hg ht hx9)) rfl (Nat.le_of_ble_eq_true rfl) (Nat.le_of_ble_eq_true rfl) ?_
            cbv
            obtain ⟨hc1, h⟩ := of_gd h
            obtain ⟨hc2, h⟩ := of_gd h
            obtain ⟨hc3, h⟩ := of_gd h
            obtain ⟨hc4, h⟩ := of_gd h
            cases hb6 : (lt x9_1 0) with
            | true =>
              rw [br_true hb6] at h
              cbv
              try (rw [hb6]; cbv)
              try (rw [hb6]; cbv)
              try (rw [hb6]; cbv)
              try (rw [hb6]; cbv)
              obtain rfl := Option.some.inj h
              exact ARet.mk trivial hX.symm
            | false =>
              rw [br_false hb6] at h
              cbv
              try (rw [hb6]; cbv)
              try (rw [hb6]; cbv)
              refine AStep.mk ⟨(lend_Item ht (dlen_Item hg ht _)), ⟨(lend_Chute ht (dlen_Chute hg ht _)), ⟨(lend_Inlet ht (dlen_Inlet hg ht _)), (lend_I64 ht (dlen_I64 hg ht _))⟩⟩⟩ ?_
              cbv
              obtain ⟨x10, hx10, h⟩ := of_cl h
              try dsimp only at h
              refine ACall.mk _ _ (by rw [show rd (d_Item x5_1_Belt) 0 (dlen (d_Item x5_1_Belt)) = r_Item x5_1_Belt from rdw_Item hg ht (dlen_Item hg ht _), show rd (d_Chute x5_1_Chutes) 0 (dlen (d_Chute x5_1_Chutes)) = r_Chute x5_1_Chutes from rdw_Chute hg ht (dlen_Chute hg ht _), show rd (d_Inlet x5_1_Inlets) 0 (dlen (d_Inlet x5_1_Inlets)) = r_Inlet x5_1_Inlets from rdw_Inlet hg ht (dlen_Inlet hg ht _), show rd (d_I64 x5_1_Plan) 0 (dlen (d_I64 x5_1_Plan)) = r_I64 x5_1_Plan from rdw_I64 hg ht (dlen_I64 hg ht _)]; try rfl) (hF _ _ _ (c_L_eqCentre hg ht hx10)) (.inr rfl) (Nat.le_of_ble_eq_true rfl) ?_
              cbv
              try (rw [hb6]; cbv)
              try (rw [hb6]; cbv)
              cases hb7 : x10 with
              | true =>
                rw [br_true hb7] at h
                cbv
                try (rw [hb7]; cbv)
                try (rw [hb7]; cbv)
                try (rw [hb3]; cbv)
                try (rw [hb4]; cbv)
                try (rw [hb7]; cbv)
                refine AStep.mk ⟨⟨rfl, (dlen_Item hg ht _)⟩, ⟨⟨rfl, (dlen_Chute hg ht _)⟩, ⟨⟨rfl, (dlen_Inlet hg ht _)⟩, ⟨rfl, (dlen_I64 hg ht _)⟩⟩⟩⟩ ?_
                cbv
                obtain ⟨x11, hx11, h⟩ := of_cl h
                obtain ⟨x11_1, ⟨x11_2_Belt, x11_2_Chutes, x11_2_Inlets, x11_2_Plan, x11_2_Now⟩⟩ := x11
                try dsimp only at h
                refine ACallM.mk _ _ _ _ rfl rfl (hF _ _ _ (c_L_markCentre hg ht hx11)) rfl (Nat.le_of_ble_eq_true rfl) (Nat.le_of_ble_eq_true rfl) ?_
                cbv
                obtain ⟨hc5, h⟩ := of_gd h
                obtain ⟨hc6, h⟩ := of_gd h
                obtain ⟨hc7, h⟩ := of_gd h
                obtain ⟨hc8, h⟩ := of_gd h
                refine AStep.mk ⟨(lend_Item ht (lenp_Item ht (dlen_Item hg ht _) hc5)), ⟨(lend_Chute ht (lenp_Chute ht (dlen_Chute hg ht _) hc6)), ⟨(lend_Inlet ht (lenp_Inlet ht (dlen_Inlet hg ht _) hc7)), (lend_I64 ht (lenp_I64 ht (dlen_I64 hg ht _) hc8))⟩⟩⟩ ?_
                cbv
                obtain ⟨x12, hx12, h⟩ := of_lP h
                try dsimp only at h
                refine ACall.mk _ _ (by rw [show rd (d_Item x11_2_Belt) 0 (dlen (d_Item x5_1_Belt)) = r_Item x11_2_Belt from rdw_Item hg ht (lenp_Item ht (dlen_Item hg ht _) hc5), show rd (d_Chute x11_2_Chutes) 0 (dlen (d_Chute x5_1_Chutes)) = r_Chute x11_2_Chutes from rdw_Chute hg ht (lenp_Chute ht (dlen_Chute hg ht _) hc6), show rd (d_Inlet x11_2_Inlets) 0 (dlen (d_Inlet x5_1_Inlets)) = r_Inlet x11_2_Inlets from rdw_Inlet hg ht (lenp_Inlet ht (dlen_Inlet hg ht _) hc7), show rd (d_I64 x11_2_Plan) 0 (dlen (d_I64 x5_1_Plan)) = r_I64 x11_2_Plan from rdw_I64 hg ht (lenp_I64 ht (dlen_I64 hg ht _) hc8)]; try rfl) (hF _ _ _ (c_L_heldCentre hg ht hx12)) (.inr rfl) (Nat.le_of_ble_eq_true rfl) ?_
                cbv
                cases hb8 : (lt x12 0) with
                | true =>
                  rw [br_true hb8] at h
                  cbv
                  obtain rfl := Option.some.inj h
                  exact ARet.mk trivial hX.symm
                | false =>
                  rw [br_false hb8] at h
                  cbv
                  cases hb9 : (eq x12 x11_1) with
                  | true =>
                    rw [br_true hb9] at h
                    cbv
                    obtain ⟨x13, hx13, h⟩ := of_cl h
                    obtain ⟨x13_Belt, x13_Chutes, x13_Inlets, x13_Plan, x13_Now⟩ := x13
                    try dsimp only at h
                    refine ACallR.mk _ _ (.g [.r (.s 2 (r_Item x13_Belt)), .r (.s 3 (r_Chute x13_Chutes)), .r (.s 2 (r_Inlet x13_Inlets)), .r (.s 1 (r_I64 x13_Plan)), .r (.v (.int .i64 x13_Now))]) rfl (hF _ _ _ (c_L_toCentre hg ht hx13)) (.inl rfl) (Nat.le_of_ble_eq_true rfl) (by cbv; (try simp only [hrda_Chute, hrda_I64, hrda_Inlet, hrda_Item])) ?_
                    cbv
                    obtain ⟨x14, hx14, h⟩ := of_cl h
                    obtain ⟨⟨x14_1_Belt, x14_1_Chutes, x14_1_Inlets, x14_1_Plan, x14_1_Now⟩, x14_2⟩ := x14
                    try dsimp only at h
                    refine ACallR.mk _ _ (.u [.g [.r (.s 2 (r_Item x14_1_Belt)), .r (.s 3 (r_Chute x14_1_Chutes)), .r (.s 2 (r_Inlet x14_1_Inlets)), .r (.s 1 (r_I64 x14_1_Plan)), .r (.v (.int .i64 x14_1_Now))], .c (.r (.v (.bool x14_2)))]) rfl (hF _ _ _ (c_I_SetPlan hg ht hx14)) (.inl rfl) (Nat.le_of_ble_eq_true rfl) (by cbv; (try simp only [hrda_Chute, hrda_I64, hrda_Inlet, hrda_Item])) ?_
                    cbv
                    obtain ⟨x15, hx15, h⟩ := of_cl h
                    try dsimp only at h
                    refine ACall.mk _ _ rfl (hF _ _ _ (c_L_eqCentre hg ht hx15)) (.inl rfl) (Nat.le_of_ble_eq_true rfl) ?_
                    cbv
                    cases hb10 : x15 with
                    | true =>
                      rw [br_true hb10] at h
                      cbv
                      try (rw [hb10]; cbv)
                      try (rw [hb10]; cbv)
                      cases hb11 : x14_2 with
                      | true =>
                        rw [br_true hb11] at h
                        cbv
                        try (rw [hb4]; cbv)
                        try (rw [hb10]; cbv)
                        refine AStep.mk ⟨(lend_Item ht (lenp_Item ht (dlen_Item hg ht _) hc5)), ⟨(lend_Chute ht (lenp_Chute ht (dlen_Chute hg ht _) hc6)), ⟨(lend_Inlet ht (lenp_Inlet ht (dlen_Inlet hg ht _) hc7)), (lend_I64 ht (lenp_I64 ht (dlen_I64 hg ht _) hc8))⟩⟩⟩ ?_
                        cbv
                        obtain ⟨x16, hx16, h⟩ := of_lP h
                        try dsimp only at h
                        refine ACall.mk _ _ (by rw [show rd (d_Item x11_2_Belt) 0 (dlen (d_Item x5_1_Belt)) = r_Item x11_2_Belt from rdw_Item hg ht (lenp_Item ht (dlen_Item hg ht _) hc5), show rd (d_Chute x11_2_Chutes) 0 (dlen (d_Chute x5_1_Chutes)) = r_Chute x11_2_Chutes from rdw_Chute hg ht (lenp_Chute ht (dlen_Chute hg ht _) hc6), show rd (d_Inlet x11_2_Inlets) 0 (dlen (d_Inlet x5_1_Inlets)) = r_Inlet x11_2_Inlets from rdw_Inlet hg ht (lenp_Inlet ht (dlen_Inlet hg ht _) hc7), show rd (d_I64 x11_2_Plan) 0 (dlen (d_I64 x5_1_Plan)) = r_I64 x11_2_Plan from rdw_I64 hg ht (lenp_I64 ht (dlen_I64 hg ht _) hc8)]; try rfl) (hF _ _ _ (c_L_heldCentre hg ht hx16)) (.inr rfl) (Nat.le_of_ble_eq_true rfl) ?_
                        cbv
                        cases hb12 : (lt x16 0) with
                        | true =>
                          rw [br_true hb12] at h
                          cbv
                          obtain rfl := Option.some.inj h
                          exact ARet.mk trivial hX.symm
                        | false =>
                          rw [br_false hb12] at h
                          cbv
                          cases hb13 : (eq x16 x11_1) with
                          | true =>
                            rw [br_true hb13] at h
                            cbv
                            obtain rfl := Option.some.inj h
                            exact ARet.mk trivial hX.symm
                          | false =>
                            rw [br_false hb13] at h
                            cbv
                            obtain rfl := Option.some.inj h
                            exact ARet.mk trivial hX.symm
                      | false =>
                        rw [br_false hb11] at h
                        cbv
                        try (rw [hb4]; cbv)
                        try (rw [hb10]; cbv)
                        obtain rfl := Option.some.inj h
                        exact ARet.mk trivial hX.symm
                    | false =>
                      rw [br_false hb10] at h
                      cbv
                      try (rw [hb10]; cbv)
                      try (rw [hb10]; cbv)
                      try (rw [hb10]; cbv)
                      obtain rfl := Option.some.inj h
                      exact ARet.mk trivial hX.symm
                  | false =>
                    rw [br_false hb9] at h
                    cbv
                    obtain rfl := Option.some.inj h
                    exact ARet.mk trivial hX.symm
              | false =>
                rw [br_false hb7] at h
                cbv
                try (rw [hb7]; cbv)
                try (rw [hb7]; cbv)
                try (rw [hb7]; cbv)
                obtain rfl := Option.some.inj h
                exact ARet.mk trivial hX.symm
          | false =>
            rw [br_false hb5] at h
            cbv
            obtain rfl := Option.some.inj h
            exact ARet.mk trivial hX.symm
        | false =>
          rw [br_false hb4] at h
          cbv
          try (rw [hb2]; cbv)
          obtain rfl := Option.some.inj h
          exact ARet.mk trivial hX.symm
      | false =>
        rw [br_false hb3] at h
        cbv
        cases hb14 : x3_2 with
        | true =>
          rw [br_true hb14] at h
          cbv
          try (rw [hb2]; cbv)
          obtain rfl := Option.some.inj h
          exact ARet.mk trivial hX.symm
        | false =>
          rw [br_false hb14] at h
          cbv
          try (rw [hb2]; cbv)
          obtain ⟨x17, hx17, h⟩ := of_cl h
          obtain ⟨x17_Belt, x17_Chutes, x17_Inlets, x17_Plan, x17_Now⟩ := x17
          try dsimp only at h
          refine ACallR.mk _ _ (.g [.r (.s 2 (r_Item x17_Belt)), .r (.s 3 (r_Chute x17_Chutes)), .r (.s 2 (r_Inlet x17_Inlets)), .r (.s 1 (r_I64 x17_Plan)), .r (.v (.int .i64 x17_Now))]) rfl (hF _ _ _ (c_L_toCentre hg ht hx17)) (.inl rfl) (Nat.le_of_ble_eq_true rfl) (by cbv; (try simp only [hrda_Chute, hrda_I64, hrda_Inlet, hrda_Item])) ?_
          cbv
          refine AStep.mk ⟨(lend_Item ht (dlen_Item hg ht _)), ⟨(lend_Chute ht (dlen_Chute hg ht _)), ⟨(lend_Inlet ht (dlen_Inlet hg ht _)), (lend_I64 ht (dlen_I64 hg ht _))⟩⟩⟩ ?_
          cbv
          obtain ⟨x18, hx18, h⟩ := of_cl h
          try dsimp only at h
          refine ACall.mk _ _ (by rw [show rd (d_Item x4_Belt) 0 (dlen (d_Item x4_Belt)) = r_Item x4_Belt from rdw_Item hg ht (dlen_Item hg ht _), show rd (d_Chute x4_Chutes) 0 (dlen (d_Chute x4_Chutes)) = r_Chute x4_Chutes from rdw_Chute hg ht (dlen_Chute hg ht _), show rd (d_Inlet x4_Inlets) 0 (dlen (d_Inlet x4_Inlets)) = r_Inlet x4_Inlets from rdw_Inlet hg ht (dlen_Inlet hg ht _), show rd (d_I64 x4_Plan) 0 (dlen (d_I64 x4_Plan)) = r_I64 x4_Plan from rdw_I64 hg ht (dlen_I64 hg ht _)]; try rfl) (hF _ _ _ (c_L_eqCentre hg ht hx18)) (.inr rfl) (Nat.le_of_ble_eq_true rfl) ?_
          cbv
          cases hb15 : x18 with
          | true =>
            rw [br_true hb15] at h
            cbv
            refine AStep.mk ⟨⟨rfl, (dlen_Item hg ht _)⟩, ⟨⟨rfl, (dlen_Chute hg ht _)⟩, ⟨⟨rfl, (dlen_Inlet hg ht _)⟩, ⟨rfl, (dlen_I64 hg ht _)⟩⟩⟩⟩ ?_
            cbv
            obtain ⟨x19, hx19, h⟩ := of_cl h
            obtain ⟨x19_1, ⟨x19_2_Belt, x19_2_Chutes, x19_2_Inlets, x19_2_Plan, x19_2_Now⟩⟩ := x19
            try dsimp only at h
            refine ACallM.mk _ _ _ _ rfl rfl (hF _ _ _ (c_L_markCentre hg ht hx19)) rfl (Nat.le_of_ble_eq_true rfl) (Nat.le_of_ble_eq_true rfl) ?_
            cbv
            obtain ⟨hc9, h⟩ := of_gd h
            obtain ⟨hc10, h⟩ := of_gd h
            obtain ⟨hc11, h⟩ := of_gd h
            obtain ⟨hc12, h⟩ := of_gd h
            cases hb16 : (lt x19_1 0) with
            | true =>
              rw [br_true hb16] at h
              cbv
              try (rw [hb16]; cbv)
              try (rw [hb16]; cbv)
              try (rw [hb16]; cbv)
              try (rw [hb16]; cbv)
              obtain rfl := Option.some.inj h
              exact ARet.mk trivial hX.symm
            | false =>
              rw [br_false hb16] at h
              cbv
              try (rw [hb16]; cbv)
              try (rw [hb16]; cbv)
              refine AStep.mk ⟨(lend_Item ht (dlen_Item hg ht _)), ⟨(lend_Chute ht (dlen_Chute hg ht _)), ⟨(lend_Inlet ht (dlen_Inlet hg ht _)), (lend_I64 ht (dlen_I64 hg ht _))⟩⟩⟩ ?_
              cbv
              obtain ⟨x20, hx20, h⟩ := of_cl h
              try dsimp only at h
              refine ACall.mk _ _ (by rw [show rd (d_Item x5_1_Belt) 0 (dlen (d_Item x5_1_Belt)) = r_Item x5_1_Belt from rdw_Item hg ht (dlen_Item hg ht _), show rd (d_Chute x5_1_Chutes) 0 (dlen (d_Chute x5_1_Chutes)) = r_Chute x5_1_Chutes from rdw_Chute hg ht (dlen_Chute hg ht _), show rd (d_Inlet x5_1_Inlets) 0 (dlen (d_Inlet x5_1_Inlets)) = r_Inlet x5_1_Inlets from rdw_Inlet hg ht (dlen_Inlet hg ht _), show rd (d_I64 x5_1_Plan) 0 (dlen (d_I64 x5_1_Plan)) = r_I64 x5_1_Plan from rdw_I64 hg ht (dlen_I64 hg ht _)]; try rfl) (hF _ _ _ (c_L_eqCentre hg ht hx20)) (.inr rfl) (Nat.le_of_ble_eq_true rfl) ?_
              cbv
              try (rw [hb16]; cbv)
              try (rw [hb16]; cbv)
              cases hb17 : x20 with
              | true =>
                rw [br_true hb17] at h
                cbv
                try (rw [hb17]; cbv)
                try (rw [hb17]; cbv)
                try (rw [hb3]; cbv)
                try (rw [hb14]; cbv)
                try (rw [hb17]; cbv)
                refine AStep.mk ⟨⟨rfl, (dlen_Item hg ht _)⟩, ⟨⟨rfl, (dlen_Chute hg ht _)⟩, ⟨⟨rfl, (dlen_Inlet hg ht _)⟩, ⟨rfl, (dlen_I64 hg ht _)⟩⟩⟩⟩ ?_
                cbv
                obtain ⟨x21, hx21, h⟩ := of_cl h
                obtain ⟨x21_1, ⟨x21_2_Belt, x21_2_Chutes, x21_2_Inlets, x21_2_Plan, x21_2_Now⟩⟩ := x21
                try dsimp only at h
                refine ACallM.mk _ _ _ _ rfl rfl (hF _ _ _ (c_L_markCentre hg ht hx21)) rfl (Nat.le_of_ble_eq_true rfl) (Nat.le_of_ble_eq_true rfl) ?_
                cbv
                obtain ⟨hc13, h⟩ := of_gd h
                obtain ⟨hc14, h⟩ := of_gd h
                obtain ⟨hc15, h⟩ := of_gd h
                obtain ⟨hc16, h⟩ := of_gd h
                refine AStep.mk ⟨(lend_Item ht (lenp_Item ht (dlen_Item hg ht _) hc13)), ⟨(lend_Chute ht (lenp_Chute ht (dlen_Chute hg ht _) hc14)), ⟨(lend_Inlet ht (lenp_Inlet ht (dlen_Inlet hg ht _) hc15)), (lend_I64 ht (lenp_I64 ht (dlen_I64 hg ht _) hc16))⟩⟩⟩ ?_
                cbv
                obtain ⟨x22, hx22, h⟩ := of_lP h
                try dsimp only at h
                refine ACall.mk _ _ (by rw [show rd (d_Item x21_2_Belt) 0 (dlen (d_Item x5_1_Belt)) = r_Item x21_2_Belt from rdw_Item hg ht (lenp_Item ht (dlen_Item hg ht _) hc13), show rd (d_Chute x21_2_Chutes) 0 (dlen (d_Chute x5_1_Chutes)) = r_Chute x21_2_Chutes from rdw_Chute hg ht (lenp_Chute ht (dlen_Chute hg ht _) hc14), show rd (d_Inlet x21_2_Inlets) 0 (dlen (d_Inlet x5_1_Inlets)) = r_Inlet x21_2_Inlets from rdw_Inlet hg ht (lenp_Inlet ht (dlen_Inlet hg ht _) hc15), show rd (d_I64 x21_2_Plan) 0 (dlen (d_I64 x5_1_Plan)) = r_I64 x21_2_Plan from rdw_I64 hg ht (lenp_I64 ht (dlen_I64 hg ht _) hc16)]; try rfl) (hF _ _ _ (c_L_heldCentre hg ht hx22)) (.inr rfl) (Nat.le_of_ble_eq_true rfl) ?_
                cbv
                cases hb18 : (lt x22 0) with
                | true =>
                  rw [br_true hb18] at h
                  cbv
                  obtain rfl := Option.some.inj h
                  exact ARet.mk trivial hX.symm
                | false =>
                  rw [br_false hb18] at h
                  cbv
                  cases hb19 : (eq x22 x21_1) with
                  | true =>
                    rw [br_true hb19] at h
                    cbv
                    obtain ⟨x23, hx23, h⟩ := of_cl h
                    obtain ⟨x23_Belt, x23_Chutes, x23_Inlets, x23_Plan, x23_Now⟩ := x23
                    try dsimp only at h
                    refine ACallR.mk _ _ (.g [.r (.s 2 (r_Item x23_Belt)), .r (.s 3 (r_Chute x23_Chutes)), .r (.s 2 (r_Inlet x23_Inlets)), .r (.s 1 (r_I64 x23_Plan)), .r (.v (.int .i64 x23_Now))]) rfl (hF _ _ _ (c_L_toCentre hg ht hx23)) (.inl rfl) (Nat.le_of_ble_eq_true rfl) (by cbv; (try simp only [hrda_Chute, hrda_I64, hrda_Inlet, hrda_Item])) ?_
                    cbv
                    obtain ⟨x24, hx24, h⟩ := of_cl h
                    obtain ⟨⟨x24_1_Belt, x24_1_Chutes, x24_1_Inlets, x24_1_Plan, x24_1_Now⟩, x24_2⟩ := x24
                    try dsimp only at h
                    refine ACallR.mk _ _ (.u [.g [.r (.s 2 (r_Item x24_1_Belt)), .r (.s 3 (r_Chute x24_1_Chutes)), .r (.s 2 (r_Inlet x24_1_Inlets)), .r (.s 1 (r_I64 x24_1_Plan)), .r (.v (.int .i64 x24_1_Now))], .c (.r (.v (.bool x24_2)))]) rfl (hF _ _ _ (c_I_SetPlan hg ht hx24)) (.inl rfl) (Nat.le_of_ble_eq_true rfl) (by cbv; (try simp only [hrda_Chute, hrda_I64, hrda_Inlet, hrda_Item])) ?_
                    cbv
                    obtain ⟨x25, hx25, h⟩ := of_cl h
                    try dsimp only at h
                    refine ACall.mk _ _ rfl (hF _ _ _ (c_L_eqCentre hg ht hx25)) (.inl rfl) (Nat.le_of_ble_eq_true rfl) ?_
                    cbv
                    cases hb20 : x25 with
                    | true =>
                      rw [br_true hb20] at h
                      cbv
                      try (rw [hb20]; cbv)
                      try (rw [hb20]; cbv)
                      cases hb21 : x24_2 with
                      | true =>
                        rw [br_true hb21] at h
                        cbv
                        try (rw [hb14]; cbv)
                        try (rw [hb20]; cbv)
                        obtain rfl := Option.some.inj h
                        exact ARet.mk trivial hX.symm
                      | false =>
                        rw [br_false hb21] at h
                        cbv
                        try (rw [hb14]; cbv)
                        try (rw [hb20]; cbv)
                        refine AStep.mk ⟨(lend_Item ht (lenp_Item ht (dlen_Item hg ht _) hc13)), ⟨(lend_Chute ht (lenp_Chute ht (dlen_Chute hg ht _) hc14)), ⟨(lend_Inlet ht (lenp_Inlet ht (dlen_Inlet hg ht _) hc15)), (lend_I64 ht (lenp_I64 ht (dlen_I64 hg ht _) hc16))⟩⟩⟩ ?_
                        cbv
                        obtain ⟨x26, hx26, h⟩ := of_lP h
                        try dsimp only at h
                        refine ACall.mk _ _ (by rw [show rd (d_Item x21_2_Belt) 0 (dlen (d_Item x5_1_Belt)) = r_Item x21_2_Belt from rdw_Item hg ht (lenp_Item ht (dlen_Item hg ht _) hc13), show rd (d_Chute x21_2_Chutes) 0 (dlen (d_Chute x5_1_Chutes)) = r_Chute x21_2_Chutes from rdw_Chute hg ht (lenp_Chute ht (dlen_Chute hg ht _) hc14), show rd (d_Inlet x21_2_Inlets) 0 (dlen (d_Inlet x5_1_Inlets)) = r_Inlet x21_2_Inlets from rdw_Inlet hg ht (lenp_Inlet ht (dlen_Inlet hg ht _) hc15), show rd (d_I64 x21_2_Plan) 0 (dlen (d_I64 x5_1_Plan)) = r_I64 x21_2_Plan from rdw_I64 hg ht (lenp_I64 ht (dlen_I64 hg ht _) hc16)]; try rfl) (hF _ _ _ (c_L_heldCentre hg ht hx26)) (.inr rfl) (Nat.le_of_ble_eq_true rfl) ?_
                        cbv
                        cases hb22 : (lt x26 0) with
                        | true =>
                          rw [br_true hb22] at h
                          cbv
                          obtain rfl := Option.some.inj h
                          exact ARet.mk trivial hX.symm
                        | false =>
                          rw [br_false hb22] at h
                          cbv
                          cases hb23 : (eq x26 x21_1) with
                          | true =>
                            rw [br_true hb23] at h
                            cbv
                            obtain rfl := Option.some.inj h
                            exact ARet.mk trivial hX.symm
                          | false =>
                            rw [br_false hb23] at h
                            cbv
                            obtain rfl := Option.some.inj h
                            exact ARet.mk trivial hX.symm
                    | false =>
                      rw [br_false hb20] at h
                      cbv
                      try (rw [hb20]; cbv)
                      try (rw [hb20]; cbv)
                      try (rw [hb20]; cbv)
                      obtain rfl := Option.some.inj h
                      exact ARet.mk trivial hX.symm
                  | false =>
                    rw [br_false hb19] at h
                    cbv
                    obtain rfl := Option.some.inj h
                    exact ARet.mk trivial hX.symm
              | false =>
                rw [br_false hb17] at h
                cbv
                try (rw [hb17]; cbv)
                try (rw [hb17]; cbv)
                try (rw [hb17]; cbv)
                obtain rfl := Option.some.inj h
                exact ARet.mk trivial hX.symm
          | false =>
            rw [br_false hb15] at h
            cbv
            obtain rfl := Option.some.inj h
            exact ARet.mk trivial hX.symm
    | false =>
      rw [br_false hb2] at h
      cbv
      try (rw [hb2]; cbv)
      try (rw [hb2]; cbv)
      try (rw [hb2]; cbv)
      obtain rfl := Option.some.inj h
      exact ARet.mk trivial hX.symm
end Go.Vs
