/- Part of the proofs of this seat's laws: Lad. No condition. -/
import Derived.Test.YtieeagobedjogaaTy
import Derived.Test.YtieeagobedjogaaTIRall
import Derived.Test.YtieeagobedjogaaLac
import Derived.Test.YtieeagobedjogaaLab
import Derived.Test.YtieeagobedjogaaLaa
set_option linter.unusedVariables false
set_option linter.unusedSimpArgs false
set_option linter.unusedSectionVars false
namespace Go.Vs
set_option maxRecDepth 100000
def ir56 : J :=
  .seq (.reg none [⟨(some 1), none, .box (.t 0)⟩,
     ⟨(some 2), none, .mv (.k (V.b false))⟩] [1])
  (.seq (.reg none [⟨(some 3), none, .ld true 5 (.t 1)⟩,
     ⟨(some 4), none, .call 32 true [(.t 3)]⟩,
     ⟨(some 5), none, .mv (.t 4)⟩,
     ⟨(some 6), (some (5, true)), .ld true 5 (.t 1)⟩,
     ⟨(some 7), (some (5, true)), .call 30 true [(.t 6)]⟩,
     ⟨(some 8), (some (5, true)), .bin .eql .i (.t 7) (.k (V.i 0))⟩,
     ⟨(some 9), none, .pick (.t 5) (.t 8) (.k (V.b false))⟩,
     ⟨(some 10), none, .mv (.t 9)⟩,
     ⟨(some 11), (some (10, true)), .ld true 5 (.t 1)⟩,
     ⟨(some 12), (some (10, true)), .call 27 true [(.t 11)]⟩,
     ⟨(some 13), (some (10, true)), .bin .eql .i (.t 12) (.k (V.i 0))⟩,
     ⟨(some 14), none, .pick (.t 10) (.t 13) (.k (V.b false))⟩,
     ⟨(some 2), none, .mv (.t 14)⟩] [2])
  (.ret))
def rv56 : List RV := [.t 2]
open Go.Proofs Go.IntWalk
set_option linter.unusedVariables false
set_option maxRecDepth 100000
set_option maxHeartbeats 4000000
def I_IsDrained (g : G) (t : TE) (a0 : Centre) : Option Bool :=
  cl (I_IsCentre g t a0) fun x1 =>
  br x1
  (
   lP (I_CountBelt g t a0) fun x2 =>
   br (g.eq x2 0)
   (
    lP (I_CountWait g t a0) fun x3 =>
    some (g.eq x3 0))
   (
    some false))
  (
   some false)
theorem fit56 : codeFit Try.prog Try.f56.ntmps (Try.f56.body.getD .skip) ir56 = true := by kernel_rfl
theorem c_I_IsDrained {g : G} {t : TE} {a0 : Centre} {r : Bool} (hg : g = G.real) (ht : t = TE.real) (h : I_IsDrained g t a0 = some r) : Fn Try.prog 56 [.g (Centre.rs t a0)] (.c (.r (.v (.bool r)))) := by
  obtain ⟨X, hX⟩ := hide (.c (.r (.v (.bool r))) : X)
  rw [← hX]
  refine fn_of (rvs := rv56) (j := ir56) Try.func56 rfl fit56 (Nat.le_of_ble_eq_true rfl) (by kernel_rfl) prog_mixed ?_
  intro g2 F hg2 hF
  obtain rfl : g2 = g := hg2.unique.trans hg.symm
  clear hg2
  obtain ⟨wrap, lt, le, eq, quo, rem, band, bor, bxor, shl, shr, nat, int, add, sub, mul, cat, seq, slt, sub3, byte, llen, nadd, nsub, dlen, dapp, dset, drep, rd, rda, up, rsub, dsub, all, sle, slen, hasI, putI, hasS, putS, imin, imax, fzc⟩ := g2
  obtain ⟨r_Item, d_Item, r_Chute, d_Chute, r_Inlet, d_Inlet, r_I64, d_I64, r_U8, d_U8⟩ := t
  obtain ⟨a0_Belt, a0_Chutes, a0_Inlets, a0_Plan, a0_Now⟩ := a0
  unfold I_IsDrained at h
  try dsimp only at h
  cbv
  obtain ⟨x1, hx1, h⟩ := of_cl h
  try dsimp only at h
  refine ACall.mk _ _ rfl (hF _ _ _ (c_I_IsCentre hg ht hx1)) (.inl rfl) (Nat.le_of_ble_eq_true rfl) ?_
  cbv
  cases hb1 : x1 with
  | true =>
    rw [br_true hb1] at h
    cbv
    try (rw [hb1]; cbv)
    obtain ⟨x2, hx2, h⟩ := of_lP h
    try dsimp only at h
    refine ACall.mk _ _ rfl (hF _ _ _ (c_I_CountBelt hg ht hx2)) (.inl rfl) (Nat.le_of_ble_eq_true rfl) ?_
    cbv
    try (rw [hb1]; cbv)
    try (rw [hb1]; cbv)
    cases hb2 : (eq x2 0) with
    | true =>
      rw [br_true hb2] at h
      cbv
      try (rw [hb2]; cbv)
      obtain ⟨x3, hx3, h⟩ := of_lP h
      try dsimp only at h
      refine ACall.mk _ _ rfl (hF _ _ _ (c_I_CountWait hg ht hx3)) (.inl rfl) (Nat.le_of_ble_eq_true rfl) ?_
      cbv
      try (rw [hb2]; cbv)
      try (rw [hb2]; cbv)
      obtain rfl := Option.some.inj h
      exact ARet.mk trivial hX.symm
    | false =>
      rw [br_false hb2] at h
      cbv
      try (rw [hb2]; cbv)
      try (rw [hb2]; cbv)
      try (rw [hb2]; cbv)
      obtain rfl := Option.some.inj h
      exact ARet.mk trivial hX.symm
  | false =>
    rw [br_false hb1] at h
    cbv
    try (rw [hb1]; cbv)
    try (rw [hb1]; cbv)
    try (rw [hb1]; cbv)
    obtain rfl := Option.some.inj h
    exact ARet.mk trivial hX.symm
end Go.Vs
namespace Go.Vs
set_option maxRecDepth 100000
def ir57 : J :=
  .seq (.reg none [⟨(some 1), none, .box (.t 0)⟩,
     ⟨(some 2), none, .mv (.k (V.b false))⟩] [1])
  (.seq (.reg none [⟨(some 3), none, .ld true 5 (.t 1)⟩,
     ⟨(some 4), none, .call 31 true [(.t 3)]⟩,
     ⟨(some 5), none, .mv (.t 4)⟩,
     ⟨(some 6), (some (5, true)), .ld true 5 (.t 1)⟩,
     ⟨(some 7), (some (5, true)), .call 29 true [(.t 6)]⟩,
     ⟨(some 8), (some (5, true)), .bin .eql .i (.t 7) (.k (V.i 0))⟩,
     ⟨(some 9), none, .pick (.t 5) (.t 8) (.k (V.b false))⟩,
     ⟨(some 10), none, .mv (.t 9)⟩,
     ⟨(some 11), (some (10, true)), .ld true 5 (.t 1)⟩,
     ⟨(some 12), (some (10, true)), .call 25 true [(.t 11)]⟩,
     ⟨(some 13), (some (10, true)), .bin .eql .i (.t 12) (.k (V.i 0))⟩,
     ⟨(some 14), none, .pick (.t 10) (.t 13) (.k (V.b false))⟩,
     ⟨(some 2), none, .mv (.t 14)⟩] [2])
  (.ret))
def rv57 : List RV := [.t 2]
open Go.Proofs Go.IntWalk
set_option linter.unusedVariables false
set_option maxRecDepth 100000
set_option maxHeartbeats 4000000
def S_IsDrained (g : G) (t : TE) (a0 : Centre) : Option Bool :=
  cl (S_IsCentre g t a0) fun x1 =>
  br x1
  (
   lP (S_CountBelt g t a0) fun x2 =>
   br (g.eq x2 0)
   (
    lP (S_CountWait g t a0) fun x3 =>
    some (g.eq x3 0))
   (
    some false))
  (
   some false)
theorem fit57 : codeFit Try.prog Try.f57.ntmps (Try.f57.body.getD .skip) ir57 = true := by kernel_rfl
theorem c_S_IsDrained {g : G} {t : TE} {a0 : Centre} {r : Bool} (hg : g = G.real) (ht : t = TE.real) (h : S_IsDrained g t a0 = some r) : Fn Try.prog 57 [.g (Centre.rs t a0)] (.c (.r (.v (.bool r)))) := by
  obtain ⟨X, hX⟩ := hide (.c (.r (.v (.bool r))) : X)
  rw [← hX]
  refine fn_of (rvs := rv57) (j := ir57) Try.func57 rfl fit57 (Nat.le_of_ble_eq_true rfl) (by kernel_rfl) prog_mixed ?_
  intro g2 F hg2 hF
  obtain rfl : g2 = g := hg2.unique.trans hg.symm
  clear hg2
  obtain ⟨wrap, lt, le, eq, quo, rem, band, bor, bxor, shl, shr, nat, int, add, sub, mul, cat, seq, slt, sub3, byte, llen, nadd, nsub, dlen, dapp, dset, drep, rd, rda, up, rsub, dsub, all, sle, slen, hasI, putI, hasS, putS, imin, imax, fzc⟩ := g2
  obtain ⟨r_Item, d_Item, r_Chute, d_Chute, r_Inlet, d_Inlet, r_I64, d_I64, r_U8, d_U8⟩ := t
  obtain ⟨a0_Belt, a0_Chutes, a0_Inlets, a0_Plan, a0_Now⟩ := a0
  unfold S_IsDrained at h
  try dsimp only at h
  cbv
  obtain ⟨x1, hx1, h⟩ := of_cl h
  try dsimp only at h
  refine ACall.mk _ _ rfl (hF _ _ _ (c_S_IsCentre hg ht hx1)) (.inl rfl) (Nat.le_of_ble_eq_true rfl) ?_
  cbv
  cases hb1 : x1 with
  | true =>
    rw [br_true hb1] at h
    cbv
    try (rw [hb1]; cbv)
    obtain ⟨x2, hx2, h⟩ := of_lP h
    try dsimp only at h
    refine ACall.mk _ _ rfl (hF _ _ _ (c_S_CountBelt hg ht hx2)) (.inl rfl) (Nat.le_of_ble_eq_true rfl) ?_
    cbv
    try (rw [hb1]; cbv)
    try (rw [hb1]; cbv)
    cases hb2 : (eq x2 0) with
    | true =>
      rw [br_true hb2] at h
      cbv
      try (rw [hb2]; cbv)
      obtain ⟨x3, hx3, h⟩ := of_lP h
      try dsimp only at h
      refine ACall.mk _ _ rfl (hF _ _ _ (c_S_CountWait hg ht hx3)) (.inl rfl) (Nat.le_of_ble_eq_true rfl) ?_
      cbv
      try (rw [hb2]; cbv)
      try (rw [hb2]; cbv)
      obtain rfl := Option.some.inj h
      exact ARet.mk trivial hX.symm
    | false =>
      rw [br_false hb2] at h
      cbv
      try (rw [hb2]; cbv)
      try (rw [hb2]; cbv)
      try (rw [hb2]; cbv)
      obtain rfl := Option.some.inj h
      exact ARet.mk trivial hX.symm
  | false =>
    rw [br_false hb1] at h
    cbv
    try (rw [hb1]; cbv)
    try (rw [hb1]; cbv)
    try (rw [hb1]; cbv)
    obtain rfl := Option.some.inj h
    exact ARet.mk trivial hX.symm
end Go.Vs
namespace Go.Vs
set_option maxRecDepth 100000
def ir12 : J :=
  .seq (.reg none [⟨(some 1), none, .box (.t 0)⟩,
     ⟨(some 2), none, .mv (.k (V.b false))⟩] [1])
  (.seq (.reg none [⟨(some 3), none, .mv (.k (V.i 1048576))⟩] [1, 3])
  (.seq (.reg none [⟨(some 7), none, .ld true 5 (.t 1)⟩,
     ⟨(some 8), none, .mv (.t 3)⟩,
     ⟨(some 9), none, .call 24 true [(.t 7), (.t 8)]⟩,
     ⟨(some 3), none, .mv (.t 9)⟩] [1, 3])
  (.seq (.seq (.reg none [⟨(some 10), none, .mv (.t 3)⟩,
      ⟨(some 11), none, .bin .lss .i (.t 10) (.k (V.i 0))⟩] [1, 11])
   (.cond (.t 11)
    (.seq (.reg none [⟨(some 2), none, .mv (.k (V.b true))⟩] [2])
     (.ret))
    (.skip)))
  (.seq (.reg none [⟨(some 12), none, .ld true 5 (.t 1)⟩,
     ⟨(some 13), none, .call 26 true [(.t 12)]⟩,
     ⟨(some 14), none, .call 57 true [(.t 13)]⟩,
     ⟨(some 4), none, .mv (.t 14)⟩] [1, 4])
  (.seq (.reg none [⟨(some 15), none, .ld true 5 (.t 1)⟩,
     ⟨(some 16), none, .call 26 true [(.t 15)]⟩,
     ⟨(some 5), none, .alloc [.n 2, .n 3, .n 2, .n 1, .r (.v (.int .i64 0))]⟩,
     ⟨none, none, .st 5 (.t 5) (.t 16)⟩] [1, 4, 5])
  (.seq (.reg none [⟨(some 17), none, .ld true 5 (.t 5)⟩,
     ⟨(some 18), none, .call 56 true [(.t 17)]⟩,
     ⟨(some 6), none, .mv (.t 18)⟩] [1, 4, 5, 6])
  (.seq (.seq (.reg none [⟨(some 19), none, .mv (.t 6)⟩,
      ⟨(some 20), none, .mv (.t 4)⟩,
      ⟨(some 21), none, .bin .neq .b (.t 19) (.t 20)⟩] [1, 5, 21])
   (.cond (.t 21)
    (.seq (.reg none [⟨(some 2), none, .mv (.k (V.b false))⟩] [2])
     (.ret))
    (.skip)))
  (.seq (.seq (.reg (some [[], [], [1], [0, 1, 2], [0, 1, 2, 3]]) [⟨(some 22), none, .ld true 5 (.t 5)⟩,
      ⟨(some 23), none, .ld true 5 (.t 1)⟩,
      ⟨(some 24), none, .call 26 true [(.t 23)]⟩,
      ⟨(some 25), none, .call 28 true [(.t 22), (.t 24)]⟩,
      ⟨(some 26), none, .not (.t 25)⟩] [26])
   (.cond (.t 26)
    (.seq (.reg none [⟨(some 2), none, .mv (.k (V.b false))⟩] [2])
     (.ret))
    (.skip)))
  (.seq (.reg none [⟨(some 2), none, .mv (.k (V.b true))⟩] [2])
  (.ret))))))))))
def rv12 : List RV := [.t 2]
open Go.Proofs Go.IntWalk
set_option linter.unusedVariables false
set_option maxRecDepth 100000
set_option maxHeartbeats 4000000
def L_FnExactIsDrained (g : G) (t : TE) (a0 : Centre) : Option Bool :=
  lP (L_szCentre g t a0 1048576) fun x1 =>
  br (g.lt x1 0)
  (
   some true)
  (
   cl (L_toCentre g t a0) fun x2 =>
   cl (S_IsDrained g t x2) fun x3 =>
   cl (L_toCentre g t a0) fun x4 =>
   cl (I_IsDrained g t x4) fun x5 =>
   br x5
   (
    br x3
    (
     cl (L_toCentre g t a0) fun x6 =>
     cl (L_eqCentre g t x4 x6) fun x7 =>
     br x7
     (
      some true)
     (
      some false))
    (
     some false))
   (
    br x3
    (
     some false)
    (
     cl (L_toCentre g t a0) fun x8 =>
     cl (L_eqCentre g t x4 x8) fun x9 =>
     br x9
     (
      some true)
     (
      some false))))
theorem fit12 : codeFit Try.prog Try.f12.ntmps (Try.f12.body.getD .skip) ir12 = true := by kernel_rfl
theorem c_L_FnExactIsDrained {g : G} {t : TE} {a0 : Centre} {r : Bool} (hg : g = G.real) (ht : t = TE.real) (h : L_FnExactIsDrained g t a0 = some r) : Fn Try.prog 12 [.g (Centre.rs t a0)] (.c (.r (.v (.bool r)))) := by
  obtain ⟨X, hX⟩ := hide (.c (.r (.v (.bool r))) : X)
  rw [← hX]
  refine fn_of (rvs := rv12) (j := ir12) Try.func12 rfl fit12 (Nat.le_of_ble_eq_true rfl) (by kernel_rfl) prog_mixed ?_
  intro g2 F hg2 hF
  obtain rfl : g2 = g := hg2.unique.trans hg.symm
  clear hg2
  obtain ⟨wrap, lt, le, eq, quo, rem, band, bor, bxor, shl, shr, nat, int, add, sub, mul, cat, seq, slt, sub3, byte, llen, nadd, nsub, dlen, dapp, dset, drep, rd, rda, up, rsub, dsub, all, sle, slen, hasI, putI, hasS, putS, imin, imax, fzc⟩ := g2
  obtain ⟨r_Item, d_Item, r_Chute, d_Chute, r_Inlet, d_Inlet, r_I64, d_I64, r_U8, d_U8⟩ := t
  obtain ⟨a0_Belt, a0_Chutes, a0_Inlets, a0_Plan, a0_Now⟩ := a0
  unfold L_FnExactIsDrained at h
  try dsimp only at h
  cbv
  obtain ⟨x1, hx1, h⟩ := of_lP h
  try dsimp only at h
  refine ACall.mk _ _ rfl (hF _ _ _ (c_L_szCentre hg ht hx1)) (.inl rfl) (Nat.le_of_ble_eq_true rfl) ?_
  cbv
  cases hb1 : (lt x1 0) with
  | true =>
    rw [br_true hb1] at h
    cbv
    obtain rfl := Option.some.inj h
    exact ARet.mk trivial hX.symm
  | false =>
    rw [br_false hb1] at h
    cbv
    obtain ⟨x2, hx2, h⟩ := of_cl h
    obtain ⟨x2_Belt, x2_Chutes, x2_Inlets, x2_Plan, x2_Now⟩ := x2
    try dsimp only at h
    refine ACall.mk _ _ rfl (hF _ _ _ (c_L_toCentre hg ht hx2)) (.inl rfl) (Nat.le_of_ble_eq_true rfl) ?_
    cbv
    refine AStep.mk ⟨(lend_Item ht (dlen_Item hg ht _)), ⟨(lend_Chute ht (dlen_Chute hg ht _)), ⟨(lend_Inlet ht (dlen_Inlet hg ht _)), (lend_I64 ht (dlen_I64 hg ht _))⟩⟩⟩ ?_
    cbv
    obtain ⟨x3, hx3, h⟩ := of_cl h
    try dsimp only at h
    refine ACall.mk _ _ (by rw [show rd (d_Item x2_Belt) 0 (dlen (d_Item x2_Belt)) = r_Item x2_Belt from rdw_Item hg ht (dlen_Item hg ht _), show rd (d_Chute x2_Chutes) 0 (dlen (d_Chute x2_Chutes)) = r_Chute x2_Chutes from rdw_Chute hg ht (dlen_Chute hg ht _), show rd (d_Inlet x2_Inlets) 0 (dlen (d_Inlet x2_Inlets)) = r_Inlet x2_Inlets from rdw_Inlet hg ht (dlen_Inlet hg ht _), show rd (d_I64 x2_Plan) 0 (dlen (d_I64 x2_Plan)) = r_I64 x2_Plan from rdw_I64 hg ht (dlen_I64 hg ht _)]; try rfl) (hF _ _ _ (c_S_IsDrained hg ht hx3)) (.inr rfl) (Nat.le_of_ble_eq_true rfl) ?_
    cbv
    obtain ⟨x4, hx4, h⟩ := of_cl h
    obtain ⟨x4_Belt, x4_Chutes, x4_Inlets, x4_Plan, x4_Now⟩ := x4
    try dsimp only at h
    refine ACall.mk _ _ rfl (hF _ _ _ (c_L_toCentre hg ht hx4)) (.inl rfl) (Nat.le_of_ble_eq_true rfl) ?_
    cbv
    refine AStep.mk ⟨(lend_Item ht (dlen_Item hg ht _)), ⟨(lend_Chute ht (dlen_Chute hg ht _)), ⟨(lend_Inlet ht (dlen_Inlet hg ht _)), (lend_I64 ht (dlen_I64 hg ht _))⟩⟩⟩ ?_
    cbv
    obtain ⟨x5, hx5, h⟩ := of_cl h
    try dsimp only at h
    refine ACall.mk _ _ (by rw [show rd (d_Item x4_Belt) 0 (dlen (d_Item x4_Belt)) = r_Item x4_Belt from rdw_Item hg ht (dlen_Item hg ht _), show rd (d_Chute x4_Chutes) 0 (dlen (d_Chute x4_Chutes)) = r_Chute x4_Chutes from rdw_Chute hg ht (dlen_Chute hg ht _), show rd (d_Inlet x4_Inlets) 0 (dlen (d_Inlet x4_Inlets)) = r_Inlet x4_Inlets from rdw_Inlet hg ht (dlen_Inlet hg ht _), show rd (d_I64 x4_Plan) 0 (dlen (d_I64 x4_Plan)) = r_I64 x4_Plan from rdw_I64 hg ht (dlen_I64 hg ht _)]; try rfl) (hF _ _ _ (c_I_IsDrained hg ht hx5)) (.inr rfl) (Nat.le_of_ble_eq_true rfl) ?_
    cbv
    cases hb2 : x5 with
    | true =>
      rw [br_true hb2] at h
      cbv
      cases hb3 : x3 with
      | true =>
        rw [br_true hb3] at h
        cbv
        obtain ⟨x6, hx6, h⟩ := of_cl h
        obtain ⟨x6_Belt, x6_Chutes, x6_Inlets, x6_Plan, x6_Now⟩ := x6
        try dsimp only at h
        refine ACall.mk _ _ rfl (hF _ _ _ (c_L_toCentre hg ht hx6)) (.inl rfl) (Nat.le_of_ble_eq_true rfl) ?_
        cbv
        refine AStep.mk ⟨⟨(lend_Item ht (dlen_Item hg ht _)), ⟨(lend_Chute ht (dlen_Chute hg ht _)), ⟨(lend_Inlet ht (dlen_Inlet hg ht _)), (lend_I64 ht (dlen_I64 hg ht _))⟩⟩⟩, ⟨(lend_Item ht (dlen_Item hg ht _)), ⟨(lend_Chute ht (dlen_Chute hg ht _)), ⟨(lend_Inlet ht (dlen_Inlet hg ht _)), (lend_I64 ht (dlen_I64 hg ht _))⟩⟩⟩⟩ ?_
        cbv
        obtain ⟨x7, hx7, h⟩ := of_cl h
        try dsimp only at h
        refine ACall.mk _ _ (by rw [show rd (d_Item x4_Belt) 0 (dlen (d_Item x4_Belt)) = r_Item x4_Belt from rdw_Item hg ht (dlen_Item hg ht _), show rd (d_Chute x4_Chutes) 0 (dlen (d_Chute x4_Chutes)) = r_Chute x4_Chutes from rdw_Chute hg ht (dlen_Chute hg ht _), show rd (d_Inlet x4_Inlets) 0 (dlen (d_Inlet x4_Inlets)) = r_Inlet x4_Inlets from rdw_Inlet hg ht (dlen_Inlet hg ht _), show rd (d_I64 x4_Plan) 0 (dlen (d_I64 x4_Plan)) = r_I64 x4_Plan from rdw_I64 hg ht (dlen_I64 hg ht _), show rd (d_Item x6_Belt) 0 (dlen (d_Item x6_Belt)) = r_Item x6_Belt from rdw_Item hg ht (dlen_Item hg ht _), show rd (d_Chute x6_Chutes) 0 (dlen (d_Chute x6_Chutes)) = r_Chute x6_Chutes from rdw_Chute hg ht (dlen_Chute hg ht _), show rd (d_Inlet x6_Inlets) 0 (dlen (d_Inlet x6_Inlets)) = r_Inlet x6_Inlets from rdw_Inlet hg ht (dlen_Inlet hg ht _), show rd (d_I64 x6_Plan) 0 (dlen (d_I64 x6_Plan)) = r_I64 x6_Plan from rdw_I64 hg ht (dlen_I64 hg ht _)]; try rfl) (hF _ _ _ (c_L_eqCentre hg ht hx7)) (.inr rfl) (Nat.le_of_ble_eq_true rfl) ?_
        cbv
        cases hb4 : x7 with
        | true =>
          rw [br_true hb4] at h
          cbv
          obtain rfl := Option.some.inj h
          exact ARet.mk trivial hX.symm
        | false =>
          rw [br_false hb4] at h
          cbv
          obtain rfl := Option.some.inj h
          exact ARet.mk trivial hX.symm
      | false =>
        rw [br_false hb3] at h
        cbv
        obtain rfl := Option.some.inj h
        exact ARet.mk trivial hX.symm
    | false =>
      rw [br_false hb2] at h
      cbv
      cases hb5 : x3 with
      | true =>
        rw [br_true hb5] at h
        cbv
        obtain rfl := Option.some.inj h
        exact ARet.mk trivial hX.symm
      | false =>
        rw [br_false hb5] at h
        cbv
        obtain ⟨x8, hx8, h⟩ := of_cl h
        obtain ⟨x8_Belt, x8_Chutes, x8_Inlets, x8_Plan, x8_Now⟩ := x8
        try dsimp only at h
        refine ACall.mk _ _ rfl (hF _ _ _ (c_L_toCentre hg ht hx8)) (.inl rfl) (Nat.le_of_ble_eq_true rfl) ?_
        cbv
        refine AStep.mk ⟨⟨(lend_Item ht (dlen_Item hg ht _)), ⟨(lend_Chute ht (dlen_Chute hg ht _)), ⟨(lend_Inlet ht (dlen_Inlet hg ht _)), (lend_I64 ht (dlen_I64 hg ht _))⟩⟩⟩, ⟨(lend_Item ht (dlen_Item hg ht _)), ⟨(lend_Chute ht (dlen_Chute hg ht _)), ⟨(lend_Inlet ht (dlen_Inlet hg ht _)), (lend_I64 ht (dlen_I64 hg ht _))⟩⟩⟩⟩ ?_
        cbv
        obtain ⟨x9, hx9, h⟩ := of_cl h
        try dsimp only at h
        refine ACall.mk _ _ (by rw [show rd (d_Item x4_Belt) 0 (dlen (d_Item x4_Belt)) = r_Item x4_Belt from rdw_Item hg ht (dlen_Item hg ht _), show rd (d_Chute x4_Chutes) 0 (dlen (d_Chute x4_Chutes)) = r_Chute x4_Chutes from rdw_Chute hg ht (dlen_Chute hg ht _), show rd (d_Inlet x4_Inlets) 0 (dlen (d_Inlet x4_Inlets)) = r_Inlet x4_Inlets from rdw_Inlet hg ht (dlen_Inlet hg ht _), show rd (d_I64 x4_Plan) 0 (dlen (d_I64 x4_Plan)) = r_I64 x4_Plan from rdw_I64 hg ht (dlen_I64 hg ht _), show rd (d_Item x8_Belt) 0 (dlen (d_Item x8_Belt)) = r_Item x8_Belt from rdw_Item hg ht (dlen_Item hg ht _), show rd (d_Chute x8_Chutes) 0 (dlen (d_Chute x8_Chutes)) = r_Chute x8_Chutes from rdw_Chute hg ht (dlen_Chute hg ht _), show rd (d_Inlet x8_Inlets) 0 (dlen (d_Inlet x8_Inlets)) = r_Inlet x8_Inlets from rdw_Inlet hg ht (dlen_Inlet hg ht _), show rd (d_I64 x8_Plan) 0 (dlen (d_I64 x8_Plan)) = r_I64 x8_Plan from rdw_I64 hg ht (dlen_I64 hg ht _)]; try rfl) (hF _ _ _ (c_L_eqCentre hg ht hx9)) (.inr rfl) (Nat.le_of_ble_eq_true rfl) ?_
        cbv
        cases hb6 : x9 with
        | true =>
          rw [br_true hb6] at h
          cbv
          obtain rfl := Option.some.inj h
          exact ARet.mk trivial hX.symm
        | false =>
          rw [br_false hb6] at h
          cbv
          obtain rfl := Option.some.inj h
          exact ARet.mk trivial hX.symm
end Go.Vs
