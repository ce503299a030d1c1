/- Part of the proofs of this seat's laws: Lag. No condition. -/
import Derived.Test.YtieeagobedjogaaTy
import Derived.Test.YtieeagobedjogaaTIRall
import Derived.Test.YtieeagobedjogaaLad
import Derived.Test.YtieeagobedjogaaLaa
set_option linter.unusedVariables false
set_option linter.unusedSimpArgs false
set_option linter.unusedSectionVars false
namespace Go.Vs
set_option maxRecDepth 100000
def ir40 : J :=
  .seq (.reg none [⟨(some 1), none, .box (.t 0)⟩,
     ⟨(some 2), none, .alloc [.n 2, .n 3, .n 2, .n 1, .r (.v (.int .i64 0))]⟩] [1, 2])
  (.seq (.reg none [⟨(some 3), none, .ld true 5 (.t 1)⟩,
     ⟨(some 4), none, .call 36 true [(.t 3), (.k (V.i 1))]⟩,
     ⟨none, none, .st 5 (.t 2) (.t 4)⟩] [2])
  (.ret))
def rv40 : List RV := [.c 2 true 5]
open Go.Proofs Go.IntWalk
set_option linter.unusedVariables false
set_option maxRecDepth 100000
set_option maxHeartbeats 4000000
def I_TickCentre (g : G) (t : TE) (a0 : Centre) : Option Centre :=
  cl (I_RunCentre g t a0 1) fun x1 =>
  some x1
theorem fit40 : codeFit Try.prog Try.f40.ntmps (Try.f40.body.getD .skip) ir40 = true := by kernel_rfl
theorem c_I_TickCentre {g : G} {t : TE} {a0 : Centre} {r : Centre} (hg : g = G.real) (ht : t = TE.real) (h : I_TickCentre g t a0 = some r) : Fn Try.prog 40 [.g (Centre.rs t a0)] (.g (Centre.ds t r)) := by
  obtain ⟨X, hX⟩ := hide (.g (Centre.ds t r) : X)
  rw [← hX]
  refine fn_of (rvs := rv40) (j := ir40) Try.func40 rfl fit40 (Nat.le_of_ble_eq_true rfl) (by kernel_rfl) prog_mixed ?_
  intro g2 F hg2 hF
  obtain rfl : g2 = g := hg2.unique.trans hg.symm
  clear hg2
  obtain ⟨wrap, lt, le, eq, quo, rem, band, bor, bxor, shl, shr, nat, int, add, sub, mul, cat, seq, slt, sub3, byte, llen, nadd, nsub, dlen, dapp, dset, drep, rd, rda, up, rsub, dsub, all, sle, slen, hasI, putI, hasS, putS, imin, imax, fzc⟩ := g2
  obtain ⟨r_Item, d_Item, r_Chute, d_Chute, r_Inlet, d_Inlet, r_I64, d_I64, r_U8, d_U8, d_InletF⟩ := t
  obtain ⟨a0_Belt, a0_Chutes, a0_Inlets, a0_Plan, a0_Now⟩ := a0
  unfold I_TickCentre at h
  try dsimp only at h
  cbv
  obtain ⟨x1, hx1, h⟩ := of_cl h
  obtain ⟨x1_Belt, x1_Chutes, x1_Inlets, x1_Plan, x1_Now⟩ := x1
  try dsimp only at h
  refine ACall.mk _ _ rfl (hF _ _ _ (c_I_RunCentre hg ht hx1)) (.inl rfl) (Nat.le_of_ble_eq_true rfl) ?_
  cbv
  obtain rfl := Option.some.inj h
  exact ARet.mk ⟨⟨rfl, (dlen_Item hg ht _)⟩, ⟨⟨rfl, (dlen_Chute hg ht _)⟩, ⟨⟨rfl, (dlen_Inlet hg ht _)⟩, ⟨rfl, (dlen_I64 hg ht _)⟩⟩⟩⟩ hX.symm
end Go.Vs
namespace Go.Vs
set_option maxRecDepth 100000
def ir41 : J :=
  .seq (.reg none [⟨(some 1), none, .box (.t 0)⟩,
     ⟨(some 2), none, .alloc [.n 2, .n 3, .n 2, .n 1, .r (.v (.int .i64 0))]⟩] [1, 2])
  (.seq (.reg none [⟨(some 3), none, .ld true 5 (.t 1)⟩,
     ⟨(some 4), none, .call 72 true [(.t 3), (.k (V.i 1))]⟩,
     ⟨none, none, .st 5 (.t 2) (.t 4)⟩] [2])
  (.ret))
def rv41 : List RV := [.c 2 true 5]
open Go.Proofs Go.IntWalk
set_option linter.unusedVariables false
set_option maxRecDepth 100000
set_option maxHeartbeats 4000000
def S_TickCentre (g : G) (t : TE) (a0 : Centre) : Option Centre :=
  cl (S_RunCentre g t a0 1) fun x1 =>
  some x1
theorem fit41 : codeFit Try.prog Try.f41.ntmps (Try.f41.body.getD .skip) ir41 = true := by kernel_rfl
theorem c_S_TickCentre {g : G} {t : TE} {a0 : Centre} {r : Centre} (hg : g = G.real) (ht : t = TE.real) (h : S_TickCentre g t a0 = some r) : Fn Try.prog 41 [.g (Centre.rs t a0)] (.g (Centre.ds t r)) := by
  obtain ⟨X, hX⟩ := hide (.g (Centre.ds t r) : X)
  rw [← hX]
  refine fn_of (rvs := rv41) (j := ir41) Try.func41 rfl fit41 (Nat.le_of_ble_eq_true rfl) (by kernel_rfl) prog_mixed ?_
  intro g2 F hg2 hF
  obtain rfl : g2 = g := hg2.unique.trans hg.symm
  clear hg2
  obtain ⟨wrap, lt, le, eq, quo, rem, band, bor, bxor, shl, shr, nat, int, add, sub, mul, cat, seq, slt, sub3, byte, llen, nadd, nsub, dlen, dapp, dset, drep, rd, rda, up, rsub, dsub, all, sle, slen, hasI, putI, hasS, putS, imin, imax, fzc⟩ := g2
  obtain ⟨r_Item, d_Item, r_Chute, d_Chute, r_Inlet, d_Inlet, r_I64, d_I64, r_U8, d_U8, d_InletF⟩ := t
  obtain ⟨a0_Belt, a0_Chutes, a0_Inlets, a0_Plan, a0_Now⟩ := a0
  unfold S_TickCentre at h
  try dsimp only at h
  cbv
  obtain ⟨x1, hx1, h⟩ := of_cl h
  obtain ⟨x1_Belt, x1_Chutes, x1_Inlets, x1_Plan, x1_Now⟩ := x1
  try dsimp only at h
  refine ACall.mk _ _ rfl (hF _ _ _ (c_S_RunCentre hg ht hx1)) (.inl rfl) (Nat.le_of_ble_eq_true rfl) ?_
  cbv
  obtain rfl := Option.some.inj h
  exact ARet.mk ⟨⟨rfl, (dlen_Item hg ht _)⟩, ⟨⟨rfl, (dlen_Chute hg ht _)⟩, ⟨⟨rfl, (dlen_Inlet hg ht _)⟩, ⟨rfl, (dlen_I64 hg ht _)⟩⟩⟩⟩ hX.symm
end Go.Vs
namespace Go.Vs
set_option maxRecDepth 100000
def ir21 : J :=
  .seq (.reg none [⟨(some 1), none, .box (.t 0)⟩,
     ⟨(some 2), none, .mv (.k (V.b false))⟩] [1])
  (.seq (.reg none [⟨(some 3), none, .mv (.k (V.i 1048576))⟩] [1, 3])
  (.seq (.reg none [⟨(some 11), none, .ld true 5 (.t 1)⟩,
     ⟨(some 12), none, .mv (.t 3)⟩,
     ⟨(some 13), none, .call 24 true [(.t 11), (.t 12)]⟩,
     ⟨(some 3), none, .mv (.t 13)⟩] [1, 3])
  (.seq (.seq (.reg none [⟨(some 14), none, .mv (.t 3)⟩,
      ⟨(some 15), none, .bin .lss .i (.t 14) (.k (V.i 0))⟩] [1, 15])
   (.cond (.t 15)
    (.seq (.reg none [⟨(some 2), none, .mv (.k (V.b true))⟩] [2])
     (.ret))
    (.skip)))
  (.seq (.reg none [⟨(some 16), none, .ld true 5 (.t 1)⟩,
     ⟨(some 17), none, .call 26 false [(.t 16)]⟩,
     ⟨(some 18), none, .call 41 false [(.t 17)]⟩,
     ⟨(some 4), none, .alloc [.n 2, .n 3, .n 2, .n 1, .r (.v (.int .i64 0))]⟩,
     ⟨none, none, .st 5 (.t 4) (.t 18)⟩] [1, 4])
  (.seq (.reg none [⟨(some 19), none, .ld true 5 (.t 1)⟩,
     ⟨(some 20), none, .call 26 true [(.t 19)]⟩,
     ⟨(some 5), none, .alloc [.n 2, .n 3, .n 2, .n 1, .r (.v (.int .i64 0))]⟩,
     ⟨none, none, .st 5 (.t 5) (.t 20)⟩] [1, 4, 5])
  (.seq (.reg none [⟨(some 21), none, .ld true 5 (.t 5)⟩,
     ⟨(some 22), none, .call 40 true [(.t 21)]⟩,
     ⟨(some 6), none, .alloc [.n 2, .n 3, .n 2, .n 1, .r (.v (.int .i64 0))]⟩,
     ⟨none, none, .st 5 (.t 6) (.t 22)⟩] [1, 4, 5, 6])
  (.seq (.seq (.reg none [⟨(some 23), none, .ld true 5 (.t 6)⟩,
      ⟨(some 24), none, .ld true 5 (.t 4)⟩,
      ⟨(some 25), none, .call 28 true [(.t 23), (.t 24)]⟩,
      ⟨(some 26), none, .not (.t 25)⟩] [1, 4, 5, 6, 26])
   (.cond (.t 26)
    (.seq (.reg none [⟨(some 2), none, .mv (.k (V.b false))⟩] [2])
     (.ret))
    (.skip)))
  (.seq (.seq (.reg (some [[], [], [1], [0, 1, 2], [0, 1, 2, 3]]) [⟨(some 27), none, .ld true 5 (.t 5)⟩,
      ⟨(some 28), none, .ld true 5 (.t 1)⟩,
      ⟨(some 29), none, .call 26 false [(.t 28)]⟩,
      ⟨(some 30), none, .call 28 true [(.t 27), (.t 29)]⟩,
      ⟨(some 31), none, .not (.t 30)⟩] [1, 4, 5, 6, 31])
   (.cond (.t 31)
    (.seq (.reg none [⟨(some 2), none, .mv (.k (V.b false))⟩] [2])
     (.ret))
    (.skip)))
  (.seq (.reg none [⟨(some 7), none, .mv (.k (V.i 1))⟩] [1, 4, 5, 6, 7])
  (.seq (.reg none [⟨(some 32), none, .ld true 5 (.t 5)⟩,
     ⟨(some 33), none, .mv (.t 7)⟩,
     ⟨(some 34), none, .callm 49 (.t 32) [(.t 33)]⟩,
     ⟨(some 7), none, .mv (.t 34)⟩] [1, 4, 6, 7])
  (.seq (.seq (.reg none [⟨(some 35), none, .mv (.t 7)⟩,
      ⟨(some 36), none, .bin .lss .i (.t 35) (.k (V.i 0))⟩,
      ⟨(some 37), none, .mv (.t 36)⟩,
      ⟨(some 38), (some (37, false)), .ld true 5 (.t 6)⟩,
      ⟨(some 39), (some (37, false)), .ld true 5 (.t 4)⟩,
      ⟨(some 40), (some (37, false)), .call 28 true [(.t 38), (.t 39)]⟩,
      ⟨(some 41), (some (37, false)), .not (.t 40)⟩,
      ⟨(some 42), none, .pick (.t 37) (.k (V.b true)) (.t 41)⟩] [1, 4, 6, 42])
   (.cond (.t 42)
    (.seq (.reg none [⟨(some 2), none, .mv (.k (V.b false))⟩] [2])
     (.ret))
    (.skip)))
  (.seq (.reg none [⟨(some 8), none, .mv (.k (V.i 1))⟩] [1, 4, 6, 8])
  (.seq (.reg none [⟨(some 43), none, .ld true 5 (.t 6)⟩,
     ⟨(some 44), none, .mv (.t 8)⟩,
     ⟨(some 45), none, .callm 49 (.t 43) [(.t 44)]⟩,
     ⟨(some 8), none, .mv (.t 45)⟩] [1, 4, 6, 8])
  (.seq (.reg none [⟨(some 9), none, .mv (.k (V.i 1))⟩] [1, 4, 6, 8, 9])
  (.seq (.reg none [⟨(some 46), none, .ld true 5 (.t 6)⟩,
     ⟨(some 47), none, .mv (.t 9)⟩,
     ⟨(some 48), none, .call 50 true [(.t 46), (.t 47)]⟩,
     ⟨(some 9), none, .mv (.t 48)⟩] [1, 4, 6, 8, 9])
  (.seq (.seq (.reg none [⟨(some 49), none, .mv (.t 9)⟩,
      ⟨(some 50), none, .bin .lss .i (.t 49) (.k (V.i 0))⟩] [1, 4, 6, 8, 9, 50])
   (.cond (.t 50)
    (.seq (.reg none [⟨(some 2), none, .mv (.k (V.b false))⟩] [2])
     (.ret))
    (.skip)))
  (.seq (.seq (.reg none [⟨(some 51), none, .mv (.t 9)⟩,
      ⟨(some 52), none, .mv (.t 8)⟩,
      ⟨(some 53), none, .bin .neq .i (.t 51) (.t 52)⟩] [1, 4, 6, 8, 53])
   (.cond (.t 53)
    (.seq (.reg none [⟨(some 2), none, .mv (.k (V.b false))⟩] [2])
     (.ret))
    (.skip)))
  (.seq (.reg none [⟨(some 54), none, .ld true 5 (.t 1)⟩,
     ⟨(some 55), none, .call 26 false [(.t 54)]⟩,
     ⟨(some 56), none, .call 40 false [(.t 55)]⟩,
     ⟨(some 10), none, .alloc [.n 2, .n 3, .n 2, .n 1, .r (.v (.int .i64 0))]⟩,
     ⟨none, none, .st 5 (.t 10) (.t 56)⟩] [4, 6, 8, 10])
  (.seq (.seq (.reg none [⟨(some 57), none, .ld true 5 (.t 10)⟩,
      ⟨(some 58), none, .ld true 5 (.t 4)⟩,
      ⟨(some 59), none, .call 28 true [(.t 57), (.t 58)]⟩,
      ⟨(some 60), none, .not (.t 59)⟩] [6, 8, 60])
   (.cond (.t 60)
    (.seq (.reg none [⟨(some 2), none, .mv (.k (V.b false))⟩] [2])
     (.ret))
    (.skip)))
  (.seq (.reg none [⟨(some 9), none, .mv (.k (V.i 1))⟩] [6, 8, 9])
  (.seq (.reg none [⟨(some 61), none, .ld true 5 (.t 6)⟩,
     ⟨(some 62), none, .mv (.t 9)⟩,
     ⟨(some 63), none, .call 50 true [(.t 61), (.t 62)]⟩,
     ⟨(some 9), none, .mv (.t 63)⟩] [8, 9])
  (.seq (.seq (.reg none [⟨(some 64), none, .mv (.t 9)⟩,
      ⟨(some 65), none, .bin .lss .i (.t 64) (.k (V.i 0))⟩] [8, 9, 65])
   (.cond (.t 65)
    (.seq (.reg none [⟨(some 2), none, .mv (.k (V.b false))⟩] [2])
     (.ret))
    (.skip)))
  (.seq (.seq (.reg none [⟨(some 66), none, .mv (.t 9)⟩,
      ⟨(some 67), none, .mv (.t 8)⟩,
      ⟨(some 68), none, .bin .neq .i (.t 66) (.t 67)⟩] [68])
   (.cond (.t 68)
    (.seq (.reg none [⟨(some 2), none, .mv (.k (V.b false))⟩] [2])
     (.ret))
    (.skip)))
  (.seq (.reg none [⟨(some 2), none, .mv (.k (V.b true))⟩] [2])
  (.ret)))))))))))))))))))))))))
def rv21 : List RV := [.t 2]
open Go.Proofs Go.IntWalk
set_option linter.unusedVariables false
set_option maxRecDepth 100000
set_option maxHeartbeats 4000000
def L_FnExactTickCentre (g : G) (t : TE) (a0 : Centre) : Option Bool :=
  lP (L_szCentre g t a0 1048576) fun x1 =>
  br (g.lt x1 0)
  (
   some true)
  (
   cl (L_toCentre g t a0) fun x2 =>
   cl (S_TickCentre g t x2) fun x3 =>
   cl (L_toCentre g t a0) fun x4 =>
   cl (I_TickCentre g t x4) fun x5 =>
   cl (L_eqCentre g t x5 x3) fun x6 =>
   br x6
   (
    cl (L_toCentre g t a0) fun x7 =>
    cl (L_eqCentre g t x4 x7) fun x8 =>
    br x8
    (
     cl (L_markCentre g t x4 1) fun x9 =>
     gd ((x9.2.Belt.length = x4.Belt.length)) <|
     gd ((x9.2.Chutes.length = x4.Chutes.length)) <|
     gd ((x9.2.Inlets.length = x4.Inlets.length)) <|
     gd ((x9.2.Plan.length = x4.Plan.length)) <|
     br (g.lt x9.1 0)
     (
      some false)
     (
      cl (L_eqCentre g t x5 x3) fun x10 =>
      br x10
      (
       cl (L_markCentre g t x5 1) fun x11 =>
       gd ((x11.2.Belt.length = x5.Belt.length)) <|
       gd ((x11.2.Chutes.length = x5.Chutes.length)) <|
       gd ((x11.2.Inlets.length = x5.Inlets.length)) <|
       gd ((x11.2.Plan.length = x5.Plan.length)) <|
       lP (L_heldCentre g t (Centre.mk x11.2.Belt x11.2.Chutes x11.2.Inlets x11.2.Plan x5.Now) 1) fun x12 =>
       br (g.lt x12 0)
       (
        some false)
       (
        br (g.eq x12 x11.1)
        (
         cl (L_toCentre g t a0) fun x13 =>
         cl (I_TickCentre g t x13) fun x14 =>
         cl (L_eqCentre g t x14 x3) fun x15 =>
         br x15
         (
          lP (L_heldCentre g t (Centre.mk x11.2.Belt x11.2.Chutes x11.2.Inlets x11.2.Plan x5.Now) 1) fun x16 =>
          br (g.lt x16 0)
          (
           some false)
          (
           br (g.eq x16 x11.1)
           (
            some true)
           (
            some false)))
         (
          some false))
        (
         some false)))
      (
       some false)))
    (
     some false))
   (
    some false))
theorem fit21 : codeFit Try.prog Try.f21.ntmps (Try.f21.body.getD .skip) ir21 = true := by kernel_rfl
theorem c_L_FnExactTickCentre {g : G} {t : TE} {a0 : Centre} {r : Bool} (hg : g = G.real) (ht : t = TE.real) (h : L_FnExactTickCentre g t a0 = some r) : Fn Try.prog 21 [.g (Centre.rs t a0)] (.c (.r (.v (.bool r)))) := by
  obtain ⟨X, hX⟩ := hide (.c (.r (.v (.bool r))) : X)
  rw [← hX]
  refine fn_of (rvs := rv21) (j := ir21) Try.func21 rfl fit21 (Nat.le_of_ble_eq_true rfl) (by kernel_rfl) prog_mixed ?_
  intro g2 F hg2 hF
  obtain rfl : g2 = g := hg2.unique.trans hg.symm
  clear hg2
  obtain ⟨wrap, lt, le, eq, quo, rem, band, bor, bxor, shl, shr, nat, int, add, sub, mul, cat, seq, slt, sub3, byte, llen, nadd, nsub, dlen, dapp, dset, drep, rd, rda, up, rsub, dsub, all, sle, slen, hasI, putI, hasS, putS, imin, imax, fzc⟩ := g2
  obtain ⟨r_Item, d_Item, r_Chute, d_Chute, r_Inlet, d_Inlet, r_I64, d_I64, r_U8, d_U8, d_InletF⟩ := t
  obtain ⟨a0_Belt, a0_Chutes, a0_Inlets, a0_Plan, a0_Now⟩ := a0
  have hfr_Item : ∀ l, freshDss (d_Item l) = true := fresh_Item ht
  have hrda_Item : ∀ l, rda (d_Item l) = r_Item l := rda_Item hg ht
  have hfr_Chute : ∀ l, freshDss (d_Chute l) = true := fresh_Chute ht
  have hrda_Chute : ∀ l, rda (d_Chute l) = r_Chute l := rda_Chute hg ht
  have hfr_Inlet : ∀ l, freshDss (d_Inlet l) = true := fresh_Inlet ht
  have hrda_Inlet : ∀ l, rda (d_Inlet l) = r_Inlet l := rda_Inlet hg ht
  have hfr_I64 : ∀ l, freshDss (d_I64 l) = true := fresh_I64 ht
  have hrda_I64 : ∀ l, rda (d_I64 l) = r_I64 l := rda_I64 hg ht
  unfold L_FnExactTickCentre at h
  try dsimp only at h
  cbv
  obtain ⟨x1, hx1, h⟩ := of_lP h
  try dsimp only at h
  refine ACall.mk _ _ rfl (hF _ _ _ (c_L_szCentre hg ht hx1)) (.inl rfl) (Nat.le_of_ble_eq_true rfl) ?_
  cbv
  cases hb1 : (lt x1 0) with
  | true =>
    rw [br_true hb1] at h
    cbv
    obtain rfl := Option.some.inj h
    exact ARet.mk trivial hX.symm
  | false =>
    rw [br_false hb1] at h
    cbv
    obtain ⟨x2, hx2, h⟩ := of_cl h
    obtain ⟨x2_Belt, x2_Chutes, x2_Inlets, x2_Plan, x2_Now⟩ := x2
    try dsimp only at h
    refine ACallR.mk _ _ (.g [.r (.s 2 (r_Item x2_Belt)), .r (.s 3 (r_Chute x2_Chutes)), .r (.s 2 (r_Inlet x2_Inlets)), .r (.s 1 (r_I64 x2_Plan)), .r (.v (.int .i64 x2_Now))]) rfl (hF _ _ _ (c_L_toCentre hg ht hx2)) (.inl rfl) (Nat.le_of_ble_eq_true rfl) (by cbv; (try simp only [hrda_Chute, hrda_I64, hrda_Inlet, hrda_Item])) ?_
    cbv
    obtain ⟨x3, hx3, h⟩ := of_cl h
    obtain ⟨x3_Belt, x3_Chutes, x3_Inlets, x3_Plan, x3_Now⟩ := x3
    try dsimp only at h
    refine ACallR.mk _ _ (.g [.r (.s 2 (r_Item x3_Belt)), .r (.s 3 (r_Chute x3_Chutes)), .r (.s 2 (r_Inlet x3_Inlets)), .r (.s 1 (r_I64 x3_Plan)), .r (.v (.int .i64 x3_Now))]) rfl (hF _ _ _ (c_S_TickCentre hg ht hx3)) (.inl rfl) (Nat.le_of_ble_eq_true rfl) (by cbv; (try simp only [hrda_Chute, hrda_I64, hrda_Inlet, hrda_Item])) ?_
    cbv
    obtain ⟨x4, hx4, h⟩ := of_cl h
    obtain ⟨x4_Belt, x4_Chutes, x4_Inlets, x4_Plan, x4_Now⟩ := x4
    try dsimp only at h
    refine ACall.mk _ _ rfl (hF _ _ _ (c_L_toCentre hg ht hx4)) (.inl rfl) (Nat.le_of_ble_eq_true rfl) ?_
    cbv
    refine AStep.mk ⟨(lend_Item ht (dlen_Item hg ht _)), ⟨(lend_Chute ht (dlen_Chute hg ht _)), ⟨(lend_Inlet ht (dlen_Inlet hg ht _)), (lend_I64 ht (dlen_I64 hg ht _))⟩⟩⟩ ?_
    cbv
    obtain ⟨x5, hx5, h⟩ := of_cl h
    obtain ⟨x5_Belt, x5_Chutes, x5_Inlets, x5_Plan, x5_Now⟩ := x5
    try dsimp only at h
    refine ACall.mk _ _ (by rw [show rd (d_Item x4_Belt) 0 (dlen (d_Item x4_Belt)) = r_Item x4_Belt from rdw_Item hg ht (dlen_Item hg ht _), show rd (d_Chute x4_Chutes) 0 (dlen (d_Chute x4_Chutes)) = r_Chute x4_Chutes from rdw_Chute hg ht (dlen_Chute hg ht _), show rd (d_Inlet x4_Inlets) 0 (dlen (d_Inlet x4_Inlets)) = r_Inlet x4_Inlets from rdw_Inlet hg ht (dlen_Inlet hg ht _), show rd (d_I64 x4_Plan) 0 (dlen (d_I64 x4_Plan)) = r_I64 x4_Plan from rdw_I64 hg ht (dlen_I64 hg ht _)]; try rfl) (hF _ _ _ (c_I_TickCentre hg ht hx5)) (.inr (by simp only [Go.Vs.X.fresh, Go.Vs.X.freshs, freshD, freshDs, Bool.and_self, Centre.ds, hfr_Chute, hfr_I64, hfr_Inlet, hfr_Item])) (Nat.le_of_ble_eq_true rfl) ?_
    cbv
    refine AStep.mk ⟨(lend_Item ht (dlen_Item hg ht _)), ⟨(lend_Chute ht (dlen_Chute hg ht _)), ⟨(lend_Inlet ht (dlen_Inlet hg ht _)), (lend_I64 ht (dlen_I64 hg ht _))⟩⟩⟩ ?_
    cbv
    obtain ⟨x6, hx6, h⟩ := of_cl h
    try dsimp only at h
    refine ACall.mk _ _ (by rw [show rd (d_Item x5_Belt) 0 (dlen (d_Item x5_Belt)) = r_Item x5_Belt from rdw_Item hg ht (dlen_Item hg ht _), show rd (d_Chute x5_Chutes) 0 (dlen (d_Chute x5_Chutes)) = r_Chute x5_Chutes from rdw_Chute hg ht (dlen_Chute hg ht _), show rd (d_Inlet x5_Inlets) 0 (dlen (d_Inlet x5_Inlets)) = r_Inlet x5_Inlets from rdw_Inlet hg ht (dlen_Inlet hg ht _), show rd (d_I64 x5_Plan) 0 (dlen (d_I64 x5_Plan)) = r_I64 x5_Plan from rdw_I64 hg ht (dlen_I64 hg ht _)]; try rfl) (hF _ _ _ (c_L_eqCentre hg ht hx6)) (.inr rfl) (Nat.le_of_ble_eq_true rfl) ?_
    cbv
    cases hb2 : x6 with
    | true =>
      rw [br_true hb2] at h
      cbv
      obtain ⟨x7, hx7, h⟩ := of_cl h
      obtain ⟨x7_Belt, x7_Chutes, x7_Inlets, x7_Plan, x7_Now⟩ := x7
      try dsimp only at h
      refine ACallR.mk _ _ (.g [.r (.s 2 (r_Item x7_Belt)), .r (.s 3 (r_Chute x7_Chutes)), .r (.s 2 (r_Inlet x7_Inlets)), .r (.s 1 (r_I64 x7_Plan)), .r (.v (.int .i64 x7_Now))]) rfl (hF _ _ _ (c_L_toCentre hg ht hx7)) (.inl rfl) (Nat.le_of_ble_eq_true rfl) (by cbv; (try simp only [hrda_Chute, hrda_I64, hrda_Inlet, hrda_Item])) ?_
      cbv
      refine AStep.mk ⟨(lend_Item ht (dlen_Item hg ht _)), ⟨(lend_Chute ht (dlen_Chute hg ht _)), ⟨(lend_Inlet ht (dlen_Inlet hg ht _)), (lend_I64 ht (dlen_I64 hg ht _))⟩⟩⟩ ?_
      cbv
      obtain ⟨x8, hx8, h⟩ := of_cl h
      try dsimp only at h
      refine ACall.mk _ _ (by rw [show rd (d_Item x4_Belt) 0 (dlen (d_Item x4_Belt)) = r_Item x4_Belt from rdw_Item hg ht (dlen_Item hg ht _), show rd (d_Chute x4_Chutes) 0 (dlen (d_Chute x4_Chutes)) = r_Chute x4_Chutes from rdw_Chute hg ht (dlen_Chute hg ht _), show rd (d_Inlet x4_Inlets) 0 (dlen (d_Inlet x4_Inlets)) = r_Inlet x4_Inlets from rdw_Inlet hg ht (dlen_Inlet hg ht _), show rd (d_I64 x4_Plan) 0 (dlen (d_I64 x4_Plan)) = r_I64 x4_Plan from rdw_I64 hg ht (dlen_I64 hg ht _)]; try rfl) (hF _ _ _ (c_L_eqCentre hg ht hx8)) (.inr rfl) (Nat.le_of_ble_eq_true rfl) ?_
      cbv
      cases hb3 : x8 with
      | true =>
        rw [br_true hb3] at h
        cbv
        refine AStep.mk ⟨⟨rfl, (dlen_Item hg ht _)⟩, ⟨⟨rfl, (dlen_Chute hg ht _)⟩, ⟨⟨rfl, (dlen_Inlet hg ht _)⟩, ⟨rfl, (dlen_I64 hg ht _)⟩⟩⟩⟩ ?_
        cbv
        obtain ⟨x9, hx9, h⟩ := of_cl h
        obtain ⟨x9_1, ⟨x9_2_Belt, x9_2_Chutes, x9_2_Inlets, x9_2_Plan, x9_2_Now⟩⟩ := x9
        try dsimp only at h
        refine ACallM.mk _ _ _ _ rfl rfl (hF _ _ _ (c_L_markCentre hg ht hx9)) rfl (Nat.le_of_ble_eq_true rfl) (Nat.le_of_ble_eq_true rfl) ?_
        cbv
        obtain ⟨hc1, h⟩ := of_gd h
        obtain ⟨hc2, h⟩ := of_gd h
        obtain ⟨hc3, h⟩ := of_gd h
        obtain ⟨hc4, h⟩ := of_gd h
        cases hb4 : (lt x9_1 0) with
        | true =>
          rw [br_true hb4] at h
          cbv
          try (rw [hb4]; cbv)
          try (rw [hb4]; cbv)
          try (rw [hb4]; cbv)
          try (rw [hb4]; cbv)
          obtain rfl := Option.some.inj h
          exact ARet.mk trivial hX.symm
        | false =>
          rw [br_false hb4] at h
          cbv
          try (rw [hb4]; cbv)
          try (rw [hb4]; cbv)
          refine AStep.mk ⟨(lend_Item ht (dlen_Item hg ht _)), ⟨(lend_Chute ht (dlen_Chute hg ht _)), ⟨(lend_Inlet ht (dlen_Inlet hg ht _)), (lend_I64 ht (dlen_I64 hg ht _))⟩⟩⟩ ?_
          cbv
          obtain ⟨x10, hx10, h⟩ := of_cl h
          try dsimp only at h
          refine ACall.mk _ _ (by rw [show rd (d_Item x5_Belt) 0 (dlen (d_Item x5_Belt)) = r_Item x5_Belt from rdw_Item hg ht (dlen_Item hg ht _), show rd (d_Chute x5_Chutes) 0 (dlen (d_Chute x5_Chutes)) = r_Chute x5_Chutes from rdw_Chute hg ht (dlen_Chute hg ht _), show rd (d_Inlet x5_Inlets) 0 (dlen (d_Inlet x5_Inlets)) = r_Inlet x5_Inlets from rdw_Inlet hg ht (dlen_Inlet hg ht _), show rd (d_I64 x5_Plan) 0 (dlen (d_I64 x5_Plan)) = r_I64 x5_Plan from rdw_I64 hg ht (dlen_I64 hg ht _)]; try rfl) (hF _ _ _ (c_L_eqCentre hg ht hx10)) (.inr rfl) (Nat.le_of_ble_eq_true rfl) ?_
          cbv
          try (rw [hb4]; cbv)
          try (rw [hb4]; cbv)
          cases hb5 : x10 with
          | true =>
            rw [br_true hb5] at h
            cbv
            refine AStep.mk ⟨⟨rfl, (dlen_Item hg ht _)⟩, ⟨⟨rfl, (dlen_Chute hg ht _)⟩, ⟨⟨rfl, (dlen_Inlet hg ht _)⟩, ⟨rfl, (dlen_I64 hg ht _)⟩⟩⟩⟩ ?_
            cbv
            obtain ⟨x11, hx11, h⟩ := of_cl h
            obtain ⟨x11_1, ⟨x11_2_Belt, x11_2_Chutes, x11_2_Inlets, x11_2_Plan, x11_2_Now⟩⟩ := x11
            try dsimp only at h
            refine ACallM.mk _ _ _ _ rfl rfl (hF _ _ _ (c_L_markCentre hg ht hx11)) rfl (Nat.le_of_ble_eq_true rfl) (Nat.le_of_ble_eq_true rfl) ?_
            cbv
            obtain ⟨hc5, h⟩ := of_gd h
            obtain ⟨hc6, h⟩ := of_gd h
            obtain ⟨hc7, h⟩ := of_gd h
            obtain ⟨hc8, h⟩ := of_gd h
            refine AStep.mk ⟨(lend_Item ht (lenp_Item ht (dlen_Item hg ht _) hc5)), ⟨(lend_Chute ht (lenp_Chute ht (dlen_Chute hg ht _) hc6)), ⟨(lend_Inlet ht (lenp_Inlet ht (dlen_Inlet hg ht _) hc7)), (lend_I64 ht (lenp_I64 ht (dlen_I64 hg ht _) hc8))⟩⟩⟩ ?_
            cbv
            obtain ⟨x12, hx12, h⟩ := of_lP h
            try dsimp only at h
            refine ACall.mk _ _ (by rw [show rd (d_Item x11_2_Belt) 0 (dlen (d_Item x5_Belt)) = r_Item x11_2_Belt from rdw_Item hg ht (lenp_Item ht (dlen_Item hg ht _) hc5), show rd (d_Chute x11_2_Chutes) 0 (dlen (d_Chute x5_Chutes)) = r_Chute x11_2_Chutes from rdw_Chute hg ht (lenp_Chute ht (dlen_Chute hg ht _) hc6), show rd (d_Inlet x11_2_Inlets) 0 (dlen (d_Inlet x5_Inlets)) = r_Inlet x11_2_Inlets from rdw_Inlet hg ht (lenp_Inlet ht (dlen_Inlet hg ht _) hc7), show rd (d_I64 x11_2_Plan) 0 (dlen (d_I64 x5_Plan)) = r_I64 x11_2_Plan from rdw_I64 hg ht (lenp_I64 ht (dlen_I64 hg ht _) hc8)]; try rfl) (hF _ _ _ (c_L_heldCentre hg ht hx12)) (.inr rfl) (Nat.le_of_ble_eq_true rfl) ?_
            cbv
            cases hb6 : (lt x12 0) with
            | true =>
              rw [br_true hb6] at h
              cbv
              obtain rfl := Option.some.inj h
              exact ARet.mk trivial hX.symm
            | false =>
              rw [br_false hb6] at h
              cbv
              cases hb7 : (eq x12 x11_1) with
              | true =>
                rw [br_true hb7] at h
                cbv
                obtain ⟨x13, hx13, h⟩ := of_cl h
                obtain ⟨x13_Belt, x13_Chutes, x13_Inlets, x13_Plan, x13_Now⟩ := x13
                try dsimp only at h
                refine ACallR.mk _ _ (.g [.r (.s 2 (r_Item x13_Belt)), .r (.s 3 (r_Chute x13_Chutes)), .r (.s 2 (r_Inlet x13_Inlets)), .r (.s 1 (r_I64 x13_Plan)), .r (.v (.int .i64 x13_Now))]) rfl (hF _ _ _ (c_L_toCentre hg ht hx13)) (.inl rfl) (Nat.le_of_ble_eq_true rfl) (by cbv; (try simp only [hrda_Chute, hrda_I64, hrda_Inlet, hrda_Item])) ?_
                cbv
                obtain ⟨x14, hx14, h⟩ := of_cl h
                obtain ⟨x14_Belt, x14_Chutes, x14_Inlets, x14_Plan, x14_Now⟩ := x14
                try dsimp only at h
                refine ACallR.mk _ _ (.g [.r (.s 2 (r_Item x14_Belt)), .r (.s 3 (r_Chute x14_Chutes)), .r (.s 2 (r_Inlet x14_Inlets)), .r (.s 1 (r_I64 x14_Plan)), .r (.v (.int .i64 x14_Now))]) rfl (hF _ _ _ (c_I_TickCentre hg ht hx14)) (.inl rfl) (Nat.le_of_ble_eq_true rfl) (by cbv; (try simp only [hrda_Chute, hrda_I64, hrda_Inlet, hrda_Item])) ?_
                cbv
                obtain ⟨x15, hx15, h⟩ := of_cl h
                try dsimp only at h
                refine ACall.mk _ _ rfl (hF _ _ _ (c_L_eqCentre hg ht hx15)) (.inl rfl) (Nat.le_of_ble_eq_true rfl) ?_
                cbv
                cases hb8 : x15 with
                | true =>
                  rw [br_true hb8] at h
                  cbv
                  refine AStep.mk ⟨(lend_Item ht (lenp_Item ht (dlen_Item hg ht _) hc5)), ⟨(lend_Chute ht (lenp_Chute ht (dlen_Chute hg ht _) hc6)), ⟨(lend_Inlet ht (lenp_Inlet ht (dlen_Inlet hg ht _) hc7)), (lend_I64 ht (lenp_I64 ht (dlen_I64 hg ht _) hc8))⟩⟩⟩ ?_
                  cbv
                  obtain ⟨x16, hx16, h⟩ := of_lP h
                  try dsimp only at h
                  refine ACall.mk _ _ (by rw [show rd (d_Item x11_2_Belt) 0 (dlen (d_Item x5_Belt)) = r_Item x11_2_Belt from rdw_Item hg ht (lenp_Item ht (dlen_Item hg ht _) hc5), show rd (d_Chute x11_2_Chutes) 0 (dlen (d_Chute x5_Chutes)) = r_Chute x11_2_Chutes from rdw_Chute hg ht (lenp_Chute ht (dlen_Chute hg ht _) hc6), show rd (d_Inlet x11_2_Inlets) 0 (dlen (d_Inlet x5_Inlets)) = r_Inlet x11_2_Inlets from rdw_Inlet hg ht (lenp_Inlet ht (dlen_Inlet hg ht _) hc7), show rd (d_I64 x11_2_Plan) 0 (dlen (d_I64 x5_Plan)) = r_I64 x11_2_Plan from rdw_I64 hg ht (lenp_I64 ht (dlen_I64 hg ht _) hc8)]; try rfl) (hF _ _ _ (c_L_heldCentre hg ht hx16)) (.inr rfl) (Nat.le_of_ble_eq_true rfl) ?_
                  cbv
                  cases hb9 : (lt x16 0) with
                  | true =>
                    rw [br_true hb9] at h
                    cbv
                    obtain rfl := Option.some.inj h
                    exact ARet.mk trivial hX.symm
                  | false =>
                    rw [br_false hb9] at h
                    cbv
                    cases hb10 : (eq x16 x11_1) with
                    | true =>
                      rw [br_true hb10] at h
                      cbv
                      obtain rfl := Option.some.inj h
                      exact ARet.mk trivial hX.symm
                    | false =>
                      rw [br_false hb10] at h
                      cbv
                      obtain rfl := Option.some.inj h
                      exact ARet.mk trivial hX.symm
                | false =>
                  rw [br_false hb8] at h
                  cbv
                  obtain rfl := Option.some.inj h
                  exact ARet.mk trivial hX.symm
              | false =>
                rw [br_false hb7] at h
                cbv
                obtain rfl := Option.some.inj h
                exact ARet.mk trivial hX.symm
          | false =>
            rw [br_false hb5] at h
            cbv
            obtain rfl := Option.some.inj h
            exact ARet.mk trivial hX.symm
      | false =>
        rw [br_false hb3] at h
        cbv
        obtain rfl := Option.some.inj h
        exact ARet.mk trivial hX.symm
    | false =>
      rw [br_false hb2] at h
      cbv
      obtain rfl := Option.some.inj h
      exact ARet.mk trivial hX.symm
end Go.Vs
