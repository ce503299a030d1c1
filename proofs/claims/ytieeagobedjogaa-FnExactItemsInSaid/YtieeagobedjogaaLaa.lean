/- Part of the proofs of this seat's laws: Laa. No condition. -/
import Derived.Test.YtieeagobedjogaaTy
import Derived.Test.YtieeagobedjogaaTIRall
set_option linter.unusedVariables false
set_option linter.unusedSimpArgs false
set_option linter.unusedSectionVars false
namespace Go.Vs
set_option maxRecDepth 100000
def ir76 : J :=
  .seq (.reg none [⟨(some 4), none, .mv (.k (V.i 0))⟩] [0, 1])
  (.seq (.reg none [⟨(some 5), none, .mv (.t 1)⟩,
     ⟨(some 6), none, .mv (.t 0)⟩,
     ⟨(some 7), none, .len false (.t 6)⟩,
     ⟨(some 8), none, .bin .sub .i (.t 5) (.t 7)⟩,
     ⟨(some 1), none, .mv (.t 8)⟩] [1])
  (.seq (.seq (.reg none [⟨(some 9), none, .mv (.t 1)⟩,
      ⟨(some 10), none, .bin .lss .i (.t 9) (.k (V.i 0))⟩] [1, 10])
   (.cond (.t 10)
    (.seq (.reg none [⟨(some 4), none, .mv (.k (V.i (-1)))⟩] [4])
     (.ret))
    (.skip)))
  (.seq (.reg none [⟨(some 11), none, .mv (.t 1)⟩,
     ⟨(some 4), none, .mv (.t 11)⟩] [4])
  (.ret))))
def rv76 : List RV := [.t 4]
open Go.Proofs Go.IntWalk
set_option linter.unusedVariables false
set_option maxRecDepth 100000
set_option maxHeartbeats 4000000
def L_szItemS (g : G) (t : TE) (a0 : List Item) (a1 : Int) : Int :=
  br (g.lt (g.wrap .i64 (g.sub a1 (g.llen (t.r_Item a0)))) 0)
  (
   (-1))
  (
   (g.wrap .i64 (g.sub a1 (g.llen (t.r_Item a0)))))
theorem fit76 : codeFit Try.prog Try.f76.ntmps (Try.f76.body.getD .skip) ir76 = true := by kernel_rfl
theorem c_L_szItemS {g : G} {t : TE} {a0 : List Item} {a1 : Int} {r : Int} (hg : g = G.real) (ht : t = TE.real) (h : L_szItemS g t a0 a1 = r) : Fn Try.prog 76 [.c (.s 2 (t.r_Item a0)), .c (.v (.int .i64 a1))] (.c (.r (.v (.int .i64 r)))) := by
  obtain ⟨X, hX⟩ := hide (.c (.r (.v (.int .i64 r))) : X)
  rw [← hX]
  refine fn_of (rvs := rv76) (j := ir76) Try.func76 rfl fit76 (Nat.le_of_ble_eq_true rfl) (by kernel_rfl) prog_mixed ?_
  intro g2 F hg2 hF
  obtain rfl : g2 = g := hg2.unique.trans hg.symm
  clear hg2
  obtain ⟨wrap, lt, le, eq, quo, rem, band, bor, bxor, shl, shr, nat, int, add, sub, mul, cat, seq, slt, sub3, byte, llen, nadd, nsub, dlen, dapp, dset, drep, rd, rda, up, rsub, dsub, all, sle, slen, hasI, putI, hasS, putS, imin, imax, fzc⟩ := g2
  obtain ⟨r_Item, d_Item, r_Chute, d_Chute, r_Inlet, d_Inlet, r_I64, d_I64, r_U8, d_U8, d_InletF⟩ := t
  unfold L_szItemS at h
  try dsimp only at h
  cbv
  cases hb1 : (lt (wrap .i64 (sub a1 (llen (r_Item a0)))) 0) with
  | true =>
    rw [br_true hb1] at h
    cbv
    subst h
    exact ARet.mk trivial hX.symm
  | false =>
    rw [br_false hb1] at h
    cbv
    subst h
    exact ARet.mk trivial hX.symm
end Go.Vs
namespace Go.Vs
set_option maxRecDepth 100000
def ir112 : J :=
  .seq (.reg none [⟨(some 2), none, .box (.t 0)⟩,
     ⟨(some 4), none, .mv (.k (V.i 0))⟩] [1, 2])
  (.seq (.reg none [⟨(some 5), none, .fa 2 (.t 2)⟩,
     ⟨(some 6), none, .ld false 1 (.t 5)⟩,
     ⟨(some 7), none, .mv (.t 1)⟩,
     ⟨(some 8), none, .call 76 true [(.t 6), (.t 7)]⟩,
     ⟨(some 1), none, .mv (.t 8)⟩] [1])
  (.seq (.seq (.reg none [⟨(some 9), none, .mv (.t 1)⟩,
      ⟨(some 10), none, .bin .lss .i (.t 9) (.k (V.i 0))⟩] [1, 10])
   (.cond (.t 10)
    (.seq (.reg none [⟨(some 4), none, .mv (.k (V.i (-1)))⟩] [4])
     (.ret))
    (.skip)))
  (.seq (.reg none [⟨(some 11), none, .mv (.t 1)⟩,
     ⟨(some 4), none, .mv (.t 11)⟩] [4])
  (.ret))))
def rv112 : List RV := [.t 4]
open Go.Proofs Go.IntWalk
set_option linter.unusedVariables false
set_option maxRecDepth 100000
set_option maxHeartbeats 4000000
def L_szChute (g : G) (t : TE) (a0 : Chute) (a1 : Int) : Int :=
  lP (L_szItemS g t a0.Held a1) fun x1 =>
  br (g.lt x1 0)
  (
   (-1))
  (
   x1)
theorem fit112 : codeFit Try.prog Try.f112.ntmps (Try.f112.body.getD .skip) ir112 = true := by kernel_rfl
theorem c_L_szChute {g : G} {t : TE} {a0 : Chute} {a1 : Int} {r : Int} (hg : g = G.real) (ht : t = TE.real) (h : L_szChute g t a0 a1 = r) : Fn Try.prog 112 [.g (Chute.rs t a0), .c (.v (.int .i64 a1))] (.c (.r (.v (.int .i64 r)))) := by
  obtain ⟨X, hX⟩ := hide (.c (.r (.v (.int .i64 r))) : X)
  rw [← hX]
  refine fn_of (rvs := rv112) (j := ir112) Try.func112 rfl fit112 (Nat.le_of_ble_eq_true rfl) (by kernel_rfl) prog_mixed ?_
  intro g2 F hg2 hF
  obtain rfl : g2 = g := hg2.unique.trans hg.symm
  clear hg2
  obtain ⟨wrap, lt, le, eq, quo, rem, band, bor, bxor, shl, shr, nat, int, add, sub, mul, cat, seq, slt, sub3, byte, llen, nadd, nsub, dlen, dapp, dset, drep, rd, rda, up, rsub, dsub, all, sle, slen, hasI, putI, hasS, putS, imin, imax, fzc⟩ := g2
  obtain ⟨r_Item, d_Item, r_Chute, d_Chute, r_Inlet, d_Inlet, r_I64, d_I64, r_U8, d_U8, d_InletF⟩ := t
  obtain ⟨a0_Cell, a0_Room, a0_Held⟩ := a0
  unfold L_szChute at h
  try dsimp only at h
  cbv
  obtain ⟨x1, hx1, h⟩ := of_lP h
  try dsimp only at h
  refine ACall.mk _ _ rfl (hF _ _ _ (c_L_szItemS hg ht hx1)) (.inl rfl) (Nat.le_of_ble_eq_true rfl) ?_
  cbv
  cases hb1 : (lt x1 0) with
  | true =>
    rw [br_true hb1] at h
    cbv
    subst h
    exact ARet.mk trivial hX.symm
  | false =>
    rw [br_false hb1] at h
    cbv
    subst h
    exact ARet.mk trivial hX.symm
end Go.Vs
namespace Go.Vs
set_option maxRecDepth 100000
def ir77 : J :=
  .seq (.reg none [⟨(some 4), none, .mv (.k (V.i 0))⟩] [0, 1])
  (.seq (.reg none [⟨(some 6), none, .mv (.t 1)⟩,
     ⟨(some 7), none, .mv (.t 0)⟩,
     ⟨(some 8), none, .len false (.t 7)⟩,
     ⟨(some 9), none, .bin .sub .i (.t 6) (.t 8)⟩,
     ⟨(some 1), none, .mv (.t 9)⟩] [0, 1])
  (.seq (.seq (.reg none [⟨(some 10), none, .mv (.t 1)⟩,
      ⟨(some 11), none, .bin .lss .i (.t 10) (.k (V.i 0))⟩] [0, 1, 11])
   (.cond (.t 11)
    (.seq (.reg none [⟨(some 4), none, .mv (.k (V.i (-1)))⟩] [4])
     (.ret))
    (.skip)))
  (.seq (.seq (.reg none [⟨(some 5), none, .mv (.k (V.i 0))⟩] [0, 1, 5])
   (.bl 0 (.seq (.seq (.reg none [⟨(some 12), none, .mv (.t 5)⟩,
        ⟨(some 13), none, .mv (.t 0)⟩,
        ⟨(some 14), none, .len false (.t 13)⟩,
        ⟨(some 15), none, .bin .lss .i (.t 12) (.t 14)⟩] [0, 1, 5, 15])
     (.cond (.t 15)
      (.skip)
      (.exit 0)))
    (.seq (.block 1 (.seq (.reg none [⟨(some 18), none, .mv (.t 0)⟩,
         ⟨(some 19), none, .mv (.t 5)⟩,
         ⟨(some 20), none, .ia 3 (.t 18) (.t 19)⟩,
         ⟨(some 21), none, .ld true 3 (.t 20)⟩,
         ⟨(some 22), none, .mv (.t 1)⟩,
         ⟨(some 23), none, .call 112 true [(.t 21), (.t 22)]⟩,
         ⟨(some 1), none, .mv (.t 23)⟩] [0, 1, 5])
      (.seq (.reg none [⟨(some 24), none, .mv (.t 1)⟩,
         ⟨(some 25), none, .bin .lss .i (.t 24) (.k (V.i 0))⟩] [0, 1, 5, 25])
      (.cond (.t 25)
       (.seq (.reg none [⟨(some 4), none, .mv (.k (V.i (-1)))⟩] [4])
        (.ret))
       (.skip)))))
    (.reg none [⟨(some 16), none, .mv (.t 5)⟩,
      ⟨(some 17), none, .bin .add .i (.t 16) (.k (V.i 1))⟩,
      ⟨(some 5), none, .mv (.t 17)⟩] [0, 1, 5])))))
  (.seq (.reg none [⟨(some 26), none, .mv (.t 1)⟩,
     ⟨(some 4), none, .mv (.t 26)⟩] [4])
  (.ret)))))
def rv77 : List RV := [.t 4]
open Go.Proofs Go.IntWalk
set_option linter.unusedVariables false
set_option maxRecDepth 100000
set_option maxHeartbeats 4000000
def L_szChuteS_l1 (g : G) (t : TE) : List Chute → Int → LR Int Int
  | [], v1 =>
    (LR.out v1)
  | z1 :: ls1, v1 =>
    lP (L_szChute g t z1 v1) fun x1 =>
    br (g.lt x1 0)
    (
     (LR.ret (-1)))
    (
     L_szChuteS_l1 g t ls1 x1)
def L_szChuteS (g : G) (t : TE) (a0 : List Chute) (a1 : Int) : Int :=
  br (g.lt (g.wrap .i64 (g.sub a1 (g.llen (t.r_Chute a0)))) 0)
  (
   (-1))
  (
   lP (L_szChuteS_l1 g t a0 (g.wrap .i64 (g.sub a1 (g.llen (t.r_Chute a0))))) fun o1 => lrp o1 fun y1 =>
   y1)
theorem fit77 : codeFit Try.prog Try.f77.ntmps (Try.f77.body.getD .skip) ir77 = true := by kernel_rfl
theorem c_L_szChuteS {g : G} {t : TE} {a0 : List Chute} {a1 : Int} {r : Int} (hg : g = G.real) (ht : t = TE.real) (h : L_szChuteS g t a0 a1 = r) : Fn Try.prog 77 [.c (.s 3 (t.r_Chute a0)), .c (.v (.int .i64 a1))] (.c (.r (.v (.int .i64 r)))) := by
  obtain ⟨X, hX⟩ := hide (.c (.r (.v (.int .i64 r))) : X)
  rw [← hX]
  refine fn_of (rvs := rv77) (j := ir77) Try.func77 rfl fit77 (Nat.le_of_ble_eq_true rfl) (by kernel_rfl) prog_mixed ?_
  intro g2 F hg2 hF
  obtain rfl : g2 = g := hg2.unique.trans hg.symm
  clear hg2
  obtain ⟨wrap, lt, le, eq, quo, rem, band, bor, bxor, shl, shr, nat, int, add, sub, mul, cat, seq, slt, sub3, byte, llen, nadd, nsub, dlen, dapp, dset, drep, rd, rda, up, rsub, dsub, all, sle, slen, hasI, putI, hasS, putS, imin, imax, fzc⟩ := g2
  obtain ⟨r_Item, d_Item, r_Chute, d_Chute, r_Inlet, d_Inlet, r_I64, d_I64, r_U8, d_U8, d_InletF⟩ := t
  unfold L_szChuteS at h
  try dsimp only at h
  cbv
  cases hb1 : (lt (wrap .i64 (sub a1 (llen (r_Chute a0)))) 0) with
  | true =>
    rw [br_true hb1] at h
    cbv
    subst h
    exact ARet.mk trivial hX.symm
  | false =>
    rw [br_false hb1] at h
    cbv
    obtain ⟨o1, ho1, h⟩ := of_lP h
    try dsimp only at h
    try rw [hg] at ho1
    try rw [ht] at ho1
    refine ABL.mk { p : Nat × Int × Int // p.1 ≤ a0.length ∧ p.2.1 = ((p.1 : Nat) : Int) ∧ L_szChuteS_l1 G.real TE.real (List.drop p.1 a0) p.2.2 = o1 } (fun ⟨⟨k1, v2, v1⟩, _⟩ => ({ sl := [(0, .c (.r (.s 3 (r_Chute a0)))), (1, .c (.r (.v (.int .i64 v1)))), (5, .c (.r (.v (.int .i64 v2))))], tab := [] } : St)) 0 (fun p => a0.length - p.1.1) ⟨(0, 0, (wrap .i64 (sub a1 (llen (r_Chute a0))))), Nat.zero_le _, rfl, ho1⟩ (Int) (fun y1 => ({ sl := [(1, .c (.r (.v (.int .i64 y1))))], tab := [] } : St)) 0 (fun y => o1 = LR.out y) ?_ ?_ ?_
    · refine Wk.of [] rfl rfl ?_ ?_
      · cbv
        all_goals exact ⟨⟨_, rfl, rfl⟩, ⟨_, rfl, rfl⟩, ⟨_, rfl, rfl⟩, trivial⟩
      · cbv
        all_goals exact trivial
    · rintro ⟨⟨k1, v2, v1⟩, hk1, hi1, h_1⟩ hq1
      have hm1 := (hq1.1 0 _ _ rfl)
      try dsimp only at hk1 hi1 h_1
      clear hq1
      cbv
      by_cases hc1_ : k1 < a0.length
      · have hb2 : lt v2 (llen (r_Chute a0)) = true := ltL_true_Chute hg ht hi1 hc1_
        have hs1 := stepL_Chute hg ht hi1 hc1_ hm1
        obtain ⟨z1, hz1⟩ := some_of_lt hc1_
        rw [drop_of_some hz1] at h_1
        rw [L_szChuteS_l1] at h_1
        obtain ⟨z1_Cell, z1_Room, z1_Held⟩ := z1
        try rw [← hg] at h_1
        try rw [← ht] at h_1
        try dsimp only at h_1
        rw [hb2]
        cbv
        refine AStep.mk (nn_L hi1) ?_
        cbv
        refine AGet.mk _ (r_getL_Chute hg ht hi1 hz1) ?_
        cbv
        obtain ⟨x1, hx1, h_1⟩ := of_lP h_1
        try dsimp only at h_1
        refine ACall.mk _ _ rfl (hF _ _ _ (c_L_szChute hg ht hx1)) (.inl rfl) (Nat.le_of_ble_eq_true rfl) ?_
        cbv
        cases hb3 : (lt x1 0) with
        | true =>
          rw [br_true hb3] at h_1
          cbv
          subst h_1
          try dsimp only [lr, lrL, lrp, lrpL] at h
          subst h
          exact ARet.mk trivial hX.symm
        | false =>
          rw [br_false hb3] at h_1
          cbv
          try rw [hg] at h_1
          try rw [ht] at h_1
          refine ⟨⟨(k1 + 1, (wrap .i64 (add v2 1)), x1), hc1_, hs1, h_1⟩, Wk.of [] rfl rfl ?_ ?_, meas_L hc1_⟩
          · cbv
            all_goals exact ⟨⟨_, rfl, rfl⟩, ⟨_, rfl, rfl⟩, ⟨_, rfl, rfl⟩, trivial⟩
          · cbv
            all_goals exact trivial
      · have hb2 : lt v2 (llen (r_Chute a0)) = false := ltL_false_Chute hg ht hi1 hc1_
        rw [List.drop_of_length_le (Nat.le_of_not_lt hc1_)] at h_1
        rw [L_szChuteS_l1] at h_1
        try rw [← hg] at h_1
        try rw [← ht] at h_1
        try dsimp only at h_1
        rw [hb2]
        cbv
        refine ⟨v1, Wk.of [] rfl rfl ?_ ?_, h_1.symm⟩
        · cbv
          all_goals exact ⟨⟨_, rfl, rfl⟩, trivial⟩
        · cbv
          all_goals exact trivial
    · rintro y1 hy1
      replace hy1 := hy1.symm
      subst hy1
      try dsimp only [lr, lrL, lrp, lrpL] at h
      cbv
      subst h
      exact ARet.mk trivial hX.symm
end Go.Vs
namespace Go.Vs
set_option maxRecDepth 100000
def ir113 : J :=
  .seq (.reg none [⟨(some 2), none, .box (.t 0)⟩,
     ⟨(some 4), none, .mv (.k (V.i 0))⟩] [1, 2])
  (.seq (.reg none [⟨(some 5), none, .fa 1 (.t 2)⟩,
     ⟨(some 6), none, .ld false 1 (.t 5)⟩,
     ⟨(some 7), none, .mv (.t 1)⟩,
     ⟨(some 8), none, .call 76 true [(.t 6), (.t 7)]⟩,
     ⟨(some 1), none, .mv (.t 8)⟩] [1])
  (.seq (.seq (.reg none [⟨(some 9), none, .mv (.t 1)⟩,
      ⟨(some 10), none, .bin .lss .i (.t 9) (.k (V.i 0))⟩] [1, 10])
   (.cond (.t 10)
    (.seq (.reg none [⟨(some 4), none, .mv (.k (V.i (-1)))⟩] [4])
     (.ret))
    (.skip)))
  (.seq (.reg none [⟨(some 11), none, .mv (.t 1)⟩,
     ⟨(some 4), none, .mv (.t 11)⟩] [4])
  (.ret))))
def rv113 : List RV := [.t 4]
open Go.Proofs Go.IntWalk
set_option linter.unusedVariables false
set_option maxRecDepth 100000
set_option maxHeartbeats 4000000
def L_szInlet (g : G) (t : TE) (a0 : Inlet) (a1 : Int) : Int :=
  lP (L_szItemS g t a0.Wait a1) fun x1 =>
  br (g.lt x1 0)
  (
   (-1))
  (
   x1)
theorem fit113 : codeFit Try.prog Try.f113.ntmps (Try.f113.body.getD .skip) ir113 = true := by kernel_rfl
theorem c_L_szInlet {g : G} {t : TE} {a0 : Inlet} {a1 : Int} {r : Int} (hg : g = G.real) (ht : t = TE.real) (h : L_szInlet g t a0 a1 = r) : Fn Try.prog 113 [.g (Inlet.rs t a0), .c (.v (.int .i64 a1))] (.c (.r (.v (.int .i64 r)))) := by
  obtain ⟨X, hX⟩ := hide (.c (.r (.v (.int .i64 r))) : X)
  rw [← hX]
  refine fn_of (rvs := rv113) (j := ir113) Try.func113 rfl fit113 (Nat.le_of_ble_eq_true rfl) (by kernel_rfl) prog_mixed ?_
  intro g2 F hg2 hF
  obtain rfl : g2 = g := hg2.unique.trans hg.symm
  clear hg2
  obtain ⟨wrap, lt, le, eq, quo, rem, band, bor, bxor, shl, shr, nat, int, add, sub, mul, cat, seq, slt, sub3, byte, llen, nadd, nsub, dlen, dapp, dset, drep, rd, rda, up, rsub, dsub, all, sle, slen, hasI, putI, hasS, putS, imin, imax, fzc⟩ := g2
  obtain ⟨r_Item, d_Item, r_Chute, d_Chute, r_Inlet, d_Inlet, r_I64, d_I64, r_U8, d_U8, d_InletF⟩ := t
  obtain ⟨a0_Cell, a0_Wait⟩ := a0
  unfold L_szInlet at h
  try dsimp only at h
  cbv
  obtain ⟨x1, hx1, h⟩ := of_lP h
  try dsimp only at h
  refine ACall.mk _ _ rfl (hF _ _ _ (c_L_szItemS hg ht hx1)) (.inl rfl) (Nat.le_of_ble_eq_true rfl) ?_
  cbv
  cases hb1 : (lt x1 0) with
  | true =>
    rw [br_true hb1] at h
    cbv
    subst h
    exact ARet.mk trivial hX.symm
  | false =>
    rw [br_false hb1] at h
    cbv
    subst h
    exact ARet.mk trivial hX.symm
end Go.Vs
namespace Go.Vs
set_option maxRecDepth 100000
def ir78 : J :=
  .seq (.reg none [⟨(some 4), none, .mv (.k (V.i 0))⟩] [0, 1])
  (.seq (.reg none [⟨(some 6), none, .mv (.t 1)⟩,
     ⟨(some 7), none, .mv (.t 0)⟩,
     ⟨(some 8), none, .len false (.t 7)⟩,
     ⟨(some 9), none, .bin .sub .i (.t 6) (.t 8)⟩,
     ⟨(some 1), none, .mv (.t 9)⟩] [0, 1])
  (.seq (.seq (.reg none [⟨(some 10), none, .mv (.t 1)⟩,
      ⟨(some 11), none, .bin .lss .i (.t 10) (.k (V.i 0))⟩] [0, 1, 11])
   (.cond (.t 11)
    (.seq (.reg none [⟨(some 4), none, .mv (.k (V.i (-1)))⟩] [4])
     (.ret))
    (.skip)))
  (.seq (.seq (.reg none [⟨(some 5), none, .mv (.k (V.i 0))⟩] [0, 1, 5])
   (.bl 0 (.seq (.seq (.reg none [⟨(some 12), none, .mv (.t 5)⟩,
        ⟨(some 13), none, .mv (.t 0)⟩,
        ⟨(some 14), none, .len false (.t 13)⟩,
        ⟨(some 15), none, .bin .lss .i (.t 12) (.t 14)⟩] [0, 1, 5, 15])
     (.cond (.t 15)
      (.skip)
      (.exit 0)))
    (.seq (.block 1 (.seq (.reg none [⟨(some 18), none, .mv (.t 0)⟩,
         ⟨(some 19), none, .mv (.t 5)⟩,
         ⟨(some 20), none, .ia 2 (.t 18) (.t 19)⟩,
         ⟨(some 21), none, .ld true 2 (.t 20)⟩,
         ⟨(some 22), none, .mv (.t 1)⟩,
         ⟨(some 23), none, .call 113 true [(.t 21), (.t 22)]⟩,
         ⟨(some 1), none, .mv (.t 23)⟩] [0, 1, 5])
      (.seq (.reg none [⟨(some 24), none, .mv (.t 1)⟩,
         ⟨(some 25), none, .bin .lss .i (.t 24) (.k (V.i 0))⟩] [0, 1, 5, 25])
      (.cond (.t 25)
       (.seq (.reg none [⟨(some 4), none, .mv (.k (V.i (-1)))⟩] [4])
        (.ret))
       (.skip)))))
    (.reg none [⟨(some 16), none, .mv (.t 5)⟩,
      ⟨(some 17), none, .bin .add .i (.t 16) (.k (V.i 1))⟩,
      ⟨(some 5), none, .mv (.t 17)⟩] [0, 1, 5])))))
  (.seq (.reg none [⟨(some 26), none, .mv (.t 1)⟩,
     ⟨(some 4), none, .mv (.t 26)⟩] [4])
  (.ret)))))
def rv78 : List RV := [.t 4]
open Go.Proofs Go.IntWalk
set_option linter.unusedVariables false
set_option maxRecDepth 100000
set_option maxHeartbeats 4000000
def L_szInletS_l1 (g : G) (t : TE) : List Inlet → Int → LR Int Int
  | [], v1 =>
    (LR.out v1)
  | z1 :: ls1, v1 =>
    lP (L_szInlet g t z1 v1) fun x1 =>
    br (g.lt x1 0)
    (
     (LR.ret (-1)))
    (
     L_szInletS_l1 g t ls1 x1)
def L_szInletS (g : G) (t : TE) (a0 : List Inlet) (a1 : Int) : Int :=
  br (g.lt (g.wrap .i64 (g.sub a1 (g.llen (t.r_Inlet a0)))) 0)
  (
   (-1))
  (
   lP (L_szInletS_l1 g t a0 (g.wrap .i64 (g.sub a1 (g.llen (t.r_Inlet a0))))) fun o1 => lrp o1 fun y1 =>
   y1)
theorem fit78 : codeFit Try.prog Try.f78.ntmps (Try.f78.body.getD .skip) ir78 = true := by kernel_rfl
theorem c_L_szInletS {g : G} {t : TE} {a0 : List Inlet} {a1 : Int} {r : Int} (hg : g = G.real) (ht : t = TE.real) (h : L_szInletS g t a0 a1 = r) : Fn Try.prog 78 [.c (.s 2 (t.r_Inlet a0)), .c (.v (.int .i64 a1))] (.c (.r (.v (.int .i64 r)))) := by
  obtain ⟨X, hX⟩ := hide (.c (.r (.v (.int .i64 r))) : X)
  rw [← hX]
  refine fn_of (rvs := rv78) (j := ir78) Try.func78 rfl fit78 (Nat.le_of_ble_eq_true rfl) (by kernel_rfl) prog_mixed ?_
  intro g2 F hg2 hF
  obtain rfl : g2 = g := hg2.unique.trans hg.symm
  clear hg2
  obtain ⟨wrap, lt, le, eq, quo, rem, band, bor, bxor, shl, shr, nat, int, add, sub, mul, cat, seq, slt, sub3, byte, llen, nadd, nsub, dlen, dapp, dset, drep, rd, rda, up, rsub, dsub, all, sle, slen, hasI, putI, hasS, putS, imin, imax, fzc⟩ := g2
  obtain ⟨r_Item, d_Item, r_Chute, d_Chute, r_Inlet, d_Inlet, r_I64, d_I64, r_U8, d_U8, d_InletF⟩ := t
  unfold L_szInletS at h
  try dsimp only at h
  cbv
  cases hb1 : (lt (wrap .i64 (sub a1 (llen (r_Inlet a0)))) 0) with
  | true =>
    rw [br_true hb1] at h
    cbv
    subst h
    exact ARet.mk trivial hX.symm
  | false =>
    rw [br_false hb1] at h
    cbv
    obtain ⟨o1, ho1, h⟩ := of_lP h
    try dsimp only at h
    try rw [hg] at ho1
    try rw [ht] at ho1
    refine ABL.mk { p : Nat × Int × Int // p.1 ≤ a0.length ∧ p.2.1 = ((p.1 : Nat) : Int) ∧ L_szInletS_l1 G.real TE.real (List.drop p.1 a0) p.2.2 = o1 } (fun ⟨⟨k1, v2, v1⟩, _⟩ => ({ sl := [(0, .c (.r (.s 2 (r_Inlet a0)))), (1, .c (.r (.v (.int .i64 v1)))), (5, .c (.r (.v (.int .i64 v2))))], tab := [] } : St)) 0 (fun p => a0.length - p.1.1) ⟨(0, 0, (wrap .i64 (sub a1 (llen (r_Inlet a0))))), Nat.zero_le _, rfl, ho1⟩ (Int) (fun y1 => ({ sl := [(1, .c (.r (.v (.int .i64 y1))))], tab := [] } : St)) 0 (fun y => o1 = LR.out y) ?_ ?_ ?_
    · refine Wk.of [] rfl rfl ?_ ?_
      · cbv
        all_goals exact ⟨⟨_, rfl, rfl⟩, ⟨_, rfl, rfl⟩, ⟨_, rfl, rfl⟩, trivial⟩
      · cbv
        all_goals exact trivial
    · rintro ⟨⟨k1, v2, v1⟩, hk1, hi1, h_1⟩ hq1
      have hm1 := (hq1.1 0 _ _ rfl)
      try dsimp only at hk1 hi1 h_1
      clear hq1
      cbv
      by_cases hc1_ : k1 < a0.length
      · have hb2 : lt v2 (llen (r_Inlet a0)) = true := ltL_true_Inlet hg ht hi1 hc1_
        have hs1 := stepL_Inlet hg ht hi1 hc1_ hm1
        obtain ⟨z1, hz1⟩ := some_of_lt hc1_
        rw [drop_of_some hz1] at h_1
        rw [L_szInletS_l1] at h_1
        obtain ⟨z1_Cell, z1_Wait⟩ := z1
        try rw [← hg] at h_1
        try rw [← ht] at h_1
        try dsimp only at h_1
        rw [hb2]
        cbv
        refine AStep.mk (nn_L hi1) ?_
        cbv
        refine AGet.mk _ (r_getL_Inlet hg ht hi1 hz1) ?_
        cbv
        obtain ⟨x1, hx1, h_1⟩ := of_lP h_1
        try dsimp only at h_1
        refine ACall.mk _ _ rfl (hF _ _ _ (c_L_szInlet hg ht hx1)) (.inl rfl) (Nat.le_of_ble_eq_true rfl) ?_
        cbv
        cases hb3 : (lt x1 0) with
        | true =>
          rw [br_true hb3] at h_1
          cbv
          subst h_1
          try dsimp only [lr, lrL, lrp, lrpL] at h
          subst h
          exact ARet.mk trivial hX.symm
        | false =>
          rw [br_false hb3] at h_1
          cbv
          try rw [hg] at h_1
          try rw [ht] at h_1
          refine ⟨⟨(k1 + 1, (wrap .i64 (add v2 1)), x1), hc1_, hs1, h_1⟩, Wk.of [] rfl rfl ?_ ?_, meas_L hc1_⟩
          · cbv
            all_goals exact ⟨⟨_, rfl, rfl⟩, ⟨_, rfl, rfl⟩, ⟨_, rfl, rfl⟩, trivial⟩
          · cbv
            all_goals exact trivial
      · have hb2 : lt v2 (llen (r_Inlet a0)) = false := ltL_false_Inlet hg ht hi1 hc1_
        rw [List.drop_of_length_le (Nat.le_of_not_lt hc1_)] at h_1
        rw [L_szInletS_l1] at h_1
        try rw [← hg] at h_1
        try rw [← ht] at h_1
        try dsimp only at h_1
        rw [hb2]
        cbv
        refine ⟨v1, Wk.of [] rfl rfl ?_ ?_, h_1.symm⟩
        · cbv
          all_goals exact ⟨⟨_, rfl, rfl⟩, trivial⟩
        · cbv
          all_goals exact trivial
    · rintro y1 hy1
      replace hy1 := hy1.symm
      subst hy1
      try dsimp only [lr, lrL, lrp, lrpL] at h
      cbv
      subst h
      exact ARet.mk trivial hX.symm
end Go.Vs
namespace Go.Vs
set_option maxRecDepth 100000
def ir79 : J :=
  .seq (.reg none [⟨(some 4), none, .mv (.k (V.i 0))⟩] [0, 1])
  (.seq (.reg none [⟨(some 5), none, .mv (.t 1)⟩,
     ⟨(some 6), none, .mv (.t 0)⟩,
     ⟨(some 7), none, .len false (.t 6)⟩,
     ⟨(some 8), none, .bin .sub .i (.t 5) (.t 7)⟩,
     ⟨(some 1), none, .mv (.t 8)⟩] [1])
  (.seq (.seq (.reg none [⟨(some 9), none, .mv (.t 1)⟩,
      ⟨(some 10), none, .bin .lss .i (.t 9) (.k (V.i 0))⟩] [1, 10])
   (.cond (.t 10)
    (.seq (.reg none [⟨(some 4), none, .mv (.k (V.i (-1)))⟩] [4])
     (.ret))
    (.skip)))
  (.seq (.reg none [⟨(some 11), none, .mv (.t 1)⟩,
     ⟨(some 4), none, .mv (.t 11)⟩] [4])
  (.ret))))
def rv79 : List RV := [.t 4]
open Go.Proofs Go.IntWalk
set_option linter.unusedVariables false
set_option maxRecDepth 100000
set_option maxHeartbeats 4000000
def L_szIntS (g : G) (t : TE) (a0 : List Int) (a1 : Int) : Int :=
  br (g.lt (g.wrap .i64 (g.sub a1 (g.llen (t.r_I64 a0)))) 0)
  (
   (-1))
  (
   (g.wrap .i64 (g.sub a1 (g.llen (t.r_I64 a0)))))
theorem fit79 : codeFit Try.prog Try.f79.ntmps (Try.f79.body.getD .skip) ir79 = true := by kernel_rfl
theorem c_L_szIntS {g : G} {t : TE} {a0 : List Int} {a1 : Int} {r : Int} (hg : g = G.real) (ht : t = TE.real) (h : L_szIntS g t a0 a1 = r) : Fn Try.prog 79 [.c (.s 1 (t.r_I64 a0)), .c (.v (.int .i64 a1))] (.c (.r (.v (.int .i64 r)))) := by
  obtain ⟨X, hX⟩ := hide (.c (.r (.v (.int .i64 r))) : X)
  rw [← hX]
  refine fn_of (rvs := rv79) (j := ir79) Try.func79 rfl fit79 (Nat.le_of_ble_eq_true rfl) (by kernel_rfl) prog_mixed ?_
  intro g2 F hg2 hF
  obtain rfl : g2 = g := hg2.unique.trans hg.symm
  clear hg2
  obtain ⟨wrap, lt, le, eq, quo, rem, band, bor, bxor, shl, shr, nat, int, add, sub, mul, cat, seq, slt, sub3, byte, llen, nadd, nsub, dlen, dapp, dset, drep, rd, rda, up, rsub, dsub, all, sle, slen, hasI, putI, hasS, putS, imin, imax, fzc⟩ := g2
  obtain ⟨r_Item, d_Item, r_Chute, d_Chute, r_Inlet, d_Inlet, r_I64, d_I64, r_U8, d_U8, d_InletF⟩ := t
  unfold L_szIntS at h
  try dsimp only at h
  cbv
  cases hb1 : (lt (wrap .i64 (sub a1 (llen (r_I64 a0)))) 0) with
  | true =>
    rw [br_true hb1] at h
    cbv
    subst h
    exact ARet.mk trivial hX.symm
  | false =>
    rw [br_false hb1] at h
    cbv
    subst h
    exact ARet.mk trivial hX.symm
end Go.Vs
namespace Go.Vs
set_option maxRecDepth 100000
def ir24 : J :=
  .seq (.reg none [⟨(some 2), none, .box (.t 0)⟩,
     ⟨(some 4), none, .mv (.k (V.i 0))⟩] [1, 2])
  (.seq (.reg none [⟨(some 5), none, .fa 0 (.t 2)⟩,
     ⟨(some 6), none, .ld false 1 (.t 5)⟩,
     ⟨(some 7), none, .mv (.t 1)⟩,
     ⟨(some 8), none, .call 76 true [(.t 6), (.t 7)]⟩,
     ⟨(some 1), none, .mv (.t 8)⟩] [1, 2])
  (.seq (.seq (.reg none [⟨(some 9), none, .mv (.t 1)⟩,
      ⟨(some 10), none, .bin .lss .i (.t 9) (.k (V.i 0))⟩] [1, 2, 10])
   (.cond (.t 10)
    (.seq (.reg none [⟨(some 4), none, .mv (.k (V.i (-1)))⟩] [4])
     (.ret))
    (.skip)))
  (.seq (.reg none [⟨(some 11), none, .fa 1 (.t 2)⟩,
     ⟨(some 12), none, .ld false 1 (.t 11)⟩,
     ⟨(some 13), none, .mv (.t 1)⟩,
     ⟨(some 14), none, .call 77 true [(.t 12), (.t 13)]⟩,
     ⟨(some 1), none, .mv (.t 14)⟩] [1, 2])
  (.seq (.seq (.reg none [⟨(some 15), none, .mv (.t 1)⟩,
      ⟨(some 16), none, .bin .lss .i (.t 15) (.k (V.i 0))⟩] [1, 2, 16])
   (.cond (.t 16)
    (.seq (.reg none [⟨(some 4), none, .mv (.k (V.i (-1)))⟩] [4])
     (.ret))
    (.skip)))
  (.seq (.reg none [⟨(some 17), none, .fa 2 (.t 2)⟩,
     ⟨(some 18), none, .ld false 1 (.t 17)⟩,
     ⟨(some 19), none, .mv (.t 1)⟩,
     ⟨(some 20), none, .call 78 true [(.t 18), (.t 19)]⟩,
     ⟨(some 1), none, .mv (.t 20)⟩] [1, 2])
  (.seq (.seq (.reg none [⟨(some 21), none, .mv (.t 1)⟩,
      ⟨(some 22), none, .bin .lss .i (.t 21) (.k (V.i 0))⟩] [1, 2, 22])
   (.cond (.t 22)
    (.seq (.reg none [⟨(some 4), none, .mv (.k (V.i (-1)))⟩] [4])
     (.ret))
    (.skip)))
  (.seq (.reg none [⟨(some 23), none, .fa 3 (.t 2)⟩,
     ⟨(some 24), none, .ld false 1 (.t 23)⟩,
     ⟨(some 25), none, .mv (.t 1)⟩,
     ⟨(some 26), none, .call 79 true [(.t 24), (.t 25)]⟩,
     ⟨(some 1), none, .mv (.t 26)⟩] [1])
  (.seq (.seq (.reg none [⟨(some 27), none, .mv (.t 1)⟩,
      ⟨(some 28), none, .bin .lss .i (.t 27) (.k (V.i 0))⟩] [1, 28])
   (.cond (.t 28)
    (.seq (.reg none [⟨(some 4), none, .mv (.k (V.i (-1)))⟩] [4])
     (.ret))
    (.skip)))
  (.seq (.reg none [⟨(some 29), none, .mv (.t 1)⟩,
     ⟨(some 4), none, .mv (.t 29)⟩] [4])
  (.ret))))))))))
def rv24 : List RV := [.t 4]
open Go.Proofs Go.IntWalk
set_option linter.unusedVariables false
set_option maxRecDepth 100000
set_option maxHeartbeats 4000000
def L_szCentre (g : G) (t : TE) (a0 : Centre) (a1 : Int) : Int :=
  lP (L_szItemS g t a0.Belt a1) fun x1 =>
  br (g.lt x1 0)
  (
   (-1))
  (
   lP (L_szChuteS g t a0.Chutes x1) fun x2 =>
   br (g.lt x2 0)
   (
    (-1))
   (
    lP (L_szInletS g t a0.Inlets x2) fun x3 =>
    br (g.lt x3 0)
    (
     (-1))
    (
     lP (L_szIntS g t a0.Plan x3) fun x4 =>
     br (g.lt x4 0)
     (
      (-1))
     (
      x4))))
theorem fit24 : codeFit Try.prog Try.f24.ntmps (Try.f24.body.getD .skip) ir24 = true := by kernel_rfl
theorem c_L_szCentre {g : G} {t : TE} {a0 : Centre} {a1 : Int} {r : Int} (hg : g = G.real) (ht : t = TE.real) (h : L_szCentre g t a0 a1 = r) : Fn Try.prog 24 [.g (Centre.rs t a0), .c (.v (.int .i64 a1))] (.c (.r (.v (.int .i64 r)))) := by
  obtain ⟨X, hX⟩ := hide (.c (.r (.v (.int .i64 r))) : X)
  rw [← hX]
  refine fn_of (rvs := rv24) (j := ir24) Try.func24 rfl fit24 (Nat.le_of_ble_eq_true rfl) (by kernel_rfl) prog_mixed ?_
  intro g2 F hg2 hF
  obtain rfl : g2 = g := hg2.unique.trans hg.symm
  clear hg2
  obtain ⟨wrap, lt, le, eq, quo, rem, band, bor, bxor, shl, shr, nat, int, add, sub, mul, cat, seq, slt, sub3, byte, llen, nadd, nsub, dlen, dapp, dset, drep, rd, rda, up, rsub, dsub, all, sle, slen, hasI, putI, hasS, putS, imin, imax, fzc⟩ := g2
  obtain ⟨r_Item, d_Item, r_Chute, d_Chute, r_Inlet, d_Inlet, r_I64, d_I64, r_U8, d_U8, d_InletF⟩ := t
  obtain ⟨a0_Belt, a0_Chutes, a0_Inlets, a0_Plan, a0_Now⟩ := a0
  unfold L_szCentre at h
  try dsimp only at h
  cbv
  obtain ⟨x1, hx1, h⟩ := of_lP h
  try dsimp only at h
  refine ACall.mk _ _ rfl (hF _ _ _ (c_L_szItemS hg ht hx1)) (.inl rfl) (Nat.le_of_ble_eq_true rfl) ?_
  cbv
  cases hb1 : (lt x1 0) with
  | true =>
    rw [br_true hb1] at h
    cbv
    subst h
    exact ARet.mk trivial hX.symm
  | false =>
    rw [br_false hb1] at h
    cbv
    obtain ⟨x2, hx2, h⟩ := of_lP h
    try dsimp only at h
    refine ACall.mk _ _ rfl (hF _ _ _ (c_L_szChuteS hg ht hx2)) (.inl rfl) (Nat.le_of_ble_eq_true rfl) ?_
    cbv
    cases hb2 : (lt x2 0) with
    | true =>
      rw [br_true hb2] at h
      cbv
      subst h
      exact ARet.mk trivial hX.symm
    | false =>
      rw [br_false hb2] at h
      cbv
      obtain ⟨x3, hx3, h⟩ := of_lP h
      try dsimp only at h
      refine ACall.mk _ _ rfl (hF _ _ _ (c_L_szInletS hg ht hx3)) (.inl rfl) (Nat.le_of_ble_eq_true rfl) ?_
      cbv
      cases hb3 : (lt x3 0) with
      | true =>
        rw [br_true hb3] at h
        cbv
        subst h
        exact ARet.mk trivial hX.symm
      | false =>
        rw [br_false hb3] at h
        cbv
        obtain ⟨x4, hx4, h⟩ := of_lP h
        try dsimp only at h
        refine ACall.mk _ _ rfl (hF _ _ _ (c_L_szIntS hg ht hx4)) (.inl rfl) (Nat.le_of_ble_eq_true rfl) ?_
        cbv
        cases hb4 : (lt x4 0) with
        | true =>
          rw [br_true hb4] at h
          cbv
          subst h
          exact ARet.mk trivial hX.symm
        | false =>
          rw [br_false hb4] at h
          cbv
          subst h
          exact ARet.mk trivial hX.symm
end Go.Vs
namespace Go.Vs
set_option maxRecDepth 100000
def ir45 : J :=
  .seq (.reg none [⟨(some 2), none, .mv (.k (.c (.n 1)))⟩] [0])
  (.seq (.reg none [⟨(some 5), none, .mv (.t 0)⟩,
     ⟨(some 6), none, .len false (.t 5)⟩,
     ⟨(some 7), none, .mk 1 8 [.r (.v (.int .i64 0))] (.t 6)⟩,
     ⟨(some 3), none, .mv (.t 7)⟩] [0, 3])
  (.seq (.seq (.reg none [⟨(some 4), none, .mv (.k (V.i 0))⟩] [0, 3, 4])
   (.bl 0 (.seq (.seq (.reg none [⟨(some 8), none, .mv (.t 4)⟩,
        ⟨(some 9), none, .mv (.t 0)⟩,
        ⟨(some 10), none, .len false (.t 9)⟩,
        ⟨(some 11), none, .bin .lss .i (.t 8) (.t 10)⟩] [0, 3, 4, 11])
     (.cond (.t 11)
      (.skip)
      (.exit 0)))
    (.seq (.block 1 (.reg none [⟨(some 14), none, .mv (.t 3)⟩,
        ⟨(some 15), none, .mv (.t 4)⟩,
        ⟨(some 16), none, .mv (.t 0)⟩,
        ⟨(some 17), none, .mv (.t 4)⟩,
        ⟨(some 18), none, .ia 1 (.t 16) (.t 17)⟩,
        ⟨(some 19), none, .ld false 1 (.t 18)⟩,
        ⟨(some 20), none, .ia 1 (.t 14) (.t 15)⟩,
        ⟨none, none, .st 1 (.t 20) (.t 19)⟩] [0, 3, 4]))
    (.reg none [⟨(some 12), none, .mv (.t 4)⟩,
      ⟨(some 13), none, .bin .add .i (.t 12) (.k (V.i 1))⟩,
      ⟨(some 4), none, .mv (.t 13)⟩] [0, 3, 4])))))
  (.seq (.reg none [⟨(some 21), none, .mv (.t 3)⟩,
     ⟨(some 2), none, .mv (.t 21)⟩] [2])
  (.ret))))
def rv45 : List RV := [.t 2]
open Go.Proofs Go.IntWalk
set_option linter.unusedVariables false
set_option maxRecDepth 100000
set_option maxHeartbeats 4000000
def L_toIntS_l1 (g : G) (t : TE) : List Int → Int → List Int → Option (List Int)
  | [], v1, w1 =>
    some w1
  | z1 :: ls1, v1, w1 =>
    gd (((0 : Int) ≤ v1 ∧ v1 < (((g.dlen (t.d_I64 w1)) : Nat) : Int))) <|
    gt w1 (g.nat v1) fun x1 =>
    lP (List.set w1 (g.nat v1) z1) fun (l2 : List Int) =>
    L_toIntS_l1 g t ls1 (g.wrap .i64 (g.add v1 1)) l2
def L_toIntS (g : G) (t : TE) (a0 : List Int) : Option (List Int) :=
  gd (((0 : Int) ≤ (g.llen (t.r_I64 a0)) ∧ 8 * (g.llen (t.r_I64 a0)) ≤ 70368744177664 ∧ (g.llen (t.r_I64 a0)) ≤ 4611686018427387904)) <|
  lP (List.replicate (g.nat (g.llen (t.r_I64 a0))) 0) fun (l1 : List Int) =>
  cl (L_toIntS_l1 g t a0 0 l1) fun y1 =>
  some y1
theorem fit45 : codeFit Try.prog Try.f45.ntmps (Try.f45.body.getD .skip) ir45 = true := by kernel_rfl
theorem c_L_toIntS {g : G} {t : TE} {a0 : List Int} {r : List Int} (hg : g = G.real) (ht : t = TE.real) (h : L_toIntS g t a0 = some r) : Fn Try.prog 45 [.c (.s 1 (t.r_I64 a0))] (.c (.o 1 (t.d_I64 r))) := by
  obtain ⟨X, hX⟩ := hide (.c (.o 1 (t.d_I64 r)) : X)
  rw [← hX]
  refine fn_of (rvs := rv45) (j := ir45) Try.func45 rfl fit45 (Nat.le_of_ble_eq_true rfl) (by kernel_rfl) prog_mixed ?_
  intro g2 F hg2 hF
  obtain rfl : g2 = g := hg2.unique.trans hg.symm
  clear hg2
  obtain ⟨wrap, lt, le, eq, quo, rem, band, bor, bxor, shl, shr, nat, int, add, sub, mul, cat, seq, slt, sub3, byte, llen, nadd, nsub, dlen, dapp, dset, drep, rd, rda, up, rsub, dsub, all, sle, slen, hasI, putI, hasS, putS, imin, imax, fzc⟩ := g2
  obtain ⟨r_Item, d_Item, r_Chute, d_Chute, r_Inlet, d_Inlet, r_I64, d_I64, r_U8, d_U8, d_InletF⟩ := t
  unfold L_toIntS at h
  try dsimp only at h
  cbv
  obtain ⟨hc2, h⟩ := of_gd h
  refine AStep.mk (mk_ok hc2) ?_
  cbv
  obtain ⟨l1, hl1, h⟩ := of_lP h
  try dsimp only at h
  refine ANew.mk (d_I64 l1) (dlen (d_I64 l1)) (by rw [← hl1]; exact drep_I64 hg ht _ 0) (by rw [← hl1]; exact drepn_I64 hg ht _ 0) ?_
  cbv
  obtain ⟨o1, ho1, h⟩ := of_cl h
  try dsimp only at h
  try rw [hg] at ho1
  try rw [ht] at ho1
  refine ABL.mk { p : Nat × Int × List Int // p.1 ≤ a0.length ∧ p.2.1 = ((p.1 : Nat) : Int) ∧ L_toIntS_l1 G.real TE.real (List.drop p.1 a0) p.2.1 p.2.2 = some o1 } (fun ⟨⟨k1, v1, w1⟩, _⟩ => ({ sl := [(0, .c (.r (.s 1 (r_I64 a0)))), (3, .c (.f 0 1 0 (dlen (d_I64 w1)))), (4, .c (.r (.v (.int .i64 v1))))], tab := [(0, some (.arr 1 (d_I64 w1)))] } : St)) 1 (fun p => a0.length - p.1.1) ⟨(0, 0, l1), Nat.zero_le _, rfl, ho1⟩ (List Int) (fun y1 => ({ sl := [(3, .c (.f 0 1 0 (dlen (d_I64 y1))))], tab := [(0, some (.arr 1 (d_I64 y1)))] } : St)) 1 (fun y => o1 = y) ?_ ?_ ?_
  · refine Wk.of [(0, some 48)] rfl rfl ?_ ?_
    · cbv
      all_goals exact ⟨⟨_, rfl, rfl⟩, ⟨_, rfl, rfl⟩, ⟨_, rfl, rfl⟩, trivial⟩
    · cbv
      all_goals exact ⟨⟨_, rfl, rfl⟩, trivial⟩
  · rintro ⟨⟨k1, v1, w1⟩, hk1, hi1, h_1⟩ hq1
    have hm1 := (hq1.1 0 _ _ rfl)
    try dsimp only at hk1 hi1 h_1
    clear hq1
    cbv
    by_cases hc1_ : k1 < a0.length
    · have hb1 : lt v1 (llen (r_I64 a0)) = true := ltL_true_I64 hg ht hi1 hc1_
      have hs1 := stepL_I64 hg ht hi1 hc1_ hm1
      obtain ⟨z1, hz1⟩ := some_of_lt hc1_
      rw [drop_of_some hz1] at h_1
      rw [L_toIntS_l1] at h_1
      try rw [← hg] at h_1
      try rw [← ht] at h_1
      try dsimp only at h_1
      rw [hb1]
      cbv
      refine AStep.mk (nn_L hi1) ?_
      cbv
      refine AGet.mk _ (r_getL_I64 hg ht hi1 hz1) ?_
      cbv
      obtain ⟨hc1, h_1⟩ := of_gd h_1
      refine AStep.mk hc1 ?_
      cbv
      obtain ⟨x1, hx1, h_1⟩ := of_gt h_1
      try dsimp only at h_1
      refine AGet.mk _ (d_get_I64 hg ht hx1) ?_
      cbv
      obtain ⟨l2, hl2, h_1⟩ := of_lP h_1
      try dsimp only at h_1
      refine ANew.mk (d_I64 l2) _ (by rw [← hl2]; exact dset_I64 hg ht _ _ z1) rfl ?_
      have hnl2 : (dlen (d_I64 w1)) = (d_I64 l2).length := (by rw [← hl2, dsetl_I64 ht]; exact (dlen_I64 hg ht _))
      cbv
      try rw [hg] at h_1
      try rw [ht] at h_1
      refine ⟨⟨(k1 + 1, (wrap .i64 (add v1 1)), l2), hc1_, hs1, h_1⟩, Wk.of [(0, some 0)] rfl rfl ?_ ?_, meas_L hc1_⟩
      · cbv
        all_goals try rw [show (dlen (d_I64 w1)) = (dlen (d_I64 l2)) from (hnl2).trans (dlen_I64 hg ht _).symm]
        all_goals exact ⟨⟨_, rfl, rfl⟩, ⟨_, rfl, rfl⟩, ⟨_, rfl, rfl⟩, trivial⟩
      · cbv
        all_goals try rw [show (dlen (d_I64 w1)) = (dlen (d_I64 l2)) from (hnl2).trans (dlen_I64 hg ht _).symm]
        all_goals exact ⟨⟨_, rfl, rfl⟩, trivial⟩
    · have hb1 : lt v1 (llen (r_I64 a0)) = false := ltL_false_I64 hg ht hi1 hc1_
      rw [List.drop_of_length_le (Nat.le_of_not_lt hc1_)] at h_1
      rw [L_toIntS_l1] at h_1
      try rw [← hg] at h_1
      try rw [← ht] at h_1
      try dsimp only at h_1
      rw [hb1]
      cbv
      refine ⟨w1, Wk.of [(0, some 0)] rfl rfl ?_ ?_, (Option.some.inj h_1).symm⟩
      · cbv
        all_goals exact ⟨⟨_, rfl, rfl⟩, trivial⟩
      · cbv
        all_goals exact ⟨⟨_, rfl, rfl⟩, trivial⟩
  · rintro y1 hy1
    replace hy1 := hy1.symm
    subst hy1
    try dsimp only [lr, lrL, lrp, lrpL] at h
    cbv
    obtain rfl := Option.some.inj h
    exact ARet.mk ⟨rfl, (dlen_I64 hg ht _)⟩ hX.symm
end Go.Vs
namespace Go.Vs
set_option maxRecDepth 100000
def ir70 : J :=
  .seq (.reg none [⟨(some 1), none, .box (.t 0)⟩,
     ⟨(some 2), none, .alloc [.r (.v (.int .i64 0)), .r (.v (.int .i64 0))]⟩] [1, 2])
  (.seq (.reg none [⟨(some 3), none, .alloc [.r (.v (.int .i64 0)), .r (.v (.int .i64 0))]⟩] [1, 2, 3])
  (.seq (.reg none [⟨(some 4), none, .fa 0 (.t 1)⟩,
     ⟨(some 5), none, .ld false 1 (.t 4)⟩,
     ⟨(some 6), none, .fa 0 (.t 3)⟩,
     ⟨none, none, .st 1 (.t 6) (.t 5)⟩] [1, 2, 3])
  (.seq (.reg none [⟨(some 7), none, .fa 1 (.t 1)⟩,
     ⟨(some 8), none, .ld false 1 (.t 7)⟩,
     ⟨(some 9), none, .fa 1 (.t 3)⟩,
     ⟨none, none, .st 1 (.t 9) (.t 8)⟩] [2, 3])
  (.seq (.reg none [⟨(some 10), none, .ld true 2 (.t 3)⟩,
     ⟨none, none, .st 2 (.t 2) (.t 10)⟩] [2])
  (.ret)))))
def rv70 : List RV := [.c 2 true 2]
open Go.Proofs Go.IntWalk
set_option linter.unusedVariables false
set_option maxRecDepth 100000
set_option maxHeartbeats 4000000
def L_toItem (g : G) (t : TE) (a0 : Item) : Item :=
  a0
theorem fit70 : codeFit Try.prog Try.f70.ntmps (Try.f70.body.getD .skip) ir70 = true := by kernel_rfl
theorem c_L_toItem {g : G} {t : TE} {a0 : Item} {r : Item} (hg : g = G.real) (ht : t = TE.real) (h : L_toItem g t a0 = r) : Fn Try.prog 70 [.g (Item.rs t a0)] (.g (Item.ds t r)) := by
  obtain ⟨X, hX⟩ := hide (.g (Item.ds t r) : X)
  rw [← hX]
  refine fn_of (rvs := rv70) (j := ir70) Try.func70 rfl fit70 (Nat.le_of_ble_eq_true rfl) (by kernel_rfl) prog_mixed ?_
  intro g2 F hg2 hF
  obtain rfl : g2 = g := hg2.unique.trans hg.symm
  clear hg2
  obtain ⟨wrap, lt, le, eq, quo, rem, band, bor, bxor, shl, shr, nat, int, add, sub, mul, cat, seq, slt, sub3, byte, llen, nadd, nsub, dlen, dapp, dset, drep, rd, rda, up, rsub, dsub, all, sle, slen, hasI, putI, hasS, putS, imin, imax, fzc⟩ := g2
  obtain ⟨r_Item, d_Item, r_Chute, d_Chute, r_Inlet, d_Inlet, r_I64, d_I64, r_U8, d_U8, d_InletF⟩ := t
  obtain ⟨a0_Id, a0_Dest⟩ := a0
  unfold L_toItem at h
  try dsimp only at h
  cbv
  subst h
  exact ARet.mk trivial hX.symm
end Go.Vs
namespace Go.Vs
set_option maxRecDepth 100000
def ir80 : J :=
  .seq (.reg none [⟨(some 2), none, .mv (.k (.c (.n 2)))⟩] [0])
  (.seq (.reg none [⟨(some 5), none, .mv (.t 0)⟩,
     ⟨(some 6), none, .len false (.t 5)⟩,
     ⟨(some 7), none, .mk 2 16 [.r (.v (.int .i64 0)), .r (.v (.int .i64 0))] (.t 6)⟩,
     ⟨(some 3), none, .mv (.t 7)⟩] [0, 3])
  (.seq (.seq (.reg none [⟨(some 4), none, .mv (.k (V.i 0))⟩] [0, 3, 4])
   (.bl 0 (.seq (.seq (.reg none [⟨(some 8), none, .mv (.t 4)⟩,
        ⟨(some 9), none, .mv (.t 0)⟩,
        ⟨(some 10), none, .len false (.t 9)⟩,
        ⟨(some 11), none, .bin .lss .i (.t 8) (.t 10)⟩] [0, 3, 4, 11])
     (.cond (.t 11)
      (.skip)
      (.exit 0)))
    (.seq (.block 1 (.reg none [⟨(some 14), none, .mv (.t 3)⟩,
        ⟨(some 15), none, .mv (.t 4)⟩,
        ⟨(some 16), none, .mv (.t 0)⟩,
        ⟨(some 17), none, .mv (.t 4)⟩,
        ⟨(some 18), none, .ia 2 (.t 16) (.t 17)⟩,
        ⟨(some 19), none, .ld true 2 (.t 18)⟩,
        ⟨(some 20), none, .call 70 true [(.t 19)]⟩,
        ⟨(some 21), none, .ia 2 (.t 14) (.t 15)⟩,
        ⟨none, none, .st 2 (.t 21) (.t 20)⟩] [0, 3, 4]))
    (.reg none [⟨(some 12), none, .mv (.t 4)⟩,
      ⟨(some 13), none, .bin .add .i (.t 12) (.k (V.i 1))⟩,
      ⟨(some 4), none, .mv (.t 13)⟩] [0, 3, 4])))))
  (.seq (.reg none [⟨(some 22), none, .mv (.t 3)⟩,
     ⟨(some 2), none, .mv (.t 22)⟩] [2])
  (.ret))))
def rv80 : List RV := [.t 2]
open Go.Proofs Go.IntWalk
set_option linter.unusedVariables false
set_option maxRecDepth 100000
set_option maxHeartbeats 4000000
def L_toItemS_l1 (g : G) (t : TE) : List Item → Int → List Item → Option (List Item)
  | [], v1, w1 =>
    some w1
  | z1 :: ls1, v1, w1 =>
    lP (L_toItem g t z1) fun x1 =>
    gd (((0 : Int) ≤ v1 ∧ v1 < (((g.dlen (t.d_Item w1)) : Nat) : Int))) <|
    gt w1 (g.nat v1) fun x2 =>
    lP (List.set w1 (g.nat v1) (Item.mk x1.Id x1.Dest)) fun (l2 : List Item) =>
    L_toItemS_l1 g t ls1 (g.wrap .i64 (g.add v1 1)) l2
def L_toItemS (g : G) (t : TE) (a0 : List Item) : Option (List Item) :=
  gd (((0 : Int) ≤ (g.llen (t.r_Item a0)) ∧ 16 * (g.llen (t.r_Item a0)) ≤ 70368744177664 ∧ (g.llen (t.r_Item a0)) ≤ 4611686018427387904)) <|
  lP (List.replicate (g.nat (g.llen (t.r_Item a0))) (Item.mk 0 0)) fun (l1 : List Item) =>
  cl (L_toItemS_l1 g t a0 0 l1) fun y1 =>
  some y1
theorem fit80 : codeFit Try.prog Try.f80.ntmps (Try.f80.body.getD .skip) ir80 = true := by kernel_rfl
theorem c_L_toItemS {g : G} {t : TE} {a0 : List Item} {r : List Item} (hg : g = G.real) (ht : t = TE.real) (h : L_toItemS g t a0 = some r) : Fn Try.prog 80 [.c (.s 2 (t.r_Item a0))] (.c (.o 2 (t.d_Item r))) := by
  obtain ⟨X, hX⟩ := hide (.c (.o 2 (t.d_Item r)) : X)
  rw [← hX]
  refine fn_of (rvs := rv80) (j := ir80) Try.func80 rfl fit80 (Nat.le_of_ble_eq_true rfl) (by kernel_rfl) prog_mixed ?_
  intro g2 F hg2 hF
  obtain rfl : g2 = g := hg2.unique.trans hg.symm
  clear hg2
  obtain ⟨wrap, lt, le, eq, quo, rem, band, bor, bxor, shl, shr, nat, int, add, sub, mul, cat, seq, slt, sub3, byte, llen, nadd, nsub, dlen, dapp, dset, drep, rd, rda, up, rsub, dsub, all, sle, slen, hasI, putI, hasS, putS, imin, imax, fzc⟩ := g2
  obtain ⟨r_Item, d_Item, r_Chute, d_Chute, r_Inlet, d_Inlet, r_I64, d_I64, r_U8, d_U8, d_InletF⟩ := t
  unfold L_toItemS at h
  try dsimp only at h
  cbv
  obtain ⟨hc2, h⟩ := of_gd h
  refine AStep.mk (mk_ok hc2) ?_
  cbv
  obtain ⟨l1, hl1, h⟩ := of_lP h
  try dsimp only at h
  refine ANew.mk (d_Item l1) (dlen (d_Item l1)) (by rw [← hl1]; exact drep_Item hg ht _ (Item.mk 0 0)) (by rw [← hl1]; exact drepn_Item hg ht _ (Item.mk 0 0)) ?_
  cbv
  obtain ⟨o1, ho1, h⟩ := of_cl h
  try dsimp only at h
  try rw [hg] at ho1
  try rw [ht] at ho1
  refine ABL.mk { p : Nat × Int × List Item // p.1 ≤ a0.length ∧ p.2.1 = ((p.1 : Nat) : Int) ∧ L_toItemS_l1 G.real TE.real (List.drop p.1 a0) p.2.1 p.2.2 = some o1 } (fun ⟨⟨k1, v1, w1⟩, _⟩ => ({ sl := [(0, .c (.r (.s 2 (r_Item a0)))), (3, .c (.f 0 2 0 (dlen (d_Item w1)))), (4, .c (.r (.v (.int .i64 v1))))], tab := [(0, some (.arr 2 (d_Item w1)))] } : St)) 1 (fun p => a0.length - p.1.1) ⟨(0, 0, l1), Nat.zero_le _, rfl, ho1⟩ (List Item) (fun y1 => ({ sl := [(3, .c (.f 0 2 0 (dlen (d_Item y1))))], tab := [(0, some (.arr 2 (d_Item y1)))] } : St)) 1 (fun y => o1 = y) ?_ ?_ ?_
  · refine Wk.of [(0, some 48)] rfl rfl ?_ ?_
    · cbv
      all_goals exact ⟨⟨_, rfl, rfl⟩, ⟨_, rfl, rfl⟩, ⟨_, rfl, rfl⟩, trivial⟩
    · cbv
      all_goals exact ⟨⟨_, rfl, rfl⟩, trivial⟩
  · rintro ⟨⟨k1, v1, w1⟩, hk1, hi1, h_1⟩ hq1
    have hm1 := (hq1.1 0 _ _ rfl)
    try dsimp only at hk1 hi1 h_1
    clear hq1
    cbv
    by_cases hc1_ : k1 < a0.length
    · have hb1 : lt v1 (llen (r_Item a0)) = true := ltL_true_Item hg ht hi1 hc1_
      have hs1 := stepL_Item hg ht hi1 hc1_ hm1
      obtain ⟨z1, hz1⟩ := some_of_lt hc1_
      rw [drop_of_some hz1] at h_1
      rw [L_toItemS_l1] at h_1
      obtain ⟨z1_Id, z1_Dest⟩ := z1
      try rw [← hg] at h_1
      try rw [← ht] at h_1
      try dsimp only at h_1
      rw [hb1]
      cbv
      refine AStep.mk (nn_L hi1) ?_
      cbv
      refine AGet.mk _ (r_getL_Item hg ht hi1 hz1) ?_
      cbv
      obtain ⟨x1, hx1, h_1⟩ := of_lP h_1
      obtain ⟨x1_Id, x1_Dest⟩ := x1
      try dsimp only at h_1
      refine ACall.mk _ _ rfl (hF _ _ _ (c_L_toItem hg ht hx1)) (.inl rfl) (Nat.le_of_ble_eq_true rfl) ?_
      cbv
      obtain ⟨hc1, h_1⟩ := of_gd h_1
      refine AStep.mk hc1 ?_
      cbv
      obtain ⟨x2, hx2, h_1⟩ := of_gt h_1
      obtain ⟨x2_Id, x2_Dest⟩ := x2
      try dsimp only at h_1
      refine AGet.mk _ (d_get_Item hg ht hx2) ?_
      cbv
      obtain ⟨l2, hl2, h_1⟩ := of_lP h_1
      try dsimp only at h_1
      refine ANew.mk (d_Item l2) _ (by rw [← hl2]; exact dset_Item hg ht _ _ (Item.mk x1_Id x1_Dest)) rfl ?_
      have hnl2 : (dlen (d_Item w1)) = (d_Item l2).length := (by rw [← hl2, dsetl_Item ht]; exact (dlen_Item hg ht _))
      cbv
      try rw [hg] at h_1
      try rw [ht] at h_1
      refine ⟨⟨(k1 + 1, (wrap .i64 (add v1 1)), l2), hc1_, hs1, h_1⟩, Wk.of [(0, some 0)] rfl rfl ?_ ?_, meas_L hc1_⟩
      · cbv
        all_goals try rw [show (dlen (d_Item w1)) = (dlen (d_Item l2)) from (hnl2).trans (dlen_Item hg ht _).symm]
        all_goals exact ⟨⟨_, rfl, rfl⟩, ⟨_, rfl, rfl⟩, ⟨_, rfl, rfl⟩, trivial⟩
      · cbv
        all_goals try rw [show (dlen (d_Item w1)) = (dlen (d_Item l2)) from (hnl2).trans (dlen_Item hg ht _).symm]
        all_goals exact ⟨⟨_, rfl, rfl⟩, trivial⟩
    · have hb1 : lt v1 (llen (r_Item a0)) = false := ltL_false_Item hg ht hi1 hc1_
      rw [List.drop_of_length_le (Nat.le_of_not_lt hc1_)] at h_1
      rw [L_toItemS_l1] at h_1
      try rw [← hg] at h_1
      try rw [← ht] at h_1
      try dsimp only at h_1
      rw [hb1]
      cbv
      refine ⟨w1, Wk.of [(0, some 0)] rfl rfl ?_ ?_, (Option.some.inj h_1).symm⟩
      · cbv
        all_goals exact ⟨⟨_, rfl, rfl⟩, trivial⟩
      · cbv
        all_goals exact ⟨⟨_, rfl, rfl⟩, trivial⟩
  · rintro y1 hy1
    replace hy1 := hy1.symm
    subst hy1
    try dsimp only [lr, lrL, lrp, lrpL] at h
    cbv
    obtain rfl := Option.some.inj h
    exact ARet.mk ⟨rfl, (dlen_Item hg ht _)⟩ hX.symm
end Go.Vs
namespace Go.Vs
set_option maxRecDepth 100000
def ir114 : J :=
  .seq (.reg none [⟨(some 1), none, .box (.t 0)⟩,
     ⟨(some 2), none, .alloc [.r (.v (.int .i64 0)), .r (.v (.int .i64 0)), .n 2]⟩] [1, 2])
  (.seq (.reg none [⟨(some 3), none, .alloc [.r (.v (.int .i64 0)), .r (.v (.int .i64 0)), .n 2]⟩] [1, 2, 3])
  (.seq (.reg none [⟨(some 4), none, .fa 0 (.t 1)⟩,
     ⟨(some 5), none, .ld false 1 (.t 4)⟩,
     ⟨(some 6), none, .fa 0 (.t 3)⟩,
     ⟨none, none, .st 1 (.t 6) (.t 5)⟩] [1, 2, 3])
  (.seq (.reg none [⟨(some 7), none, .fa 1 (.t 1)⟩,
     ⟨(some 8), none, .ld false 1 (.t 7)⟩,
     ⟨(some 9), none, .fa 1 (.t 3)⟩,
     ⟨none, none, .st 1 (.t 9) (.t 8)⟩] [1, 2, 3])
  (.seq (.reg none [⟨(some 10), none, .fa 2 (.t 1)⟩,
     ⟨(some 11), none, .ld false 1 (.t 10)⟩,
     ⟨(some 12), none, .call 80 true [(.t 11)]⟩,
     ⟨(some 13), none, .fa 2 (.t 3)⟩,
     ⟨none, none, .st 1 (.t 13) (.t 12)⟩] [2, 3])
  (.seq (.reg none [⟨(some 14), none, .ld true 3 (.t 3)⟩,
     ⟨none, none, .st 3 (.t 2) (.t 14)⟩] [2])
  (.ret))))))
def rv114 : List RV := [.c 2 true 3]
open Go.Proofs Go.IntWalk
set_option linter.unusedVariables false
set_option maxRecDepth 100000
set_option maxHeartbeats 4000000
def L_toChute (g : G) (t : TE) (a0 : Chute) : Option Chute :=
  cl (L_toItemS g t a0.Held) fun x1 =>
  some (Chute.mk a0.Cell a0.Room x1)
theorem fit114 : codeFit Try.prog Try.f114.ntmps (Try.f114.body.getD .skip) ir114 = true := by kernel_rfl
theorem c_L_toChute {g : G} {t : TE} {a0 : Chute} {r : Chute} (hg : g = G.real) (ht : t = TE.real) (h : L_toChute g t a0 = some r) : Fn Try.prog 114 [.g (Chute.rs t a0)] (.g (Chute.ds t r)) := by
  obtain ⟨X, hX⟩ := hide (.g (Chute.ds t r) : X)
  rw [← hX]
  refine fn_of (rvs := rv114) (j := ir114) Try.func114 rfl fit114 (Nat.le_of_ble_eq_true rfl) (by kernel_rfl) prog_mixed ?_
  intro g2 F hg2 hF
  obtain rfl : g2 = g := hg2.unique.trans hg.symm
  clear hg2
  obtain ⟨wrap, lt, le, eq, quo, rem, band, bor, bxor, shl, shr, nat, int, add, sub, mul, cat, seq, slt, sub3, byte, llen, nadd, nsub, dlen, dapp, dset, drep, rd, rda, up, rsub, dsub, all, sle, slen, hasI, putI, hasS, putS, imin, imax, fzc⟩ := g2
  obtain ⟨r_Item, d_Item, r_Chute, d_Chute, r_Inlet, d_Inlet, r_I64, d_I64, r_U8, d_U8, d_InletF⟩ := t
  obtain ⟨a0_Cell, a0_Room, a0_Held⟩ := a0
  unfold L_toChute at h
  try dsimp only at h
  cbv
  obtain ⟨x1, hx1, h⟩ := of_cl h
  try dsimp only at h
  refine ACall.mk _ _ rfl (hF _ _ _ (c_L_toItemS hg ht hx1)) (.inl rfl) (Nat.le_of_ble_eq_true rfl) ?_
  cbv
  obtain rfl := Option.some.inj h
  exact ARet.mk ⟨rfl, (dlen_Item hg ht _)⟩ hX.symm
end Go.Vs
namespace Go.Vs
set_option maxRecDepth 100000
def ir81 : J :=
  .seq (.reg none [⟨(some 2), none, .mv (.k (.c (.n 3)))⟩] [0])
  (.seq (.reg none [⟨(some 5), none, .mv (.t 0)⟩,
     ⟨(some 6), none, .len false (.t 5)⟩,
     ⟨(some 7), none, .mk 3 40 [.r (.v (.int .i64 0)), .r (.v (.int .i64 0)), .n 2] (.t 6)⟩,
     ⟨(some 3), none, .mv (.t 7)⟩] [0, 3])
  (.seq (.seq (.reg none [⟨(some 4), none, .mv (.k (V.i 0))⟩] [0, 3, 4])
   (.bl 0 (.seq (.seq (.reg none [⟨(some 8), none, .mv (.t 4)⟩,
        ⟨(some 9), none, .mv (.t 0)⟩,
        ⟨(some 10), none, .len false (.t 9)⟩,
        ⟨(some 11), none, .bin .lss .i (.t 8) (.t 10)⟩] [0, 3, 4, 11])
     (.cond (.t 11)
      (.skip)
      (.exit 0)))
    (.seq (.block 1 (.reg none [⟨(some 14), none, .mv (.t 3)⟩,
        ⟨(some 15), none, .mv (.t 4)⟩,
        ⟨(some 16), none, .mv (.t 0)⟩,
        ⟨(some 17), none, .mv (.t 4)⟩,
        ⟨(some 18), none, .ia 3 (.t 16) (.t 17)⟩,
        ⟨(some 19), none, .ld true 3 (.t 18)⟩,
        ⟨(some 20), none, .call 114 true [(.t 19)]⟩,
        ⟨(some 21), none, .ia 3 (.t 14) (.t 15)⟩,
        ⟨none, none, .st 3 (.t 21) (.t 20)⟩] [0, 3, 4]))
    (.reg none [⟨(some 12), none, .mv (.t 4)⟩,
      ⟨(some 13), none, .bin .add .i (.t 12) (.k (V.i 1))⟩,
      ⟨(some 4), none, .mv (.t 13)⟩] [0, 3, 4])))))
  (.seq (.reg none [⟨(some 22), none, .mv (.t 3)⟩,
     ⟨(some 2), none, .mv (.t 22)⟩] [2])
  (.ret))))
def rv81 : List RV := [.t 2]
open Go.Proofs Go.IntWalk
set_option linter.unusedVariables false
set_option maxRecDepth 100000
set_option maxHeartbeats 4000000
def L_toChuteS_l1 (g : G) (t : TE) : List Chute → Int → List Chute → Option (List Chute)
  | [], v1, w1 =>
    some w1
  | z1 :: ls1, v1, w1 =>
    cl (L_toChute g t z1) fun x1 =>
    gd (((0 : Int) ≤ v1 ∧ v1 < (((g.dlen (t.d_Chute w1)) : Nat) : Int))) <|
    gt w1 (g.nat v1) fun x2 =>
    lP (List.set w1 (g.nat v1) (Chute.mk x1.Cell x1.Room x1.Held)) fun (l2 : List Chute) =>
    L_toChuteS_l1 g t ls1 (g.wrap .i64 (g.add v1 1)) l2
def L_toChuteS (g : G) (t : TE) (a0 : List Chute) : Option (List Chute) :=
  gd (((0 : Int) ≤ (g.llen (t.r_Chute a0)) ∧ 40 * (g.llen (t.r_Chute a0)) ≤ 70368744177664 ∧ (g.llen (t.r_Chute a0)) ≤ 4611686018427387904)) <|
  lP (List.replicate (g.nat (g.llen (t.r_Chute a0))) (Chute.mk 0 0 [])) fun (l1 : List Chute) =>
  cl (L_toChuteS_l1 g t a0 0 l1) fun y1 =>
  some y1
theorem fit81 : codeFit Try.prog Try.f81.ntmps (Try.f81.body.getD .skip) ir81 = true := by kernel_rfl
theorem c_L_toChuteS {g : G} {t : TE} {a0 : List Chute} {r : List Chute} (hg : g = G.real) (ht : t = TE.real) (h : L_toChuteS g t a0 = some r) : Fn Try.prog 81 [.c (.s 3 (t.r_Chute a0))] (.c (.o 3 (t.d_Chute r))) := by
  obtain ⟨X, hX⟩ := hide (.c (.o 3 (t.d_Chute r)) : X)
  rw [← hX]
  refine fn_of (rvs := rv81) (j := ir81) Try.func81 rfl fit81 (Nat.le_of_ble_eq_true rfl) (by kernel_rfl) prog_mixed ?_
  intro g2 F hg2 hF
  obtain rfl : g2 = g := hg2.unique.trans hg.symm
  clear hg2
  obtain ⟨wrap, lt, le, eq, quo, rem, band, bor, bxor, shl, shr, nat, int, add, sub, mul, cat, seq, slt, sub3, byte, llen, nadd, nsub, dlen, dapp, dset, drep, rd, rda, up, rsub, dsub, all, sle, slen, hasI, putI, hasS, putS, imin, imax, fzc⟩ := g2
  obtain ⟨r_Item, d_Item, r_Chute, d_Chute, r_Inlet, d_Inlet, r_I64, d_I64, r_U8, d_U8, d_InletF⟩ := t
  have hnil_Item : d_Item [] = [] := d_nil_Item ht
  have hnil_Chute : d_Chute [] = [] := d_nil_Chute ht
  have hnil_Inlet : d_Inlet [] = [] := d_nil_Inlet ht
  have hnil_I64 : d_I64 [] = [] := d_nil_I64 ht
  have hnil_U8 : d_U8 [] = [] := d_nil_U8 ht
  unfold L_toChuteS at h
  try dsimp only at h
  cbv
  obtain ⟨hc2, h⟩ := of_gd h
  refine AStep.mk (mk_ok hc2) ?_
  cbv
  obtain ⟨l1, hl1, h⟩ := of_lP h
  try dsimp only at h
  refine ANew.mk (d_Chute l1) (dlen (d_Chute l1)) (by rw [← hl1]; have e := drep_Chute hg ht (llen (r_Chute a0)) (Chute.mk 0 0 []); dsimp only [Chute.ds] at e; (try simp only [hnil_Item, hnil_Chute, hnil_Inlet, hnil_I64, hnil_U8] at e); exact e) (by rw [← hl1]; exact drepn_Chute hg ht _ (Chute.mk 0 0 [])) ?_
  cbv
  obtain ⟨o1, ho1, h⟩ := of_cl h
  try dsimp only at h
  try rw [hg] at ho1
  try rw [ht] at ho1
  refine ABL.mk { p : Nat × Int × List Chute // p.1 ≤ a0.length ∧ p.2.1 = ((p.1 : Nat) : Int) ∧ L_toChuteS_l1 G.real TE.real (List.drop p.1 a0) p.2.1 p.2.2 = some o1 } (fun ⟨⟨k1, v1, w1⟩, _⟩ => ({ sl := [(0, .c (.r (.s 3 (r_Chute a0)))), (3, .c (.f 0 3 0 (dlen (d_Chute w1)))), (4, .c (.r (.v (.int .i64 v1))))], tab := [(0, some (.arr 3 (d_Chute w1)))] } : St)) 1 (fun p => a0.length - p.1.1) ⟨(0, 0, l1), Nat.zero_le _, rfl, ho1⟩ (List Chute) (fun y1 => ({ sl := [(3, .c (.f 0 3 0 (dlen (d_Chute y1))))], tab := [(0, some (.arr 3 (d_Chute y1)))] } : St)) 1 (fun y => o1 = y) ?_ ?_ ?_
  · refine Wk.of [(0, some 48)] rfl rfl ?_ ?_
    · cbv
      all_goals exact ⟨⟨_, rfl, rfl⟩, ⟨_, rfl, rfl⟩, ⟨_, rfl, rfl⟩, trivial⟩
    · cbv
      all_goals exact ⟨⟨_, rfl, rfl⟩, trivial⟩
  · rintro ⟨⟨k1, v1, w1⟩, hk1, hi1, h_1⟩ hq1
    have hm1 := (hq1.1 0 _ _ rfl)
    try dsimp only at hk1 hi1 h_1
    clear hq1
    cbv
    by_cases hc1_ : k1 < a0.length
    · have hb1 : lt v1 (llen (r_Chute a0)) = true := ltL_true_Chute hg ht hi1 hc1_
      have hs1 := stepL_Chute hg ht hi1 hc1_ hm1
      obtain ⟨z1, hz1⟩ := some_of_lt hc1_
      rw [drop_of_some hz1] at h_1
      rw [L_toChuteS_l1] at h_1
      obtain ⟨z1_Cell, z1_Room, z1_Held⟩ := z1
      try rw [← hg] at h_1
      try rw [← ht] at h_1
      try dsimp only at h_1
      rw [hb1]
      cbv
      refine AStep.mk (nn_L hi1) ?_
      cbv
      refine AGet.mk _ (r_getL_Chute hg ht hi1 hz1) ?_
      cbv
      obtain ⟨x1, hx1, h_1⟩ := of_cl h_1
      obtain ⟨x1_Cell, x1_Room, x1_Held⟩ := x1
      try dsimp only at h_1
      refine ACall.mk _ _ rfl (hF _ _ _ (c_L_toChute hg ht hx1)) (.inl rfl) (Nat.le_of_ble_eq_true rfl) ?_
      cbv
      obtain ⟨hc1, h_1⟩ := of_gd h_1
      refine AStep.mk hc1 ?_
      cbv
      refine AStep.mk ⟨rfl, (dlen_Item hg ht _)⟩ ?_
      cbv
      obtain ⟨x2, hx2, h_1⟩ := of_gt h_1
      obtain ⟨x2_Cell, x2_Room, x2_Held⟩ := x2
      try dsimp only at h_1
      refine AGet.mk _ (d_get_Chute hg ht hx2) ?_
      cbv
      obtain ⟨l2, hl2, h_1⟩ := of_lP h_1
      try dsimp only at h_1
      refine ANew.mk (d_Chute l2) _ (by rw [← hl2]; exact dset_Chute hg ht _ _ (Chute.mk x1_Cell x1_Room x1_Held)) rfl ?_
      have hnl2 : (dlen (d_Chute w1)) = (d_Chute l2).length := (by rw [← hl2, dsetl_Chute ht]; exact (dlen_Chute hg ht _))
      cbv
      try rw [hg] at h_1
      try rw [ht] at h_1
      refine ⟨⟨(k1 + 1, (wrap .i64 (add v1 1)), l2), hc1_, hs1, h_1⟩, Wk.of [(0, some 0)] rfl rfl ?_ ?_, meas_L hc1_⟩
      · cbv
        all_goals try rw [show (dlen (d_Chute w1)) = (dlen (d_Chute l2)) from (hnl2).trans (dlen_Chute hg ht _).symm]
        all_goals exact ⟨⟨_, rfl, rfl⟩, ⟨_, rfl, rfl⟩, ⟨_, rfl, rfl⟩, trivial⟩
      · cbv
        all_goals try rw [show (dlen (d_Chute w1)) = (dlen (d_Chute l2)) from (hnl2).trans (dlen_Chute hg ht _).symm]
        all_goals exact ⟨⟨_, rfl, rfl⟩, trivial⟩
    · have hb1 : lt v1 (llen (r_Chute a0)) = false := ltL_false_Chute hg ht hi1 hc1_
      rw [List.drop_of_length_le (Nat.le_of_not_lt hc1_)] at h_1
      rw [L_toChuteS_l1] at h_1
      try rw [← hg] at h_1
      try rw [← ht] at h_1
      try dsimp only at h_1
      rw [hb1]
      cbv
      refine ⟨w1, Wk.of [(0, some 0)] rfl rfl ?_ ?_, (Option.some.inj h_1).symm⟩
      · cbv
        all_goals exact ⟨⟨_, rfl, rfl⟩, trivial⟩
      · cbv
        all_goals exact ⟨⟨_, rfl, rfl⟩, trivial⟩
  · rintro y1 hy1
    replace hy1 := hy1.symm
    subst hy1
    try dsimp only [lr, lrL, lrp, lrpL] at h
    cbv
    obtain rfl := Option.some.inj h
    exact ARet.mk ⟨rfl, (dlen_Chute hg ht _)⟩ hX.symm
end Go.Vs
namespace Go.Vs
set_option maxRecDepth 100000
def ir115 : J :=
  .seq (.reg none [⟨(some 1), none, .box (.t 0)⟩,
     ⟨(some 2), none, .alloc [.r (.v (.int .i64 0)), .n 2]⟩] [1, 2])
  (.seq (.reg none [⟨(some 3), none, .alloc [.r (.v (.int .i64 0)), .n 2]⟩] [1, 2, 3])
  (.seq (.reg none [⟨(some 4), none, .fa 0 (.t 1)⟩,
     ⟨(some 5), none, .ld false 1 (.t 4)⟩,
     ⟨(some 6), none, .fa 0 (.t 3)⟩,
     ⟨none, none, .st 1 (.t 6) (.t 5)⟩] [1, 2, 3])
  (.seq (.reg none [⟨(some 7), none, .fa 1 (.t 1)⟩,
     ⟨(some 8), none, .ld false 1 (.t 7)⟩,
     ⟨(some 9), none, .call 80 true [(.t 8)]⟩,
     ⟨(some 10), none, .fa 1 (.t 3)⟩,
     ⟨none, none, .st 1 (.t 10) (.t 9)⟩] [2, 3])
  (.seq (.reg none [⟨(some 11), none, .ld true 2 (.t 3)⟩,
     ⟨none, none, .st 2 (.t 2) (.t 11)⟩] [2])
  (.ret)))))
def rv115 : List RV := [.c 2 true 2]
open Go.Proofs Go.IntWalk
set_option linter.unusedVariables false
set_option maxRecDepth 100000
set_option maxHeartbeats 4000000
def L_toInlet (g : G) (t : TE) (a0 : Inlet) : Option Inlet :=
  cl (L_toItemS g t a0.Wait) fun x1 =>
  some (Inlet.mk a0.Cell x1)
theorem fit115 : codeFit Try.prog Try.f115.ntmps (Try.f115.body.getD .skip) ir115 = true := by kernel_rfl
theorem c_L_toInlet {g : G} {t : TE} {a0 : Inlet} {r : Inlet} (hg : g = G.real) (ht : t = TE.real) (h : L_toInlet g t a0 = some r) : Fn Try.prog 115 [.g (Inlet.rs t a0)] (.g (Inlet.ds t r)) := by
  obtain ⟨X, hX⟩ := hide (.g (Inlet.ds t r) : X)
  rw [← hX]
  refine fn_of (rvs := rv115) (j := ir115) Try.func115 rfl fit115 (Nat.le_of_ble_eq_true rfl) (by kernel_rfl) prog_mixed ?_
  intro g2 F hg2 hF
  obtain rfl : g2 = g := hg2.unique.trans hg.symm
  clear hg2
  obtain ⟨wrap, lt, le, eq, quo, rem, band, bor, bxor, shl, shr, nat, int, add, sub, mul, cat, seq, slt, sub3, byte, llen, nadd, nsub, dlen, dapp, dset, drep, rd, rda, up, rsub, dsub, all, sle, slen, hasI, putI, hasS, putS, imin, imax, fzc⟩ := g2
  obtain ⟨r_Item, d_Item, r_Chute, d_Chute, r_Inlet, d_Inlet, r_I64, d_I64, r_U8, d_U8, d_InletF⟩ := t
  obtain ⟨a0_Cell, a0_Wait⟩ := a0
  unfold L_toInlet at h
  try dsimp only at h
  cbv
  obtain ⟨x1, hx1, h⟩ := of_cl h
  try dsimp only at h
  refine ACall.mk _ _ rfl (hF _ _ _ (c_L_toItemS hg ht hx1)) (.inl rfl) (Nat.le_of_ble_eq_true rfl) ?_
  cbv
  obtain rfl := Option.some.inj h
  exact ARet.mk ⟨rfl, (dlen_Item hg ht _)⟩ hX.symm
end Go.Vs
namespace Go.Vs
set_option maxRecDepth 100000
def ir82 : J :=
  .seq (.reg none [⟨(some 2), none, .mv (.k (.c (.n 2)))⟩] [0])
  (.seq (.reg none [⟨(some 5), none, .mv (.t 0)⟩,
     ⟨(some 6), none, .len false (.t 5)⟩,
     ⟨(some 7), none, .mk 2 32 [.r (.v (.int .i64 0)), .n 2] (.t 6)⟩,
     ⟨(some 3), none, .mv (.t 7)⟩] [0, 3])
  (.seq (.seq (.reg none [⟨(some 4), none, .mv (.k (V.i 0))⟩] [0, 3, 4])
   (.bl 0 (.seq (.seq (.reg none [⟨(some 8), none, .mv (.t 4)⟩,
        ⟨(some 9), none, .mv (.t 0)⟩,
        ⟨(some 10), none, .len false (.t 9)⟩,
        ⟨(some 11), none, .bin .lss .i (.t 8) (.t 10)⟩] [0, 3, 4, 11])
     (.cond (.t 11)
      (.skip)
      (.exit 0)))
    (.seq (.block 1 (.reg none [⟨(some 14), none, .mv (.t 3)⟩,
        ⟨(some 15), none, .mv (.t 4)⟩,
        ⟨(some 16), none, .mv (.t 0)⟩,
        ⟨(some 17), none, .mv (.t 4)⟩,
        ⟨(some 18), none, .ia 2 (.t 16) (.t 17)⟩,
        ⟨(some 19), none, .ld true 2 (.t 18)⟩,
        ⟨(some 20), none, .call 115 true [(.t 19)]⟩,
        ⟨(some 21), none, .ia 2 (.t 14) (.t 15)⟩,
        ⟨none, none, .st 2 (.t 21) (.t 20)⟩] [0, 3, 4]))
    (.reg none [⟨(some 12), none, .mv (.t 4)⟩,
      ⟨(some 13), none, .bin .add .i (.t 12) (.k (V.i 1))⟩,
      ⟨(some 4), none, .mv (.t 13)⟩] [0, 3, 4])))))
  (.seq (.reg none [⟨(some 22), none, .mv (.t 3)⟩,
     ⟨(some 2), none, .mv (.t 22)⟩] [2])
  (.ret))))
def rv82 : List RV := [.t 2]
open Go.Proofs Go.IntWalk
set_option linter.unusedVariables false
set_option maxRecDepth 100000
set_option maxHeartbeats 4000000
def L_toInletS_l1 (g : G) (t : TE) : List Inlet → Int → List Inlet → Option (List Inlet)
  | [], v1, w1 =>
    some w1
  | z1 :: ls1, v1, w1 =>
    cl (L_toInlet g t z1) fun x1 =>
    gd (((0 : Int) ≤ v1 ∧ v1 < (((g.dlen (t.d_Inlet w1)) : Nat) : Int))) <|
    gt w1 (g.nat v1) fun x2 =>
    lP (List.set w1 (g.nat v1) (Inlet.mk x1.Cell x1.Wait)) fun (l2 : List Inlet) =>
    L_toInletS_l1 g t ls1 (g.wrap .i64 (g.add v1 1)) l2
def L_toInletS (g : G) (t : TE) (a0 : List Inlet) : Option (List Inlet) :=
  gd (((0 : Int) ≤ (g.llen (t.r_Inlet a0)) ∧ 32 * (g.llen (t.r_Inlet a0)) ≤ 70368744177664 ∧ (g.llen (t.r_Inlet a0)) ≤ 4611686018427387904)) <|
  lP (List.replicate (g.nat (g.llen (t.r_Inlet a0))) (Inlet.mk 0 [])) fun (l1 : List Inlet) =>
  cl (L_toInletS_l1 g t a0 0 l1) fun y1 =>
  some y1
theorem fit82 : codeFit Try.prog Try.f82.ntmps (Try.f82.body.getD .skip) ir82 = true := by kernel_rfl
theorem c_L_toInletS {g : G} {t : TE} {a0 : List Inlet} {r : List Inlet} (hg : g = G.real) (ht : t = TE.real) (h : L_toInletS g t a0 = some r) : Fn Try.prog 82 [.c (.s 2 (t.r_Inlet a0))] (.c (.o 2 (t.d_Inlet r))) := by
  obtain ⟨X, hX⟩ := hide (.c (.o 2 (t.d_Inlet r)) : X)
  rw [← hX]
  refine fn_of (rvs := rv82) (j := ir82) Try.func82 rfl fit82 (Nat.le_of_ble_eq_true rfl) (by kernel_rfl) prog_mixed ?_
  intro g2 F hg2 hF
  obtain rfl : g2 = g := hg2.unique.trans hg.symm
  clear hg2
  obtain ⟨wrap, lt, le, eq, quo, rem, band, bor, bxor, shl, shr, nat, int, add, sub, mul, cat, seq, slt, sub3, byte, llen, nadd, nsub, dlen, dapp, dset, drep, rd, rda, up, rsub, dsub, all, sle, slen, hasI, putI, hasS, putS, imin, imax, fzc⟩ := g2
  obtain ⟨r_Item, d_Item, r_Chute, d_Chute, r_Inlet, d_Inlet, r_I64, d_I64, r_U8, d_U8, d_InletF⟩ := t
  have hnil_Item : d_Item [] = [] := d_nil_Item ht
  have hnil_Chute : d_Chute [] = [] := d_nil_Chute ht
  have hnil_Inlet : d_Inlet [] = [] := d_nil_Inlet ht
  have hnil_I64 : d_I64 [] = [] := d_nil_I64 ht
  have hnil_U8 : d_U8 [] = [] := d_nil_U8 ht
  unfold L_toInletS at h
  try dsimp only at h
  cbv
  obtain ⟨hc2, h⟩ := of_gd h
  refine AStep.mk (mk_ok hc2) ?_
  cbv
  obtain ⟨l1, hl1, h⟩ := of_lP h
  try dsimp only at h
  refine ANew.mk (d_Inlet l1) (dlen (d_Inlet l1)) (by rw [← hl1]; have e := drep_Inlet hg ht (llen (r_Inlet a0)) (Inlet.mk 0 []); dsimp only [Inlet.ds] at e; (try simp only [hnil_Item, hnil_Chute, hnil_Inlet, hnil_I64, hnil_U8] at e); exact e) (by rw [← hl1]; exact drepn_Inlet hg ht _ (Inlet.mk 0 [])) ?_
  cbv
  obtain ⟨o1, ho1, h⟩ := of_cl h
  try dsimp only at h
  try rw [hg] at ho1
  try rw [ht] at ho1
  refine ABL.mk { p : Nat × Int × List Inlet // p.1 ≤ a0.length ∧ p.2.1 = ((p.1 : Nat) : Int) ∧ L_toInletS_l1 G.real TE.real (List.drop p.1 a0) p.2.1 p.2.2 = some o1 } (fun ⟨⟨k1, v1, w1⟩, _⟩ => ({ sl := [(0, .c (.r (.s 2 (r_Inlet a0)))), (3, .c (.f 0 2 0 (dlen (d_Inlet w1)))), (4, .c (.r (.v (.int .i64 v1))))], tab := [(0, some (.arr 2 (d_Inlet w1)))] } : St)) 1 (fun p => a0.length - p.1.1) ⟨(0, 0, l1), Nat.zero_le _, rfl, ho1⟩ (List Inlet) (fun y1 => ({ sl := [(3, .c (.f 0 2 0 (dlen (d_Inlet y1))))], tab := [(0, some (.arr 2 (d_Inlet y1)))] } : St)) 1 (fun y => o1 = y) ?_ ?_ ?_
  · refine Wk.of [(0, some 48)] rfl rfl ?_ ?_
    · cbv
      all_goals exact ⟨⟨_, rfl, rfl⟩, ⟨_, rfl, rfl⟩, ⟨_, rfl, rfl⟩, trivial⟩
    · cbv
      all_goals exact ⟨⟨_, rfl, rfl⟩, trivial⟩
  · rintro ⟨⟨k1, v1, w1⟩, hk1, hi1, h_1⟩ hq1
    have hm1 := (hq1.1 0 _ _ rfl)
    try dsimp only at hk1 hi1 h_1
    clear hq1
    cbv
    by_cases hc1_ : k1 < a0.length
    · have hb1 : lt v1 (llen (r_Inlet a0)) = true := ltL_true_Inlet hg ht hi1 hc1_
      have hs1 := stepL_Inlet hg ht hi1 hc1_ hm1
      obtain ⟨z1, hz1⟩ := some_of_lt hc1_
      rw [drop_of_some hz1] at h_1
      rw [L_toInletS_l1] at h_1
      obtain ⟨z1_Cell, z1_Wait⟩ := z1
      try rw [← hg] at h_1
      try rw [← ht] at h_1
      try dsimp only at h_1
      rw [hb1]
      cbv
      refine AStep.mk (nn_L hi1) ?_
      cbv
      refine AGet.mk _ (r_getL_Inlet hg ht hi1 hz1) ?_
      cbv
      obtain ⟨x1, hx1, h_1⟩ := of_cl h_1
      obtain ⟨x1_Cell, x1_Wait⟩ := x1
      try dsimp only at h_1
      refine ACall.mk _ _ rfl (hF _ _ _ (c_L_toInlet hg ht hx1)) (.inl rfl) (Nat.le_of_ble_eq_true rfl) ?_
      cbv
      obtain ⟨hc1, h_1⟩ := of_gd h_1
      refine AStep.mk hc1 ?_
      cbv
      refine AStep.mk ⟨rfl, (dlen_Item hg ht _)⟩ ?_
      cbv
      obtain ⟨x2, hx2, h_1⟩ := of_gt h_1
      obtain ⟨x2_Cell, x2_Wait⟩ := x2
      try dsimp only at h_1
      refine AGet.mk _ (d_get_Inlet hg ht hx2) ?_
      cbv
      obtain ⟨l2, hl2, h_1⟩ := of_lP h_1
      try dsimp only at h_1
      refine ANew.mk (d_Inlet l2) _ (by rw [← hl2]; exact dset_Inlet hg ht _ _ (Inlet.mk x1_Cell x1_Wait)) rfl ?_
      have hnl2 : (dlen (d_Inlet w1)) = (d_Inlet l2).length := (by rw [← hl2, dsetl_Inlet ht]; exact (dlen_Inlet hg ht _))
      cbv
      try rw [hg] at h_1
      try rw [ht] at h_1
      refine ⟨⟨(k1 + 1, (wrap .i64 (add v1 1)), l2), hc1_, hs1, h_1⟩, Wk.of [(0, some 0)] rfl rfl ?_ ?_, meas_L hc1_⟩
      · cbv
        all_goals try rw [show (dlen (d_Inlet w1)) = (dlen (d_Inlet l2)) from (hnl2).trans (dlen_Inlet hg ht _).symm]
        all_goals exact ⟨⟨_, rfl, rfl⟩, ⟨_, rfl, rfl⟩, ⟨_, rfl, rfl⟩, trivial⟩
      · cbv
        all_goals try rw [show (dlen (d_Inlet w1)) = (dlen (d_Inlet l2)) from (hnl2).trans (dlen_Inlet hg ht _).symm]
        all_goals exact ⟨⟨_, rfl, rfl⟩, trivial⟩
    · have hb1 : lt v1 (llen (r_Inlet a0)) = false := ltL_false_Inlet hg ht hi1 hc1_
      rw [List.drop_of_length_le (Nat.le_of_not_lt hc1_)] at h_1
      rw [L_toInletS_l1] at h_1
      try rw [← hg] at h_1
      try rw [← ht] at h_1
      try dsimp only at h_1
      rw [hb1]
      cbv
      refine ⟨w1, Wk.of [(0, some 0)] rfl rfl ?_ ?_, (Option.some.inj h_1).symm⟩
      · cbv
        all_goals exact ⟨⟨_, rfl, rfl⟩, trivial⟩
      · cbv
        all_goals exact ⟨⟨_, rfl, rfl⟩, trivial⟩
  · rintro y1 hy1
    replace hy1 := hy1.symm
    subst hy1
    try dsimp only [lr, lrL, lrp, lrpL] at h
    cbv
    obtain rfl := Option.some.inj h
    exact ARet.mk ⟨rfl, (dlen_Inlet hg ht _)⟩ hX.symm
end Go.Vs
namespace Go.Vs
set_option maxRecDepth 100000
def ir26 : J :=
  .seq (.reg none [⟨(some 1), none, .box (.t 0)⟩,
     ⟨(some 2), none, .alloc [.n 2, .n 3, .n 2, .n 1, .r (.v (.int .i64 0))]⟩] [1, 2])
  (.seq (.reg none [⟨(some 3), none, .alloc [.n 2, .n 3, .n 2, .n 1, .r (.v (.int .i64 0))]⟩] [1, 2, 3])
  (.seq (.reg none [⟨(some 4), none, .fa 0 (.t 1)⟩,
     ⟨(some 5), none, .ld false 1 (.t 4)⟩,
     ⟨(some 6), none, .call 80 true [(.t 5)]⟩,
     ⟨(some 7), none, .fa 0 (.t 3)⟩,
     ⟨none, none, .st 1 (.t 7) (.t 6)⟩] [1, 2, 3])
  (.seq (.reg none [⟨(some 8), none, .fa 1 (.t 1)⟩,
     ⟨(some 9), none, .ld false 1 (.t 8)⟩,
     ⟨(some 10), none, .call 81 true [(.t 9)]⟩,
     ⟨(some 11), none, .fa 1 (.t 3)⟩,
     ⟨none, none, .st 1 (.t 11) (.t 10)⟩] [1, 2, 3])
  (.seq (.reg none [⟨(some 12), none, .fa 2 (.t 1)⟩,
     ⟨(some 13), none, .ld false 1 (.t 12)⟩,
     ⟨(some 14), none, .call 82 true [(.t 13)]⟩,
     ⟨(some 15), none, .fa 2 (.t 3)⟩,
     ⟨none, none, .st 1 (.t 15) (.t 14)⟩] [1, 2, 3])
  (.seq (.reg none [⟨(some 16), none, .fa 3 (.t 1)⟩,
     ⟨(some 17), none, .ld false 1 (.t 16)⟩,
     ⟨(some 18), none, .call 45 true [(.t 17)]⟩,
     ⟨(some 19), none, .fa 3 (.t 3)⟩,
     ⟨none, none, .st 1 (.t 19) (.t 18)⟩] [1, 2, 3])
  (.seq (.reg none [⟨(some 20), none, .fa 4 (.t 1)⟩,
     ⟨(some 21), none, .ld false 1 (.t 20)⟩,
     ⟨(some 22), none, .fa 4 (.t 3)⟩,
     ⟨none, none, .st 1 (.t 22) (.t 21)⟩] [2, 3])
  (.seq (.reg none [⟨(some 23), none, .ld true 5 (.t 3)⟩,
     ⟨none, none, .st 5 (.t 2) (.t 23)⟩] [2])
  (.ret))))))))
def rv26 : List RV := [.c 2 true 5]
open Go.Proofs Go.IntWalk
set_option linter.unusedVariables false
set_option maxRecDepth 100000
set_option maxHeartbeats 4000000
def L_toCentre (g : G) (t : TE) (a0 : Centre) : Option Centre :=
  cl (L_toItemS g t a0.Belt) fun x1 =>
  cl (L_toChuteS g t a0.Chutes) fun x2 =>
  cl (L_toInletS g t a0.Inlets) fun x3 =>
  cl (L_toIntS g t a0.Plan) fun x4 =>
  some (Centre.mk x1 x2 x3 x4 a0.Now)
theorem fit26 : codeFit Try.prog Try.f26.ntmps (Try.f26.body.getD .skip) ir26 = true := by kernel_rfl
theorem c_L_toCentre {g : G} {t : TE} {a0 : Centre} {r : Centre} (hg : g = G.real) (ht : t = TE.real) (h : L_toCentre g t a0 = some r) : Fn Try.prog 26 [.g (Centre.rs t a0)] (.g (Centre.ds t r)) := by
  obtain ⟨X, hX⟩ := hide (.g (Centre.ds t r) : X)
  rw [← hX]
  refine fn_of (rvs := rv26) (j := ir26) Try.func26 rfl fit26 (Nat.le_of_ble_eq_true rfl) (by kernel_rfl) prog_mixed ?_
  intro g2 F hg2 hF
  obtain rfl : g2 = g := hg2.unique.trans hg.symm
  clear hg2
  obtain ⟨wrap, lt, le, eq, quo, rem, band, bor, bxor, shl, shr, nat, int, add, sub, mul, cat, seq, slt, sub3, byte, llen, nadd, nsub, dlen, dapp, dset, drep, rd, rda, up, rsub, dsub, all, sle, slen, hasI, putI, hasS, putS, imin, imax, fzc⟩ := g2
  obtain ⟨r_Item, d_Item, r_Chute, d_Chute, r_Inlet, d_Inlet, r_I64, d_I64, r_U8, d_U8, d_InletF⟩ := t
  obtain ⟨a0_Belt, a0_Chutes, a0_Inlets, a0_Plan, a0_Now⟩ := a0
  unfold L_toCentre at h
  try dsimp only at h
  cbv
  obtain ⟨x1, hx1, h⟩ := of_cl h
  try dsimp only at h
  refine ACall.mk _ _ rfl (hF _ _ _ (c_L_toItemS hg ht hx1)) (.inl rfl) (Nat.le_of_ble_eq_true rfl) ?_
  cbv
  obtain ⟨x2, hx2, h⟩ := of_cl h
  try dsimp only at h
  refine ACall.mk _ _ rfl (hF _ _ _ (c_L_toChuteS hg ht hx2)) (.inl rfl) (Nat.le_of_ble_eq_true rfl) ?_
  cbv
  obtain ⟨x3, hx3, h⟩ := of_cl h
  try dsimp only at h
  refine ACall.mk _ _ rfl (hF _ _ _ (c_L_toInletS hg ht hx3)) (.inl rfl) (Nat.le_of_ble_eq_true rfl) ?_
  cbv
  obtain ⟨x4, hx4, h⟩ := of_cl h
  try dsimp only at h
  refine ACall.mk _ _ rfl (hF _ _ _ (c_L_toIntS hg ht hx4)) (.inl rfl) (Nat.le_of_ble_eq_true rfl) ?_
  cbv
  obtain rfl := Option.some.inj h
  exact ARet.mk ⟨⟨rfl, (dlen_Item hg ht _)⟩, ⟨⟨rfl, (dlen_Chute hg ht _)⟩, ⟨⟨rfl, (dlen_Inlet hg ht _)⟩, ⟨rfl, (dlen_I64 hg ht _)⟩⟩⟩⟩ hX.symm
end Go.Vs
namespace Go.Vs
set_option maxRecDepth 100000
def ir47 : J :=
  .seq (.reg none [⟨(some 4), none, .mv (.k (V.b false))⟩] [0, 1])
  (.seq (.seq (.reg none [⟨(some 6), none, .mv (.t 0)⟩,
      ⟨(some 7), none, .len false (.t 6)⟩,
      ⟨(some 8), none, .mv (.t 1)⟩,
      ⟨(some 9), none, .len false (.t 8)⟩,
      ⟨(some 10), none, .bin .neq .i (.t 7) (.t 9)⟩] [0, 1, 10])
   (.cond (.t 10)
    (.seq (.reg none [⟨(some 4), none, .mv (.k (V.b false))⟩] [4])
     (.ret))
    (.skip)))
  (.seq (.seq (.reg none [⟨(some 5), none, .mv (.k (V.i 0))⟩] [0, 1, 5])
   (.bl 0 (.seq (.seq (.reg none [⟨(some 11), none, .mv (.t 5)⟩,
        ⟨(some 12), none, .mv (.t 0)⟩,
        ⟨(some 13), none, .len false (.t 12)⟩,
        ⟨(some 14), none, .bin .lss .i (.t 11) (.t 13)⟩] [0, 1, 5, 14])
     (.cond (.t 14)
      (.skip)
      (.exit 0)))
    (.seq (.block 1 (.seq (.reg (some [[], [], [0, 1], [0, 1, 2], [], [], [4, 5], [4, 5, 6], [0, 1, 2, 3, 4, 5, 6, 7]]) [⟨(some 17), none, .mv (.t 0)⟩,
         ⟨(some 18), none, .mv (.t 5)⟩,
         ⟨(some 19), none, .ia 1 (.t 17) (.t 18)⟩,
         ⟨(some 20), none, .ld false 1 (.t 19)⟩,
         ⟨(some 21), none, .mv (.t 1)⟩,
         ⟨(some 22), none, .mv (.t 5)⟩,
         ⟨(some 23), none, .ia 1 (.t 21) (.t 22)⟩,
         ⟨(some 24), none, .ld false 1 (.t 23)⟩,
         ⟨(some 25), none, .bin .neq .i (.t 20) (.t 24)⟩] [0, 1, 5, 25])
      (.cond (.t 25)
       (.seq (.reg none [⟨(some 4), none, .mv (.k (V.b false))⟩] [4])
        (.ret))
       (.skip))))
    (.reg none [⟨(some 15), none, .mv (.t 5)⟩,
      ⟨(some 16), none, .bin .add .i (.t 15) (.k (V.i 1))⟩,
      ⟨(some 5), none, .mv (.t 16)⟩] [0, 1, 5])))))
  (.seq (.reg none [⟨(some 4), none, .mv (.k (V.b true))⟩] [4])
  (.ret))))
def rv47 : List RV := [.t 4]
open Go.Proofs Go.IntWalk
set_option linter.unusedVariables false
set_option maxRecDepth 100000
set_option maxHeartbeats 4000000
def L_eqIntS_l1 (g : G) (t : TE) (a1 : List Int) : List Int → Int → Option (LR Bool Unit)
  | [], v1 =>
    some (LR.out ())
  | z1 :: ls1, v1 =>
    gt a1 (g.nat v1) fun x1 =>
    br (g.eq z1 x1)
    (
     L_eqIntS_l1 g t a1 ls1 (g.wrap .i64 (g.add v1 1)))
    (
     some (LR.ret false))
def L_eqIntS (g : G) (t : TE) (a0 : List Int) (a1 : List Int) : Option Bool :=
  br (g.eq (g.llen (t.r_I64 a0)) (g.llen (t.r_I64 a1)))
  (
   cl (L_eqIntS_l1 g t a1 a0 0) fun o1 => lr o1 fun y1 =>
   some true)
  (
   some false)
theorem fit47 : codeFit Try.prog Try.f47.ntmps (Try.f47.body.getD .skip) ir47 = true := by kernel_rfl
theorem c_L_eqIntS {g : G} {t : TE} {a0 : List Int} {a1 : List Int} {r : Bool} (hg : g = G.real) (ht : t = TE.real) (h : L_eqIntS g t a0 a1 = some r) : Fn Try.prog 47 [.c (.s 1 (t.r_I64 a0)), .c (.s 1 (t.r_I64 a1))] (.c (.r (.v (.bool r)))) := by
  obtain ⟨X, hX⟩ := hide (.c (.r (.v (.bool r))) : X)
  rw [← hX]
  refine fn_of (rvs := rv47) (j := ir47) Try.func47 rfl fit47 (Nat.le_of_ble_eq_true rfl) (by kernel_rfl) prog_mixed ?_
  intro g2 F hg2 hF
  obtain rfl : g2 = g := hg2.unique.trans hg.symm
  clear hg2
  obtain ⟨wrap, lt, le, eq, quo, rem, band, bor, bxor, shl, shr, nat, int, add, sub, mul, cat, seq, slt, sub3, byte, llen, nadd, nsub, dlen, dapp, dset, drep, rd, rda, up, rsub, dsub, all, sle, slen, hasI, putI, hasS, putS, imin, imax, fzc⟩ := g2
  obtain ⟨r_Item, d_Item, r_Chute, d_Chute, r_Inlet, d_Inlet, r_I64, d_I64, r_U8, d_U8, d_InletF⟩ := t
  unfold L_eqIntS at h
  try dsimp only at h
  cbv
  cases hb1 : (eq (llen (r_I64 a0)) (llen (r_I64 a1))) with
  | true =>
    rw [br_true hb1] at h
    cbv
    obtain ⟨o1, ho1, h⟩ := of_cl h
    try dsimp only at h
    try rw [hg] at ho1
    try rw [ht] at ho1
    refine ABL.mk { p : Nat × Int // p.1 ≤ a0.length ∧ p.2 = ((p.1 : Nat) : Int) ∧ L_eqIntS_l1 G.real TE.real a1 (List.drop p.1 a0) p.2 = some o1 } (fun ⟨⟨k1, v1⟩, _⟩ => ({ sl := [(0, .c (.r (.s 1 (r_I64 a0)))), (1, .c (.r (.s 1 (r_I64 a1)))), (5, .c (.r (.v (.int .i64 v1))))], tab := [] } : St)) 0 (fun p => a0.length - p.1.1) ⟨(0, 0), Nat.zero_le _, rfl, ho1⟩ (Unit) (fun _ => ({ sl := [], tab := [] } : St)) 0 (fun y => o1 = LR.out y) ?_ ?_ ?_
    · refine Wk.of [] rfl rfl ?_ ?_
      · cbv
        all_goals exact ⟨⟨_, rfl, rfl⟩, ⟨_, rfl, rfl⟩, ⟨_, rfl, rfl⟩, trivial⟩
      · cbv
        all_goals exact trivial
    · rintro ⟨⟨k1, v1⟩, hk1, hi1, h_1⟩ hq1
      have hm1 := (hq1.1 0 _ _ rfl)
      try dsimp only at hk1 hi1 h_1
      clear hq1
      cbv
      by_cases hc1_ : k1 < a0.length
      · have hb2 : lt v1 (llen (r_I64 a0)) = true := ltL_true_I64 hg ht hi1 hc1_
        have hs1 := stepL_I64 hg ht hi1 hc1_ hm1
        obtain ⟨z1, hz1⟩ := some_of_lt hc1_
        rw [drop_of_some hz1] at h_1
        rw [L_eqIntS_l1] at h_1
        try rw [← hg] at h_1
        try rw [← ht] at h_1
        try dsimp only at h_1
        rw [hb2]
        cbv
        refine AStep.mk (nn_L hi1) ?_
        cbv
        refine AGet.mk _ (r_getL_I64 hg ht hi1 hz1) ?_
        cbv
        refine AStep.mk (nn_L hi1) ?_
        cbv
        obtain ⟨x1, hx1, h_1⟩ := of_gt h_1
        try dsimp only at h_1
        refine AGet.mk _ (r_get_I64 hg ht hx1) ?_
        cbv
        cases hb3 : (eq z1 x1) with
        | true =>
          rw [br_true hb3] at h_1
          cbv
          try rw [hg] at h_1
          try rw [ht] at h_1
          refine ⟨⟨(k1 + 1, (wrap .i64 (add v1 1))), hc1_, hs1, h_1⟩, Wk.of [] rfl rfl ?_ ?_, meas_L hc1_⟩
          · cbv
            all_goals exact ⟨⟨_, rfl, rfl⟩, ⟨_, rfl, rfl⟩, ⟨_, rfl, rfl⟩, trivial⟩
          · cbv
            all_goals exact trivial
        | false =>
          rw [br_false hb3] at h_1
          cbv
          obtain rfl := Option.some.inj h_1
          try dsimp only [lr, lrL, lrp, lrpL] at h
          obtain rfl := Option.some.inj h
          exact ARet.mk trivial hX.symm
      · have hb2 : lt v1 (llen (r_I64 a0)) = false := ltL_false_I64 hg ht hi1 hc1_
        rw [List.drop_of_length_le (Nat.le_of_not_lt hc1_)] at h_1
        rw [L_eqIntS_l1] at h_1
        try rw [← hg] at h_1
        try rw [← ht] at h_1
        try dsimp only at h_1
        rw [hb2]
        cbv
        refine ⟨(), Wk.of [] rfl rfl ?_ ?_, (Option.some.inj h_1).symm⟩
        · cbv
          all_goals exact trivial
        · cbv
          all_goals exact trivial
    · rintro _ hy1
      replace hy1 := hy1.symm
      subst hy1
      try dsimp only [lr, lrL, lrp, lrpL] at h
      cbv
      obtain rfl := Option.some.inj h
      exact ARet.mk trivial hX.symm
  | false =>
    rw [br_false hb1] at h
    cbv
    obtain rfl := Option.some.inj h
    exact ARet.mk trivial hX.symm
end Go.Vs
namespace Go.Vs
set_option maxRecDepth 100000
def ir110 : J :=
  .seq (.reg none [⟨(some 2), none, .box (.t 0)⟩,
     ⟨(some 3), none, .box (.t 1)⟩,
     ⟨(some 4), none, .mv (.k (V.b false))⟩] [2, 3])
  (.seq (.seq (.reg none [⟨(some 5), none, .fa 0 (.t 2)⟩,
      ⟨(some 6), none, .ld false 1 (.t 5)⟩,
      ⟨(some 7), none, .fa 0 (.t 3)⟩,
      ⟨(some 8), none, .ld false 1 (.t 7)⟩,
      ⟨(some 9), none, .bin .neq .i (.t 6) (.t 8)⟩] [2, 3, 9])
   (.cond (.t 9)
    (.seq (.reg none [⟨(some 4), none, .mv (.k (V.b false))⟩] [4])
     (.ret))
    (.skip)))
  (.seq (.seq (.reg none [⟨(some 10), none, .fa 1 (.t 2)⟩,
      ⟨(some 11), none, .ld false 1 (.t 10)⟩,
      ⟨(some 12), none, .fa 1 (.t 3)⟩,
      ⟨(some 13), none, .ld false 1 (.t 12)⟩,
      ⟨(some 14), none, .bin .neq .i (.t 11) (.t 13)⟩] [14])
   (.cond (.t 14)
    (.seq (.reg none [⟨(some 4), none, .mv (.k (V.b false))⟩] [4])
     (.ret))
    (.skip)))
  (.seq (.reg none [⟨(some 4), none, .mv (.k (V.b true))⟩] [4])
  (.ret))))
def rv110 : List RV := [.t 4]
open Go.Proofs Go.IntWalk
set_option linter.unusedVariables false
set_option maxRecDepth 100000
set_option maxHeartbeats 4000000
def L_eqItem (g : G) (t : TE) (a0 : Item) (a1 : Item) : Bool :=
  br (g.eq a0.Id a1.Id)
  (
   br (g.eq a0.Dest a1.Dest)
   (
    true)
   (
    false))
  (
   false)
theorem fit110 : codeFit Try.prog Try.f110.ntmps (Try.f110.body.getD .skip) ir110 = true := by kernel_rfl
theorem c_L_eqItem {g : G} {t : TE} {a0 : Item} {a1 : Item} {r : Bool} (hg : g = G.real) (ht : t = TE.real) (h : L_eqItem g t a0 a1 = r) : Fn Try.prog 110 [.g (Item.rs t a0), .g (Item.rs t a1)] (.c (.r (.v (.bool r)))) := by
  obtain ⟨X, hX⟩ := hide (.c (.r (.v (.bool r))) : X)
  rw [← hX]
  refine fn_of (rvs := rv110) (j := ir110) Try.func110 rfl fit110 (Nat.le_of_ble_eq_true rfl) (by kernel_rfl) prog_mixed ?_
  intro g2 F hg2 hF
  obtain rfl : g2 = g := hg2.unique.trans hg.symm
  clear hg2
  obtain ⟨wrap, lt, le, eq, quo, rem, band, bor, bxor, shl, shr, nat, int, add, sub, mul, cat, seq, slt, sub3, byte, llen, nadd, nsub, dlen, dapp, dset, drep, rd, rda, up, rsub, dsub, all, sle, slen, hasI, putI, hasS, putS, imin, imax, fzc⟩ := g2
  obtain ⟨r_Item, d_Item, r_Chute, d_Chute, r_Inlet, d_Inlet, r_I64, d_I64, r_U8, d_U8, d_InletF⟩ := t
  obtain ⟨a0_Id, a0_Dest⟩ := a0
  obtain ⟨a1_Id, a1_Dest⟩ := a1
  unfold L_eqItem at h
  try dsimp only at h
  cbv
  cases hb1 : (eq a0_Id a1_Id) with
  | true =>
    rw [br_true hb1] at h
    cbv
    cases hb2 : (eq a0_Dest a1_Dest) with
    | true =>
      rw [br_true hb2] at h
      cbv
      subst h
      exact ARet.mk trivial hX.symm
    | false =>
      rw [br_false hb2] at h
      cbv
      subst h
      exact ARet.mk trivial hX.symm
  | false =>
    rw [br_false hb1] at h
    cbv
    subst h
    exact ARet.mk trivial hX.symm
end Go.Vs
namespace Go.Vs
set_option maxRecDepth 100000
def ir64 : J :=
  .seq (.reg none [⟨(some 4), none, .mv (.k (V.b false))⟩] [0, 1])
  (.seq (.seq (.reg none [⟨(some 6), none, .mv (.t 0)⟩,
      ⟨(some 7), none, .len false (.t 6)⟩,
      ⟨(some 8), none, .mv (.t 1)⟩,
      ⟨(some 9), none, .len false (.t 8)⟩,
      ⟨(some 10), none, .bin .neq .i (.t 7) (.t 9)⟩] [0, 1, 10])
   (.cond (.t 10)
    (.seq (.reg none [⟨(some 4), none, .mv (.k (V.b false))⟩] [4])
     (.ret))
    (.skip)))
  (.seq (.seq (.reg none [⟨(some 5), none, .mv (.k (V.i 0))⟩] [0, 1, 5])
   (.bl 0 (.seq (.seq (.reg none [⟨(some 11), none, .mv (.t 5)⟩,
        ⟨(some 12), none, .mv (.t 0)⟩,
        ⟨(some 13), none, .len false (.t 12)⟩,
        ⟨(some 14), none, .bin .lss .i (.t 11) (.t 13)⟩] [0, 1, 5, 14])
     (.cond (.t 14)
      (.skip)
      (.exit 0)))
    (.seq (.block 1 (.seq (.reg (some [[], [], [0, 1], [0, 1, 2], [], [], [4, 5], [4, 5, 6], [0, 1, 2, 3, 4, 5, 6, 7], [0, 1, 2, 3, 4, 5, 6, 7, 8]]) [⟨(some 17), none, .mv (.t 0)⟩,
         ⟨(some 18), none, .mv (.t 5)⟩,
         ⟨(some 19), none, .ia 2 (.t 17) (.t 18)⟩,
         ⟨(some 20), none, .ld true 2 (.t 19)⟩,
         ⟨(some 21), none, .mv (.t 1)⟩,
         ⟨(some 22), none, .mv (.t 5)⟩,
         ⟨(some 23), none, .ia 2 (.t 21) (.t 22)⟩,
         ⟨(some 24), none, .ld true 2 (.t 23)⟩,
         ⟨(some 25), none, .call 110 true [(.t 20), (.t 24)]⟩,
         ⟨(some 26), none, .not (.t 25)⟩] [0, 1, 5, 26])
      (.cond (.t 26)
       (.seq (.reg none [⟨(some 4), none, .mv (.k (V.b false))⟩] [4])
        (.ret))
       (.skip))))
    (.reg none [⟨(some 15), none, .mv (.t 5)⟩,
      ⟨(some 16), none, .bin .add .i (.t 15) (.k (V.i 1))⟩,
      ⟨(some 5), none, .mv (.t 16)⟩] [0, 1, 5])))))
  (.seq (.reg none [⟨(some 4), none, .mv (.k (V.b true))⟩] [4])
  (.ret))))
def rv64 : List RV := [.t 4]
open Go.Proofs Go.IntWalk
set_option linter.unusedVariables false
set_option maxRecDepth 100000
set_option maxHeartbeats 4000000
def L_eqItemS_l1 (g : G) (t : TE) (a1 : List Item) : List Item → Int → Option (LR Bool Unit)
  | [], v1 =>
    some (LR.out ())
  | z1 :: ls1, v1 =>
    gt a1 (g.nat v1) fun x1 =>
    lP (L_eqItem g t z1 x1) fun x2 =>
    br x2
    (
     L_eqItemS_l1 g t a1 ls1 (g.wrap .i64 (g.add v1 1)))
    (
     some (LR.ret false))
def L_eqItemS (g : G) (t : TE) (a0 : List Item) (a1 : List Item) : Option Bool :=
  br (g.eq (g.llen (t.r_Item a0)) (g.llen (t.r_Item a1)))
  (
   cl (L_eqItemS_l1 g t a1 a0 0) fun o1 => lr o1 fun y1 =>
   some true)
  (
   some false)
theorem fit64 : codeFit Try.prog Try.f64.ntmps (Try.f64.body.getD .skip) ir64 = true := by kernel_rfl
theorem c_L_eqItemS {g : G} {t : TE} {a0 : List Item} {a1 : List Item} {r : Bool} (hg : g = G.real) (ht : t = TE.real) (h : L_eqItemS g t a0 a1 = some r) : Fn Try.prog 64 [.c (.s 2 (t.r_Item a0)), .c (.s 2 (t.r_Item a1))] (.c (.r (.v (.bool r)))) := by
  obtain ⟨X, hX⟩ := hide (.c (.r (.v (.bool r))) : X)
  rw [← hX]
  refine fn_of (rvs := rv64) (j := ir64) Try.func64 rfl fit64 (Nat.le_of_ble_eq_true rfl) (by kernel_rfl) prog_mixed ?_
  intro g2 F hg2 hF
  obtain rfl : g2 = g := hg2.unique.trans hg.symm
  clear hg2
  obtain ⟨wrap, lt, le, eq, quo, rem, band, bor, bxor, shl, shr, nat, int, add, sub, mul, cat, seq, slt, sub3, byte, llen, nadd, nsub, dlen, dapp, dset, drep, rd, rda, up, rsub, dsub, all, sle, slen, hasI, putI, hasS, putS, imin, imax, fzc⟩ := g2
  obtain ⟨r_Item, d_Item, r_Chute, d_Chute, r_Inlet, d_Inlet, r_I64, d_I64, r_U8, d_U8, d_InletF⟩ := t
  unfold L_eqItemS at h
  try dsimp only at h
  cbv
  cases hb1 : (eq (llen (r_Item a0)) (llen (r_Item a1))) with
  | true =>
    rw [br_true hb1] at h
    cbv
    obtain ⟨o1, ho1, h⟩ := of_cl h
    try dsimp only at h
    try rw [hg] at ho1
    try rw [ht] at ho1
    refine ABL.mk { p : Nat × Int // p.1 ≤ a0.length ∧ p.2 = ((p.1 : Nat) : Int) ∧ L_eqItemS_l1 G.real TE.real a1 (List.drop p.1 a0) p.2 = some o1 } (fun ⟨⟨k1, v1⟩, _⟩ => ({ sl := [(0, .c (.r (.s 2 (r_Item a0)))), (1, .c (.r (.s 2 (r_Item a1)))), (5, .c (.r (.v (.int .i64 v1))))], tab := [] } : St)) 0 (fun p => a0.length - p.1.1) ⟨(0, 0), Nat.zero_le _, rfl, ho1⟩ (Unit) (fun _ => ({ sl := [], tab := [] } : St)) 0 (fun y => o1 = LR.out y) ?_ ?_ ?_
    · refine Wk.of [] rfl rfl ?_ ?_
      · cbv
        all_goals exact ⟨⟨_, rfl, rfl⟩, ⟨_, rfl, rfl⟩, ⟨_, rfl, rfl⟩, trivial⟩
      · cbv
        all_goals exact trivial
    · rintro ⟨⟨k1, v1⟩, hk1, hi1, h_1⟩ hq1
      have hm1 := (hq1.1 0 _ _ rfl)
      try dsimp only at hk1 hi1 h_1
      clear hq1
      cbv
      by_cases hc1_ : k1 < a0.length
      · have hb2 : lt v1 (llen (r_Item a0)) = true := ltL_true_Item hg ht hi1 hc1_
        have hs1 := stepL_Item hg ht hi1 hc1_ hm1
        obtain ⟨z1, hz1⟩ := some_of_lt hc1_
        rw [drop_of_some hz1] at h_1
        rw [L_eqItemS_l1] at h_1
        obtain ⟨z1_Id, z1_Dest⟩ := z1
        try rw [← hg] at h_1
        try rw [← ht] at h_1
        try dsimp only at h_1
        rw [hb2]
        cbv
        refine AStep.mk (nn_L hi1) ?_
        cbv
        refine AGet.mk _ (r_getL_Item hg ht hi1 hz1) ?_
        cbv
        refine AStep.mk (nn_L hi1) ?_
        cbv
        obtain ⟨x1, hx1, h_1⟩ := of_gt h_1
        obtain ⟨x1_Id, x1_Dest⟩ := x1
        try dsimp only at h_1
        refine AGet.mk _ (r_get_Item hg ht hx1) ?_
        cbv
        obtain ⟨x2, hx2, h_1⟩ := of_lP h_1
        try dsimp only at h_1
        refine ACall.mk _ _ rfl (hF _ _ _ (c_L_eqItem hg ht hx2)) (.inl rfl) (Nat.le_of_ble_eq_true rfl) ?_
        cbv
        cases hb3 : x2 with
        | true =>
          rw [br_true hb3] at h_1
          cbv
          try rw [hg] at h_1
          try rw [ht] at h_1
          refine ⟨⟨(k1 + 1, (wrap .i64 (add v1 1))), hc1_, hs1, h_1⟩, Wk.of [] rfl rfl ?_ ?_, meas_L hc1_⟩
          · cbv
            all_goals exact ⟨⟨_, rfl, rfl⟩, ⟨_, rfl, rfl⟩, ⟨_, rfl, rfl⟩, trivial⟩
          · cbv
            all_goals exact trivial
        | false =>
          rw [br_false hb3] at h_1
          cbv
          obtain rfl := Option.some.inj h_1
          try dsimp only [lr, lrL, lrp, lrpL] at h
          obtain rfl := Option.some.inj h
          exact ARet.mk trivial hX.symm
      · have hb2 : lt v1 (llen (r_Item a0)) = false := ltL_false_Item hg ht hi1 hc1_
        rw [List.drop_of_length_le (Nat.le_of_not_lt hc1_)] at h_1
        rw [L_eqItemS_l1] at h_1
        try rw [← hg] at h_1
        try rw [← ht] at h_1
        try dsimp only at h_1
        rw [hb2]
        cbv
        refine ⟨(), Wk.of [] rfl rfl ?_ ?_, (Option.some.inj h_1).symm⟩
        · cbv
          all_goals exact trivial
        · cbv
          all_goals exact trivial
    · rintro _ hy1
      replace hy1 := hy1.symm
      subst hy1
      try dsimp only [lr, lrL, lrp, lrpL] at h
      cbv
      obtain rfl := Option.some.inj h
      exact ARet.mk trivial hX.symm
  | false =>
    rw [br_false hb1] at h
    cbv
    obtain rfl := Option.some.inj h
    exact ARet.mk trivial hX.symm
end Go.Vs
namespace Go.Vs
set_option maxRecDepth 100000
def ir116 : J :=
  .seq (.reg none [⟨(some 2), none, .box (.t 0)⟩,
     ⟨(some 3), none, .box (.t 1)⟩,
     ⟨(some 4), none, .mv (.k (V.b false))⟩] [2, 3])
  (.seq (.seq (.reg none [⟨(some 5), none, .fa 0 (.t 2)⟩,
      ⟨(some 6), none, .ld false 1 (.t 5)⟩,
      ⟨(some 7), none, .fa 0 (.t 3)⟩,
      ⟨(some 8), none, .ld false 1 (.t 7)⟩,
      ⟨(some 9), none, .bin .neq .i (.t 6) (.t 8)⟩] [2, 3, 9])
   (.cond (.t 9)
    (.seq (.reg none [⟨(some 4), none, .mv (.k (V.b false))⟩] [4])
     (.ret))
    (.skip)))
  (.seq (.seq (.reg none [⟨(some 10), none, .fa 1 (.t 2)⟩,
      ⟨(some 11), none, .ld false 1 (.t 10)⟩,
      ⟨(some 12), none, .fa 1 (.t 3)⟩,
      ⟨(some 13), none, .ld false 1 (.t 12)⟩,
      ⟨(some 14), none, .bin .neq .i (.t 11) (.t 13)⟩] [2, 3, 14])
   (.cond (.t 14)
    (.seq (.reg none [⟨(some 4), none, .mv (.k (V.b false))⟩] [4])
     (.ret))
    (.skip)))
  (.seq (.seq (.reg none [⟨(some 15), none, .fa 2 (.t 2)⟩,
      ⟨(some 16), none, .ld false 1 (.t 15)⟩,
      ⟨(some 17), none, .fa 2 (.t 3)⟩,
      ⟨(some 18), none, .ld false 1 (.t 17)⟩,
      ⟨(some 19), none, .call 64 true [(.t 16), (.t 18)]⟩,
      ⟨(some 20), none, .not (.t 19)⟩] [20])
   (.cond (.t 20)
    (.seq (.reg none [⟨(some 4), none, .mv (.k (V.b false))⟩] [4])
     (.ret))
    (.skip)))
  (.seq (.reg none [⟨(some 4), none, .mv (.k (V.b true))⟩] [4])
  (.ret)))))
def rv116 : List RV := [.t 4]
open Go.Proofs Go.IntWalk
set_option linter.unusedVariables false
set_option maxRecDepth 100000
set_option maxHeartbeats 4000000
def L_eqChute (g : G) (t : TE) (a0 : Chute) (a1 : Chute) : Option Bool :=
  br (g.eq a0.Cell a1.Cell)
  (
   br (g.eq a0.Room a1.Room)
   (
    cl (L_eqItemS g t a0.Held a1.Held) fun x1 =>
    br x1
    (
     some true)
    (
     some false))
   (
    some false))
  (
   some false)
theorem fit116 : codeFit Try.prog Try.f116.ntmps (Try.f116.body.getD .skip) ir116 = true := by kernel_rfl
theorem c_L_eqChute {g : G} {t : TE} {a0 : Chute} {a1 : Chute} {r : Bool} (hg : g = G.real) (ht : t = TE.real) (h : L_eqChute g t a0 a1 = some r) : Fn Try.prog 116 [.g (Chute.rs t a0), .g (Chute.rs t a1)] (.c (.r (.v (.bool r)))) := by
  obtain ⟨X, hX⟩ := hide (.c (.r (.v (.bool r))) : X)
  rw [← hX]
  refine fn_of (rvs := rv116) (j := ir116) Try.func116 rfl fit116 (Nat.le_of_ble_eq_true rfl) (by kernel_rfl) prog_mixed ?_
  intro g2 F hg2 hF
  obtain rfl : g2 = g := hg2.unique.trans hg.symm
  clear hg2
  obtain ⟨wrap, lt, le, eq, quo, rem, band, bor, bxor, shl, shr, nat, int, add, sub, mul, cat, seq, slt, sub3, byte, llen, nadd, nsub, dlen, dapp, dset, drep, rd, rda, up, rsub, dsub, all, sle, slen, hasI, putI, hasS, putS, imin, imax, fzc⟩ := g2
  obtain ⟨r_Item, d_Item, r_Chute, d_Chute, r_Inlet, d_Inlet, r_I64, d_I64, r_U8, d_U8, d_InletF⟩ := t
  obtain ⟨a0_Cell, a0_Room, a0_Held⟩ := a0
  obtain ⟨a1_Cell, a1_Room, a1_Held⟩ := a1
  unfold L_eqChute at h
  try dsimp only at h
  cbv
  cases hb1 : (eq a0_Cell a1_Cell) with
  | true =>
    rw [br_true hb1] at h
    cbv
    cases hb2 : (eq a0_Room a1_Room) with
    | true =>
      rw [br_true hb2] at h
      cbv
      obtain ⟨x1, hx1, h⟩ := of_cl h
      try dsimp only at h
      refine ACall.mk _ _ rfl (hF _ _ _ (c_L_eqItemS hg ht hx1)) (.inl rfl) (Nat.le_of_ble_eq_true rfl) ?_
      cbv
      cases hb3 : x1 with
      | true =>
        rw [br_true hb3] at h
        cbv
        obtain rfl := Option.some.inj h
        exact ARet.mk trivial hX.symm
      | false =>
        rw [br_false hb3] at h
        cbv
        obtain rfl := Option.some.inj h
        exact ARet.mk trivial hX.symm
    | false =>
      rw [br_false hb2] at h
      cbv
      obtain rfl := Option.some.inj h
      exact ARet.mk trivial hX.symm
  | false =>
    rw [br_false hb1] at h
    cbv
    obtain rfl := Option.some.inj h
    exact ARet.mk trivial hX.symm
end Go.Vs
namespace Go.Vs
set_option maxRecDepth 100000
def ir83 : J :=
  .seq (.reg none [⟨(some 4), none, .mv (.k (V.b false))⟩] [0, 1])
  (.seq (.seq (.reg none [⟨(some 6), none, .mv (.t 0)⟩,
      ⟨(some 7), none, .len false (.t 6)⟩,
      ⟨(some 8), none, .mv (.t 1)⟩,
      ⟨(some 9), none, .len false (.t 8)⟩,
      ⟨(some 10), none, .bin .neq .i (.t 7) (.t 9)⟩] [0, 1, 10])
   (.cond (.t 10)
    (.seq (.reg none [⟨(some 4), none, .mv (.k (V.b false))⟩] [4])
     (.ret))
    (.skip)))
  (.seq (.seq (.reg none [⟨(some 5), none, .mv (.k (V.i 0))⟩] [0, 1, 5])
   (.bl 0 (.seq (.seq (.reg none [⟨(some 11), none, .mv (.t 5)⟩,
        ⟨(some 12), none, .mv (.t 0)⟩,
        ⟨(some 13), none, .len false (.t 12)⟩,
        ⟨(some 14), none, .bin .lss .i (.t 11) (.t 13)⟩] [0, 1, 5, 14])
     (.cond (.t 14)
      (.skip)
      (.exit 0)))
    (.seq (.block 1 (.seq (.reg (some [[], [], [0, 1], [0, 1, 2], [], [], [4, 5], [4, 5, 6], [0, 1, 2, 3, 4, 5, 6, 7], [0, 1, 2, 3, 4, 5, 6, 7, 8]]) [⟨(some 17), none, .mv (.t 0)⟩,
         ⟨(some 18), none, .mv (.t 5)⟩,
         ⟨(some 19), none, .ia 3 (.t 17) (.t 18)⟩,
         ⟨(some 20), none, .ld true 3 (.t 19)⟩,
         ⟨(some 21), none, .mv (.t 1)⟩,
         ⟨(some 22), none, .mv (.t 5)⟩,
         ⟨(some 23), none, .ia 3 (.t 21) (.t 22)⟩,
         ⟨(some 24), none, .ld true 3 (.t 23)⟩,
         ⟨(some 25), none, .call 116 true [(.t 20), (.t 24)]⟩,
         ⟨(some 26), none, .not (.t 25)⟩] [0, 1, 5, 26])
      (.cond (.t 26)
       (.seq (.reg none [⟨(some 4), none, .mv (.k (V.b false))⟩] [4])
        (.ret))
       (.skip))))
    (.reg none [⟨(some 15), none, .mv (.t 5)⟩,
      ⟨(some 16), none, .bin .add .i (.t 15) (.k (V.i 1))⟩,
      ⟨(some 5), none, .mv (.t 16)⟩] [0, 1, 5])))))
  (.seq (.reg none [⟨(some 4), none, .mv (.k (V.b true))⟩] [4])
  (.ret))))
def rv83 : List RV := [.t 4]
open Go.Proofs Go.IntWalk
set_option linter.unusedVariables false
set_option maxRecDepth 100000
set_option maxHeartbeats 4000000
def L_eqChuteS_l1 (g : G) (t : TE) (a1 : List Chute) : List Chute → Int → Option (LR Bool Unit)
  | [], v1 =>
    some (LR.out ())
  | z1 :: ls1, v1 =>
    gt a1 (g.nat v1) fun x1 =>
    cl (L_eqChute g t z1 x1) fun x2 =>
    br x2
    (
     L_eqChuteS_l1 g t a1 ls1 (g.wrap .i64 (g.add v1 1)))
    (
     some (LR.ret false))
def L_eqChuteS (g : G) (t : TE) (a0 : List Chute) (a1 : List Chute) : Option Bool :=
  br (g.eq (g.llen (t.r_Chute a0)) (g.llen (t.r_Chute a1)))
  (
   cl (L_eqChuteS_l1 g t a1 a0 0) fun o1 => lr o1 fun y1 =>
   some true)
  (
   some false)
theorem fit83 : codeFit Try.prog Try.f83.ntmps (Try.f83.body.getD .skip) ir83 = true := by kernel_rfl
theorem c_L_eqChuteS {g : G} {t : TE} {a0 : List Chute} {a1 : List Chute} {r : Bool} (hg : g = G.real) (ht : t = TE.real) (h : L_eqChuteS g t a0 a1 = some r) : Fn Try.prog 83 [.c (.s 3 (t.r_Chute a0)), .c (.s 3 (t.r_Chute a1))] (.c (.r (.v (.bool r)))) := by
  obtain ⟨X, hX⟩ := hide (.c (.r (.v (.bool r))) : X)
  rw [← hX]
  refine fn_of (rvs := rv83) (j := ir83) Try.func83 rfl fit83 (Nat.le_of_ble_eq_true rfl) (by kernel_rfl) prog_mixed ?_
  intro g2 F hg2 hF
  obtain rfl : g2 = g := hg2.unique.trans hg.symm
  clear hg2
  obtain ⟨wrap, lt, le, eq, quo, rem, band, bor, bxor, shl, shr, nat, int, add, sub, mul, cat, seq, slt, sub3, byte, llen, nadd, nsub, dlen, dapp, dset, drep, rd, rda, up, rsub, dsub, all, sle, slen, hasI, putI, hasS, putS, imin, imax, fzc⟩ := g2
  obtain ⟨r_Item, d_Item, r_Chute, d_Chute, r_Inlet, d_Inlet, r_I64, d_I64, r_U8, d_U8, d_InletF⟩ := t
  unfold L_eqChuteS at h
  try dsimp only at h
  cbv
  cases hb1 : (eq (llen (r_Chute a0)) (llen (r_Chute a1))) with
  | true =>
    rw [br_true hb1] at h
    cbv
    obtain ⟨o1, ho1, h⟩ := of_cl h
    try dsimp only at h
    try rw [hg] at ho1
    try rw [ht] at ho1
    refine ABL.mk { p : Nat × Int // p.1 ≤ a0.length ∧ p.2 = ((p.1 : Nat) : Int) ∧ L_eqChuteS_l1 G.real TE.real a1 (List.drop p.1 a0) p.2 = some o1 } (fun ⟨⟨k1, v1⟩, _⟩ => ({ sl := [(0, .c (.r (.s 3 (r_Chute a0)))), (1, .c (.r (.s 3 (r_Chute a1)))), (5, .c (.r (.v (.int .i64 v1))))], tab := [] } : St)) 0 (fun p => a0.length - p.1.1) ⟨(0, 0), Nat.zero_le _, rfl, ho1⟩ (Unit) (fun _ => ({ sl := [], tab := [] } : St)) 0 (fun y => o1 = LR.out y) ?_ ?_ ?_
    · refine Wk.of [] rfl rfl ?_ ?_
      · cbv
        all_goals exact ⟨⟨_, rfl, rfl⟩, ⟨_, rfl, rfl⟩, ⟨_, rfl, rfl⟩, trivial⟩
      · cbv
        all_goals exact trivial
    · rintro ⟨⟨k1, v1⟩, hk1, hi1, h_1⟩ hq1
      have hm1 := (hq1.1 0 _ _ rfl)
      try dsimp only at hk1 hi1 h_1
      clear hq1
      cbv
      by_cases hc1_ : k1 < a0.length
      · have hb2 : lt v1 (llen (r_Chute a0)) = true := ltL_true_Chute hg ht hi1 hc1_
        have hs1 := stepL_Chute hg ht hi1 hc1_ hm1
        obtain ⟨z1, hz1⟩ := some_of_lt hc1_
        rw [drop_of_some hz1] at h_1
        rw [L_eqChuteS_l1] at h_1
        obtain ⟨z1_Cell, z1_Room, z1_Held⟩ := z1
        try rw [← hg] at h_1
        try rw [← ht] at h_1
        try dsimp only at h_1
        rw [hb2]
        cbv
        refine AStep.mk (nn_L hi1) ?_
        cbv
        refine AGet.mk _ (r_getL_Chute hg ht hi1 hz1) ?_
        cbv
        refine AStep.mk (nn_L hi1) ?_
        cbv
        obtain ⟨x1, hx1, h_1⟩ := of_gt h_1
        obtain ⟨x1_Cell, x1_Room, x1_Held⟩ := x1
        try dsimp only at h_1
        refine AGet.mk _ (r_get_Chute hg ht hx1) ?_
        cbv
        obtain ⟨x2, hx2, h_1⟩ := of_cl h_1
        try dsimp only at h_1
        refine ACall.mk _ _ rfl (hF _ _ _ (c_L_eqChute hg ht hx2)) (.inl rfl) (Nat.le_of_ble_eq_true rfl) ?_
        cbv
        cases hb3 : x2 with
        | true =>
          rw [br_true hb3] at h_1
          cbv
          try rw [hg] at h_1
          try rw [ht] at h_1
          refine ⟨⟨(k1 + 1, (wrap .i64 (add v1 1))), hc1_, hs1, h_1⟩, Wk.of [] rfl rfl ?_ ?_, meas_L hc1_⟩
          · cbv
            all_goals exact ⟨⟨_, rfl, rfl⟩, ⟨_, rfl, rfl⟩, ⟨_, rfl, rfl⟩, trivial⟩
          · cbv
            all_goals exact trivial
        | false =>
          rw [br_false hb3] at h_1
          cbv
          obtain rfl := Option.some.inj h_1
          try dsimp only [lr, lrL, lrp, lrpL] at h
          obtain rfl := Option.some.inj h
          exact ARet.mk trivial hX.symm
      · have hb2 : lt v1 (llen (r_Chute a0)) = false := ltL_false_Chute hg ht hi1 hc1_
        rw [List.drop_of_length_le (Nat.le_of_not_lt hc1_)] at h_1
        rw [L_eqChuteS_l1] at h_1
        try rw [← hg] at h_1
        try rw [← ht] at h_1
        try dsimp only at h_1
        rw [hb2]
        cbv
        refine ⟨(), Wk.of [] rfl rfl ?_ ?_, (Option.some.inj h_1).symm⟩
        · cbv
          all_goals exact trivial
        · cbv
          all_goals exact trivial
    · rintro _ hy1
      replace hy1 := hy1.symm
      subst hy1
      try dsimp only [lr, lrL, lrp, lrpL] at h
      cbv
      obtain rfl := Option.some.inj h
      exact ARet.mk trivial hX.symm
  | false =>
    rw [br_false hb1] at h
    cbv
    obtain rfl := Option.some.inj h
    exact ARet.mk trivial hX.symm
end Go.Vs
namespace Go.Vs
set_option maxRecDepth 100000
def ir117 : J :=
  .seq (.reg none [⟨(some 2), none, .box (.t 0)⟩,
     ⟨(some 3), none, .box (.t 1)⟩,
     ⟨(some 4), none, .mv (.k (V.b false))⟩] [2, 3])
  (.seq (.seq (.reg none [⟨(some 5), none, .fa 0 (.t 2)⟩,
      ⟨(some 6), none, .ld false 1 (.t 5)⟩,
      ⟨(some 7), none, .fa 0 (.t 3)⟩,
      ⟨(some 8), none, .ld false 1 (.t 7)⟩,
      ⟨(some 9), none, .bin .neq .i (.t 6) (.t 8)⟩] [2, 3, 9])
   (.cond (.t 9)
    (.seq (.reg none [⟨(some 4), none, .mv (.k (V.b false))⟩] [4])
     (.ret))
    (.skip)))
  (.seq (.seq (.reg none [⟨(some 10), none, .fa 1 (.t 2)⟩,
      ⟨(some 11), none, .ld false 1 (.t 10)⟩,
      ⟨(some 12), none, .fa 1 (.t 3)⟩,
      ⟨(some 13), none, .ld false 1 (.t 12)⟩,
      ⟨(some 14), none, .call 64 true [(.t 11), (.t 13)]⟩,
      ⟨(some 15), none, .not (.t 14)⟩] [15])
   (.cond (.t 15)
    (.seq (.reg none [⟨(some 4), none, .mv (.k (V.b false))⟩] [4])
     (.ret))
    (.skip)))
  (.seq (.reg none [⟨(some 4), none, .mv (.k (V.b true))⟩] [4])
  (.ret))))
def rv117 : List RV := [.t 4]
open Go.Proofs Go.IntWalk
set_option linter.unusedVariables false
set_option maxRecDepth 100000
set_option maxHeartbeats 4000000
def L_eqInlet (g : G) (t : TE) (a0 : Inlet) (a1 : Inlet) : Option Bool :=
  br (g.eq a0.Cell a1.Cell)
  (
   cl (L_eqItemS g t a0.Wait a1.Wait) fun x1 =>
   br x1
   (
    some true)
   (
    some false))
  (
   some false)
theorem fit117 : codeFit Try.prog Try.f117.ntmps (Try.f117.body.getD .skip) ir117 = true := by kernel_rfl
theorem c_L_eqInlet {g : G} {t : TE} {a0 : Inlet} {a1 : Inlet} {r : Bool} (hg : g = G.real) (ht : t = TE.real) (h : L_eqInlet g t a0 a1 = some r) : Fn Try.prog 117 [.g (Inlet.rs t a0), .g (Inlet.rs t a1)] (.c (.r (.v (.bool r)))) := by
  obtain ⟨X, hX⟩ := hide (.c (.r (.v (.bool r))) : X)
  rw [← hX]
  refine fn_of (rvs := rv117) (j := ir117) Try.func117 rfl fit117 (Nat.le_of_ble_eq_true rfl) (by kernel_rfl) prog_mixed ?_
  intro g2 F hg2 hF
  obtain rfl : g2 = g := hg2.unique.trans hg.symm
  clear hg2
  obtain ⟨wrap, lt, le, eq, quo, rem, band, bor, bxor, shl, shr, nat, int, add, sub, mul, cat, seq, slt, sub3, byte, llen, nadd, nsub, dlen, dapp, dset, drep, rd, rda, up, rsub, dsub, all, sle, slen, hasI, putI, hasS, putS, imin, imax, fzc⟩ := g2
  obtain ⟨r_Item, d_Item, r_Chute, d_Chute, r_Inlet, d_Inlet, r_I64, d_I64, r_U8, d_U8, d_InletF⟩ := t
  obtain ⟨a0_Cell, a0_Wait⟩ := a0
  obtain ⟨a1_Cell, a1_Wait⟩ := a1
  unfold L_eqInlet at h
  try dsimp only at h
  cbv
  cases hb1 : (eq a0_Cell a1_Cell) with
  | true =>
    rw [br_true hb1] at h
    cbv
    obtain ⟨x1, hx1, h⟩ := of_cl h
    try dsimp only at h
    refine ACall.mk _ _ rfl (hF _ _ _ (c_L_eqItemS hg ht hx1)) (.inl rfl) (Nat.le_of_ble_eq_true rfl) ?_
    cbv
    cases hb2 : x1 with
    | true =>
      rw [br_true hb2] at h
      cbv
      obtain rfl := Option.some.inj h
      exact ARet.mk trivial hX.symm
    | false =>
      rw [br_false hb2] at h
      cbv
      obtain rfl := Option.some.inj h
      exact ARet.mk trivial hX.symm
  | false =>
    rw [br_false hb1] at h
    cbv
    obtain rfl := Option.some.inj h
    exact ARet.mk trivial hX.symm
end Go.Vs
namespace Go.Vs
set_option maxRecDepth 100000
def ir84 : J :=
  .seq (.reg none [⟨(some 4), none, .mv (.k (V.b false))⟩] [0, 1])
  (.seq (.seq (.reg none [⟨(some 6), none, .mv (.t 0)⟩,
      ⟨(some 7), none, .len false (.t 6)⟩,
      ⟨(some 8), none, .mv (.t 1)⟩,
      ⟨(some 9), none, .len false (.t 8)⟩,
      ⟨(some 10), none, .bin .neq .i (.t 7) (.t 9)⟩] [0, 1, 10])
   (.cond (.t 10)
    (.seq (.reg none [⟨(some 4), none, .mv (.k (V.b false))⟩] [4])
     (.ret))
    (.skip)))
  (.seq (.seq (.reg none [⟨(some 5), none, .mv (.k (V.i 0))⟩] [0, 1, 5])
   (.bl 0 (.seq (.seq (.reg none [⟨(some 11), none, .mv (.t 5)⟩,
        ⟨(some 12), none, .mv (.t 0)⟩,
        ⟨(some 13), none, .len false (.t 12)⟩,
        ⟨(some 14), none, .bin .lss .i (.t 11) (.t 13)⟩] [0, 1, 5, 14])
     (.cond (.t 14)
      (.skip)
      (.exit 0)))
    (.seq (.block 1 (.seq (.reg (some [[], [], [0, 1], [0, 1, 2], [], [], [4, 5], [4, 5, 6], [0, 1, 2, 3, 4, 5, 6, 7], [0, 1, 2, 3, 4, 5, 6, 7, 8]]) [⟨(some 17), none, .mv (.t 0)⟩,
         ⟨(some 18), none, .mv (.t 5)⟩,
         ⟨(some 19), none, .ia 2 (.t 17) (.t 18)⟩,
         ⟨(some 20), none, .ld true 2 (.t 19)⟩,
         ⟨(some 21), none, .mv (.t 1)⟩,
         ⟨(some 22), none, .mv (.t 5)⟩,
         ⟨(some 23), none, .ia 2 (.t 21) (.t 22)⟩,
         ⟨(some 24), none, .ld true 2 (.t 23)⟩,
         ⟨(some 25), none, .call 117 true [(.t 20), (.t 24)]⟩,
         ⟨(some 26), none, .not (.t 25)⟩] [0, 1, 5, 26])
      (.cond (.t 26)
       (.seq (.reg none [⟨(some 4), none, .mv (.k (V.b false))⟩] [4])
        (.ret))
       (.skip))))
    (.reg none [⟨(some 15), none, .mv (.t 5)⟩,
      ⟨(some 16), none, .bin .add .i (.t 15) (.k (V.i 1))⟩,
      ⟨(some 5), none, .mv (.t 16)⟩] [0, 1, 5])))))
  (.seq (.reg none [⟨(some 4), none, .mv (.k (V.b true))⟩] [4])
  (.ret))))
def rv84 : List RV := [.t 4]
open Go.Proofs Go.IntWalk
set_option linter.unusedVariables false
set_option maxRecDepth 100000
set_option maxHeartbeats 4000000
def L_eqInletS_l1 (g : G) (t : TE) (a1 : List Inlet) : List Inlet → Int → Option (LR Bool Unit)
  | [], v1 =>
    some (LR.out ())
  | z1 :: ls1, v1 =>
    gt a1 (g.nat v1) fun x1 =>
    cl (L_eqInlet g t z1 x1) fun x2 =>
    br x2
    (
     L_eqInletS_l1 g t a1 ls1 (g.wrap .i64 (g.add v1 1)))
    (
     some (LR.ret false))
def L_eqInletS (g : G) (t : TE) (a0 : List Inlet) (a1 : List Inlet) : Option Bool :=
  br (g.eq (g.llen (t.r_Inlet a0)) (g.llen (t.r_Inlet a1)))
  (
   cl (L_eqInletS_l1 g t a1 a0 0) fun o1 => lr o1 fun y1 =>
   some true)
  (
   some false)
theorem fit84 : codeFit Try.prog Try.f84.ntmps (Try.f84.body.getD .skip) ir84 = true := by kernel_rfl
theorem c_L_eqInletS {g : G} {t : TE} {a0 : List Inlet} {a1 : List Inlet} {r : Bool} (hg : g = G.real) (ht : t = TE.real) (h : L_eqInletS g t a0 a1 = some r) : Fn Try.prog 84 [.c (.s 2 (t.r_Inlet a0)), .c (.s 2 (t.r_Inlet a1))] (.c (.r (.v (.bool r)))) := by
  obtain ⟨X, hX⟩ := hide (.c (.r (.v (.bool r))) : X)
  rw [← hX]
  refine fn_of (rvs := rv84) (j := ir84) Try.func84 rfl fit84 (Nat.le_of_ble_eq_true rfl) (by kernel_rfl) prog_mixed ?_
  intro g2 F hg2 hF
  obtain rfl : g2 = g := hg2.unique.trans hg.symm
  clear hg2
  obtain ⟨wrap, lt, le, eq, quo, rem, band, bor, bxor, shl, shr, nat, int, add, sub, mul, cat, seq, slt, sub3, byte, llen, nadd, nsub, dlen, dapp, dset, drep, rd, rda, up, rsub, dsub, all, sle, slen, hasI, putI, hasS, putS, imin, imax, fzc⟩ := g2
  obtain ⟨r_Item, d_Item, r_Chute, d_Chute, r_Inlet, d_Inlet, r_I64, d_I64, r_U8, d_U8, d_InletF⟩ := t
  unfold L_eqInletS at h
  try dsimp only at h
  cbv
  cases hb1 : (eq (llen (r_Inlet a0)) (llen (r_Inlet a1))) with
  | true =>
    rw [br_true hb1] at h
    cbv
    obtain ⟨o1, ho1, h⟩ := of_cl h
    try dsimp only at h
    try rw [hg] at ho1
    try rw [ht] at ho1
    refine ABL.mk { p : Nat × Int // p.1 ≤ a0.length ∧ p.2 = ((p.1 : Nat) : Int) ∧ L_eqInletS_l1 G.real TE.real a1 (List.drop p.1 a0) p.2 = some o1 } (fun ⟨⟨k1, v1⟩, _⟩ => ({ sl := [(0, .c (.r (.s 2 (r_Inlet a0)))), (1, .c (.r (.s 2 (r_Inlet a1)))), (5, .c (.r (.v (.int .i64 v1))))], tab := [] } : St)) 0 (fun p => a0.length - p.1.1) ⟨(0, 0), Nat.zero_le _, rfl, ho1⟩ (Unit) (fun _ => ({ sl := [], tab := [] } : St)) 0 (fun y => o1 = LR.out y) ?_ ?_ ?_
    · refine Wk.of [] rfl rfl ?_ ?_
      · cbv
        all_goals exact ⟨⟨_, rfl, rfl⟩, ⟨_, rfl, rfl⟩, ⟨_, rfl, rfl⟩, trivial⟩
      · cbv
        all_goals exact trivial
    · rintro ⟨⟨k1, v1⟩, hk1, hi1, h_1⟩ hq1
      have hm1 := (hq1.1 0 _ _ rfl)
      try dsimp only at hk1 hi1 h_1
      clear hq1
      cbv
      by_cases hc1_ : k1 < a0.length
      · have hb2 : lt v1 (llen (r_Inlet a0)) = true := ltL_true_Inlet hg ht hi1 hc1_
        have hs1 := stepL_Inlet hg ht hi1 hc1_ hm1
        obtain ⟨z1, hz1⟩ := some_of_lt hc1_
        rw [drop_of_some hz1] at h_1
        rw [L_eqInletS_l1] at h_1
        obtain ⟨z1_Cell, z1_Wait⟩ := z1
        try rw [← hg] at h_1
        try rw [← ht] at h_1
        try dsimp only at h_1
        rw [hb2]
        cbv
        refine AStep.mk (nn_L hi1) ?_
        cbv
        refine AGet.mk _ (r_getL_Inlet hg ht hi1 hz1) ?_
        cbv
        refine AStep.mk (nn_L hi1) ?_
        cbv
        obtain ⟨x1, hx1, h_1⟩ := of_gt h_1
        obtain ⟨x1_Cell, x1_Wait⟩ := x1
        try dsimp only at h_1
        refine AGet.mk _ (r_get_Inlet hg ht hx1) ?_
        cbv
        obtain ⟨x2, hx2, h_1⟩ := of_cl h_1
        try dsimp only at h_1
        refine ACall.mk _ _ rfl (hF _ _ _ (c_L_eqInlet hg ht hx2)) (.inl rfl) (Nat.le_of_ble_eq_true rfl) ?_
        cbv
        cases hb3 : x2 with
        | true =>
          rw [br_true hb3] at h_1
          cbv
          try rw [hg] at h_1
          try rw [ht] at h_1
          refine ⟨⟨(k1 + 1, (wrap .i64 (add v1 1))), hc1_, hs1, h_1⟩, Wk.of [] rfl rfl ?_ ?_, meas_L hc1_⟩
          · cbv
            all_goals exact ⟨⟨_, rfl, rfl⟩, ⟨_, rfl, rfl⟩, ⟨_, rfl, rfl⟩, trivial⟩
          · cbv
            all_goals exact trivial
        | false =>
          rw [br_false hb3] at h_1
          cbv
          obtain rfl := Option.some.inj h_1
          try dsimp only [lr, lrL, lrp, lrpL] at h
          obtain rfl := Option.some.inj h
          exact ARet.mk trivial hX.symm
      · have hb2 : lt v1 (llen (r_Inlet a0)) = false := ltL_false_Inlet hg ht hi1 hc1_
        rw [List.drop_of_length_le (Nat.le_of_not_lt hc1_)] at h_1
        rw [L_eqInletS_l1] at h_1
        try rw [← hg] at h_1
        try rw [← ht] at h_1
        try dsimp only at h_1
        rw [hb2]
        cbv
        refine ⟨(), Wk.of [] rfl rfl ?_ ?_, (Option.some.inj h_1).symm⟩
        · cbv
          all_goals exact trivial
        · cbv
          all_goals exact trivial
    · rintro _ hy1
      replace hy1 := hy1.symm
      subst hy1
      try dsimp only [lr, lrL, lrp, lrpL] at h
      cbv
      obtain rfl := Option.some.inj h
      exact ARet.mk trivial hX.symm
  | false =>
    rw [br_false hb1] at h
    cbv
    obtain rfl := Option.some.inj h
    exact ARet.mk trivial hX.symm
end Go.Vs
namespace Go.Vs
set_option maxRecDepth 100000
def ir28 : J :=
  .seq (.reg none [⟨(some 2), none, .box (.t 0)⟩,
     ⟨(some 3), none, .box (.t 1)⟩,
     ⟨(some 4), none, .mv (.k (V.b false))⟩] [2, 3])
  (.seq (.seq (.reg none [⟨(some 5), none, .fa 0 (.t 2)⟩,
      ⟨(some 6), none, .ld false 1 (.t 5)⟩,
      ⟨(some 7), none, .fa 0 (.t 3)⟩,
      ⟨(some 8), none, .ld false 1 (.t 7)⟩,
      ⟨(some 9), none, .call 64 true [(.t 6), (.t 8)]⟩,
      ⟨(some 10), none, .not (.t 9)⟩] [2, 3, 10])
   (.cond (.t 10)
    (.seq (.reg none [⟨(some 4), none, .mv (.k (V.b false))⟩] [4])
     (.ret))
    (.skip)))
  (.seq (.seq (.reg none [⟨(some 11), none, .fa 1 (.t 2)⟩,
      ⟨(some 12), none, .ld false 1 (.t 11)⟩,
      ⟨(some 13), none, .fa 1 (.t 3)⟩,
      ⟨(some 14), none, .ld false 1 (.t 13)⟩,
      ⟨(some 15), none, .call 83 true [(.t 12), (.t 14)]⟩,
      ⟨(some 16), none, .not (.t 15)⟩] [2, 3, 16])
   (.cond (.t 16)
    (.seq (.reg none [⟨(some 4), none, .mv (.k (V.b false))⟩] [4])
     (.ret))
    (.skip)))
  (.seq (.seq (.reg none [⟨(some 17), none, .fa 2 (.t 2)⟩,
      ⟨(some 18), none, .ld false 1 (.t 17)⟩,
      ⟨(some 19), none, .fa 2 (.t 3)⟩,
      ⟨(some 20), none, .ld false 1 (.t 19)⟩,
      ⟨(some 21), none, .call 84 true [(.t 18), (.t 20)]⟩,
      ⟨(some 22), none, .not (.t 21)⟩] [2, 3, 22])
   (.cond (.t 22)
    (.seq (.reg none [⟨(some 4), none, .mv (.k (V.b false))⟩] [4])
     (.ret))
    (.skip)))
  (.seq (.seq (.reg none [⟨(some 23), none, .fa 3 (.t 2)⟩,
      ⟨(some 24), none, .ld false 1 (.t 23)⟩,
      ⟨(some 25), none, .fa 3 (.t 3)⟩,
      ⟨(some 26), none, .ld false 1 (.t 25)⟩,
      ⟨(some 27), none, .call 47 true [(.t 24), (.t 26)]⟩,
      ⟨(some 28), none, .not (.t 27)⟩] [2, 3, 28])
   (.cond (.t 28)
    (.seq (.reg none [⟨(some 4), none, .mv (.k (V.b false))⟩] [4])
     (.ret))
    (.skip)))
  (.seq (.seq (.reg none [⟨(some 29), none, .fa 4 (.t 2)⟩,
      ⟨(some 30), none, .ld false 1 (.t 29)⟩,
      ⟨(some 31), none, .fa 4 (.t 3)⟩,
      ⟨(some 32), none, .ld false 1 (.t 31)⟩,
      ⟨(some 33), none, .bin .neq .i (.t 30) (.t 32)⟩] [33])
   (.cond (.t 33)
    (.seq (.reg none [⟨(some 4), none, .mv (.k (V.b false))⟩] [4])
     (.ret))
    (.skip)))
  (.seq (.reg none [⟨(some 4), none, .mv (.k (V.b true))⟩] [4])
  (.ret)))))))
def rv28 : List RV := [.t 4]
open Go.Proofs Go.IntWalk
set_option linter.unusedVariables false
set_option maxRecDepth 100000
set_option maxHeartbeats 4000000
def L_eqCentre (g : G) (t : TE) (a0 : Centre) (a1 : Centre) : Option Bool :=
  cl (L_eqItemS g t a0.Belt a1.Belt) fun x1 =>
  br x1
  (
   cl (L_eqChuteS g t a0.Chutes a1.Chutes) fun x2 =>
   br x2
   (
    cl (L_eqInletS g t a0.Inlets a1.Inlets) fun x3 =>
    br x3
    (
     cl (L_eqIntS g t a0.Plan a1.Plan) fun x4 =>
     br x4
     (
      br (g.eq a0.Now a1.Now)
      (
       some true)
      (
       some false))
     (
      some false))
    (
     some false))
   (
    some false))
  (
   some false)
theorem fit28 : codeFit Try.prog Try.f28.ntmps (Try.f28.body.getD .skip) ir28 = true := by kernel_rfl
theorem c_L_eqCentre {g : G} {t : TE} {a0 : Centre} {a1 : Centre} {r : Bool} (hg : g = G.real) (ht : t = TE.real) (h : L_eqCentre g t a0 a1 = some r) : Fn Try.prog 28 [.g (Centre.rs t a0), .g (Centre.rs t a1)] (.c (.r (.v (.bool r)))) := by
  obtain ⟨X, hX⟩ := hide (.c (.r (.v (.bool r))) : X)
  rw [← hX]
  refine fn_of (rvs := rv28) (j := ir28) Try.func28 rfl fit28 (Nat.le_of_ble_eq_true rfl) (by kernel_rfl) prog_mixed ?_
  intro g2 F hg2 hF
  obtain rfl : g2 = g := hg2.unique.trans hg.symm
  clear hg2
  obtain ⟨wrap, lt, le, eq, quo, rem, band, bor, bxor, shl, shr, nat, int, add, sub, mul, cat, seq, slt, sub3, byte, llen, nadd, nsub, dlen, dapp, dset, drep, rd, rda, up, rsub, dsub, all, sle, slen, hasI, putI, hasS, putS, imin, imax, fzc⟩ := g2
  obtain ⟨r_Item, d_Item, r_Chute, d_Chute, r_Inlet, d_Inlet, r_I64, d_I64, r_U8, d_U8, d_InletF⟩ := t
  obtain ⟨a0_Belt, a0_Chutes, a0_Inlets, a0_Plan, a0_Now⟩ := a0
  obtain ⟨a1_Belt, a1_Chutes, a1_Inlets, a1_Plan, a1_Now⟩ := a1
  unfold L_eqCentre at h
  try dsimp only at h
  cbv
  obtain ⟨x1, hx1, h⟩ := of_cl h
  try dsimp only at h
  refine ACall.mk _ _ rfl (hF _ _ _ (c_L_eqItemS hg ht hx1)) (.inl rfl) (Nat.le_of_ble_eq_true rfl) ?_
  cbv
  cases hb1 : x1 with
  | true =>
    rw [br_true hb1] at h
    cbv
    obtain ⟨x2, hx2, h⟩ := of_cl h
    try dsimp only at h
    refine ACall.mk _ _ rfl (hF _ _ _ (c_L_eqChuteS hg ht hx2)) (.inl rfl) (Nat.le_of_ble_eq_true rfl) ?_
    cbv
    cases hb2 : x2 with
    | true =>
      rw [br_true hb2] at h
      cbv
      obtain ⟨x3, hx3, h⟩ := of_cl h
      try dsimp only at h
      refine ACall.mk _ _ rfl (hF _ _ _ (c_L_eqInletS hg ht hx3)) (.inl rfl) (Nat.le_of_ble_eq_true rfl) ?_
      cbv
      cases hb3 : x3 with
      | true =>
        rw [br_true hb3] at h
        cbv
        obtain ⟨x4, hx4, h⟩ := of_cl h
        try dsimp only at h
        refine ACall.mk _ _ rfl (hF _ _ _ (c_L_eqIntS hg ht hx4)) (.inl rfl) (Nat.le_of_ble_eq_true rfl) ?_
        cbv
        cases hb4 : x4 with
        | true =>
          rw [br_true hb4] at h
          cbv
          cases hb5 : (eq a0_Now a1_Now) with
          | true =>
            rw [br_true hb5] at h
            cbv
            obtain rfl := Option.some.inj h
            exact ARet.mk trivial hX.symm
          | false =>
            rw [br_false hb5] at h
            cbv
            obtain rfl := Option.some.inj h
            exact ARet.mk trivial hX.symm
        | false =>
          rw [br_false hb4] at h
          cbv
          obtain rfl := Option.some.inj h
          exact ARet.mk trivial hX.symm
      | false =>
        rw [br_false hb3] at h
        cbv
        obtain rfl := Option.some.inj h
        exact ARet.mk trivial hX.symm
    | false =>
      rw [br_false hb2] at h
      cbv
      obtain rfl := Option.some.inj h
      exact ARet.mk trivial hX.symm
  | false =>
    rw [br_false hb1] at h
    cbv
    obtain rfl := Option.some.inj h
    exact ARet.mk trivial hX.symm
end Go.Vs
namespace Go.Vs
set_option maxRecDepth 100000
def ir48 : J :=
  .seq (.reg none [⟨(some 4), none, .mv (.k (V.i 0))⟩] [0, 1])
  (.seq (.seq (.reg none [⟨(some 5), none, .mv (.k (V.i 0))⟩] [0, 1, 5])
   (.bl 0 (.seq (.seq (.reg none [⟨(some 6), none, .mv (.t 5)⟩,
        ⟨(some 7), none, .mv (.t 0)⟩,
        ⟨(some 8), none, .len false (.t 7)⟩,
        ⟨(some 9), none, .bin .lss .i (.t 6) (.t 8)⟩] [0, 1, 5, 9])
     (.cond (.t 9)
      (.skip)
      (.exit 0)))
    (.seq (.block 1 (.seq (.reg none [⟨(some 12), none, .mv (.t 0)⟩,
         ⟨(some 13), none, .mv (.t 5)⟩,
         ⟨(some 14), none, .mv (.t 1)⟩,
         ⟨(some 15), none, .ia 1 (.t 12) (.t 13)⟩,
         ⟨none, none, .st 1 (.t 15) (.t 14)⟩] [0, 1, 5])
      (.reg none [⟨(some 16), none, .mv (.t 1)⟩,
        ⟨(some 17), none, .bin .add .i (.t 16) (.k (V.i 1))⟩,
        ⟨(some 1), none, .mv (.t 17)⟩] [0, 1, 5])))
    (.reg none [⟨(some 10), none, .mv (.t 5)⟩,
      ⟨(some 11), none, .bin .add .i (.t 10) (.k (V.i 1))⟩,
      ⟨(some 5), none, .mv (.t 11)⟩] [0, 1, 5])))))
  (.seq (.reg none [⟨(some 18), none, .mv (.t 1)⟩,
     ⟨(some 4), none, .mv (.t 18)⟩] [4])
  (.ret)))
def rv48 : List RV := [.t 4]
open Go.Proofs Go.IntWalk
set_option linter.unusedVariables false
set_option maxRecDepth 100000
set_option maxHeartbeats 4000000
def L_markIntS_l1 (g : G) (t : TE) : Nat → List Int → Int → Int → Option ((List Int) × Int)
  | 0, _, _, _ => none
  | n1 + 1, w1, v1, v2 =>
    br (g.lt v2 (g.int (g.dlen (t.d_I64 w1))))
    (
     gd (((0 : Int) ≤ v2 ∧ v2 < (((g.dlen (t.d_I64 w1)) : Nat) : Int))) <|
     gt w1 (g.nat v2) fun x1 =>
     lP (List.set w1 (g.nat v2) v1) fun (l1 : List Int) =>
     L_markIntS_l1 g t n1 l1 (g.wrap .i64 (g.add v1 1)) (g.wrap .i64 (g.add v2 1)))
    (
     some (w1, v1))
def L_markIntS (g : G) (t : TE) (a0 : List Int) (a1 : Int) : Option (Int × (List Int)) :=
  cl (L_markIntS_l1 g t 1000000000 a0 a1 0) fun y1 =>
  gd ((y1.1.length = a0.length)) <|
  some ((y1.2, y1.1))
theorem fit48 : codeFit Try.prog Try.f48.ntmps (Try.f48.body.getD .skip) ir48 = true := by kernel_rfl
theorem c_L_markIntS {g : G} {t : TE} {a0 : List Int} {a1 : Int} {r : Int × (List Int)} (hg : g = G.real) (ht : t = TE.real) (h : L_markIntS g t a0 a1 = some r) : FnM Try.prog 48 (.m (.o 1 (t.d_I64 a0))) [.c (.v (.int .i64 a1))] (.c (.r (.v (.int .i64 r.1)))) (.m (.o 1 (t.d_I64 r.2))) := by
  obtain ⟨X, hX⟩ := hide (.c (.r (.v (.int .i64 r.1))) : X)
  obtain ⟨Y, hY⟩ := hide (.m (.o 1 (t.d_I64 r.2)) : AM)
  rw [← hX, ← hY]
  refine fnM_of (rvs := rv48) (j := ir48) Try.func48 rfl fit48 (Nat.le_of_ble_eq_true rfl) (by kernel_rfl) prog_mixed ?_
  intro g2 F hg2 hF
  obtain rfl : g2 = g := hg2.unique.trans hg.symm
  clear hg2
  obtain ⟨wrap, lt, le, eq, quo, rem, band, bor, bxor, shl, shr, nat, int, add, sub, mul, cat, seq, slt, sub3, byte, llen, nadd, nsub, dlen, dapp, dset, drep, rd, rda, up, rsub, dsub, all, sle, slen, hasI, putI, hasS, putS, imin, imax, fzc⟩ := g2
  obtain ⟨r_Item, d_Item, r_Chute, d_Chute, r_Inlet, d_Inlet, r_I64, d_I64, r_U8, d_U8, d_InletF⟩ := t
  unfold L_markIntS at h
  try dsimp only at h
  cbv
  obtain ⟨o1, ho1, h⟩ := of_cl h
  try dsimp only at h
  try rw [hg] at ho1
  try rw [ht] at ho1
  refine ABL.mk { p : Nat × (List Int) × Int × Int // L_markIntS_l1 G.real TE.real p.1 p.2.1 p.2.2.1 p.2.2.2 = some o1 } (fun ⟨⟨n1, w1, v1, v2⟩, _⟩ => ({ sl := [(0, .c (.f 0 1 0 (dlen (d_I64 w1)))), (1, .c (.r (.v (.int .i64 v1)))), (5, .c (.r (.v (.int .i64 v2))))], tab := [(0, some (.arr 1 (d_I64 w1)))] } : St)) 1 (fun p => p.1.1) ⟨(1000000000, a0, a1, 0), ho1⟩ ((List Int) × Int) (fun ⟨y1_1, y1_2⟩ => ({ sl := [(1, .c (.r (.v (.int .i64 y1_2))))], tab := [(0, some (.arr 1 (d_I64 y1_1)))] } : St)) 1 (fun y => o1 = y) ?_ ?_ ?_
  · refine Wk.of [(0, some 0)] rfl rfl ?_ ?_
    · cbv
      all_goals exact ⟨⟨_, rfl, rfl⟩, ⟨_, rfl, rfl⟩, ⟨_, rfl, rfl⟩, trivial⟩
    · cbv
      all_goals exact ⟨⟨_, rfl, rfl⟩, trivial⟩
  · rintro ⟨⟨n1, w1, v1, v2⟩, h_1⟩ hq1
    try dsimp only at h_1
    clear hq1
    rcases n1 with _ | n1
    · rw [L_markIntS_l1] at h_1; cases h_1
    · rw [L_markIntS_l1] at h_1
      try rw [← hg] at h_1
      try rw [← ht] at h_1
      try dsimp only at h_1
      cbv
      cases hb1 : (lt v2 (int (dlen (d_I64 w1)))) with
      | true =>
        rw [br_true hb1] at h_1
        cbv
        obtain ⟨hc1, h_1⟩ := of_gd h_1
        refine AStep.mk hc1 ?_
        cbv
        obtain ⟨x1, hx1, h_1⟩ := of_gt h_1
        try dsimp only at h_1
        refine AGet.mk _ (d_get_I64 hg ht hx1) ?_
        cbv
        obtain ⟨l1, hl1, h_1⟩ := of_lP h_1
        try dsimp only at h_1
        refine ANew.mk (d_I64 l1) _ (by rw [← hl1]; exact dset_I64 hg ht _ _ v1) rfl ?_
        have hnl1 : (dlen (d_I64 w1)) = (d_I64 l1).length := (by rw [← hl1, dsetl_I64 ht]; exact (dlen_I64 hg ht _))
        cbv
        try rw [hg] at h_1
        try rw [ht] at h_1
        refine ⟨⟨(n1, l1, (wrap .i64 (add v1 1)), (wrap .i64 (add v2 1))), h_1⟩, Wk.of [(0, some 0)] rfl rfl ?_ ?_, Nat.lt_succ_self _⟩
        · cbv
          all_goals try rw [show (dlen (d_I64 w1)) = (dlen (d_I64 l1)) from (hnl1).trans (dlen_I64 hg ht _).symm]
          all_goals exact ⟨⟨_, rfl, rfl⟩, ⟨_, rfl, rfl⟩, ⟨_, rfl, rfl⟩, trivial⟩
        · cbv
          all_goals try rw [show (dlen (d_I64 w1)) = (dlen (d_I64 l1)) from (hnl1).trans (dlen_I64 hg ht _).symm]
          all_goals exact ⟨⟨_, rfl, rfl⟩, trivial⟩
      | false =>
        rw [br_false hb1] at h_1
        cbv
        refine ⟨(w1, v1), Wk.of [(0, some 0)] rfl rfl ?_ ?_, (Option.some.inj h_1).symm⟩
        · cbv
          all_goals exact ⟨⟨_, rfl, rfl⟩, trivial⟩
        · cbv
          all_goals exact ⟨⟨_, rfl, rfl⟩, trivial⟩
  · rintro ⟨y1_1, y1_2⟩ hy1
    replace hy1 := hy1.symm
    subst hy1
    try dsimp only [lr, lrL, lrp, lrpL] at h
    cbv
    obtain ⟨hc2, h⟩ := of_gd h
    obtain rfl := Option.some.inj h
    exact ARetM.mk ⟨rfl, (lenp_I64 ht (dlen_I64 hg ht _) hc2)⟩ hX.symm hY.symm
end Go.Vs
namespace Go.Vs
set_option maxRecDepth 100000
def ir65 : J :=
  .seq (.reg none [⟨(some 4), none, .mv (.k (V.i 0))⟩] [0, 1])
  (.seq (.seq (.reg none [⟨(some 5), none, .mv (.k (V.i 0))⟩] [0, 1, 5])
   (.bl 0 (.seq (.seq (.reg none [⟨(some 6), none, .mv (.t 5)⟩,
        ⟨(some 7), none, .mv (.t 0)⟩,
        ⟨(some 8), none, .len false (.t 7)⟩,
        ⟨(some 9), none, .bin .lss .i (.t 6) (.t 8)⟩] [0, 1, 5, 9])
     (.cond (.t 9)
      (.skip)
      (.exit 0)))
    (.seq (.block 1 (.seq (.reg none [⟨(some 12), none, .mv (.t 0)⟩,
         ⟨(some 13), none, .mv (.t 5)⟩,
         ⟨(some 14), none, .mv (.t 1)⟩,
         ⟨(some 15), none, .ia 2 (.t 12) (.t 13)⟩,
         ⟨(some 16), none, .fa 0 (.t 15)⟩,
         ⟨none, none, .st 1 (.t 16) (.t 14)⟩] [0, 1, 5])
      (.seq (.reg none [⟨(some 17), none, .mv (.t 1)⟩,
         ⟨(some 18), none, .bin .add .i (.t 17) (.k (V.i 1))⟩,
         ⟨(some 1), none, .mv (.t 18)⟩] [0, 1, 5])
      (.seq (.reg none [⟨(some 19), none, .mv (.t 0)⟩,
         ⟨(some 20), none, .mv (.t 5)⟩,
         ⟨(some 21), none, .mv (.t 1)⟩,
         ⟨(some 22), none, .ia 2 (.t 19) (.t 20)⟩,
         ⟨(some 23), none, .fa 1 (.t 22)⟩,
         ⟨none, none, .st 1 (.t 23) (.t 21)⟩] [0, 1, 5])
      (.reg none [⟨(some 24), none, .mv (.t 1)⟩,
        ⟨(some 25), none, .bin .add .i (.t 24) (.k (V.i 1))⟩,
        ⟨(some 1), none, .mv (.t 25)⟩] [0, 1, 5])))))
    (.reg none [⟨(some 10), none, .mv (.t 5)⟩,
      ⟨(some 11), none, .bin .add .i (.t 10) (.k (V.i 1))⟩,
      ⟨(some 5), none, .mv (.t 11)⟩] [0, 1, 5])))))
  (.seq (.reg none [⟨(some 26), none, .mv (.t 1)⟩,
     ⟨(some 4), none, .mv (.t 26)⟩] [4])
  (.ret)))
def rv65 : List RV := [.t 4]
open Go.Proofs Go.IntWalk
set_option linter.unusedVariables false
set_option maxRecDepth 100000
set_option maxHeartbeats 4000000
def L_markItemS_l1 (g : G) (t : TE) : Nat → List Item → Int → Int → Option ((List Item) × Int)
  | 0, _, _, _ => none
  | n1 + 1, w1, v1, v2 =>
    br (g.lt v2 (g.int (g.dlen (t.d_Item w1))))
    (
     gd (((0 : Int) ≤ v2 ∧ v2 < (((g.dlen (t.d_Item w1)) : Nat) : Int))) <|
     gt w1 (g.nat v2) fun x1 =>
     lP (List.set w1 (g.nat v2) (Item.mk v1 x1.Dest)) fun (l1 : List Item) =>
     gd (((0 : Int) ≤ v2 ∧ v2 < (((g.dlen (t.d_Item w1)) : Nat) : Int))) <|
     gt l1 (g.nat v2) fun x2 =>
     lP (List.set l1 (g.nat v2) (Item.mk x2.Id (g.wrap .i64 (g.add v1 1)))) fun (l2 : List Item) =>
     L_markItemS_l1 g t n1 l2 (g.wrap .i64 (g.add (g.wrap .i64 (g.add v1 1)) 1)) (g.wrap .i64 (g.add v2 1)))
    (
     some (w1, v1))
def L_markItemS (g : G) (t : TE) (a0 : List Item) (a1 : Int) : Option (Int × (List Item)) :=
  cl (L_markItemS_l1 g t 1000000000 a0 a1 0) fun y1 =>
  gd ((y1.1.length = a0.length)) <|
  some ((y1.2, y1.1))
theorem fit65 : codeFit Try.prog Try.f65.ntmps (Try.f65.body.getD .skip) ir65 = true := by kernel_rfl
theorem c_L_markItemS {g : G} {t : TE} {a0 : List Item} {a1 : Int} {r : Int × (List Item)} (hg : g = G.real) (ht : t = TE.real) (h : L_markItemS g t a0 a1 = some r) : FnM Try.prog 65 (.m (.o 2 (t.d_Item a0))) [.c (.v (.int .i64 a1))] (.c (.r (.v (.int .i64 r.1)))) (.m (.o 2 (t.d_Item r.2))) := by
  obtain ⟨X, hX⟩ := hide (.c (.r (.v (.int .i64 r.1))) : X)
  obtain ⟨Y, hY⟩ := hide (.m (.o 2 (t.d_Item r.2)) : AM)
  rw [← hX, ← hY]
  refine fnM_of (rvs := rv65) (j := ir65) Try.func65 rfl fit65 (Nat.le_of_ble_eq_true rfl) (by kernel_rfl) prog_mixed ?_
  intro g2 F hg2 hF
  obtain rfl : g2 = g := hg2.unique.trans hg.symm
  clear hg2
  obtain ⟨wrap, lt, le, eq, quo, rem, band, bor, bxor, shl, shr, nat, int, add, sub, mul, cat, seq, slt, sub3, byte, llen, nadd, nsub, dlen, dapp, dset, drep, rd, rda, up, rsub, dsub, all, sle, slen, hasI, putI, hasS, putS, imin, imax, fzc⟩ := g2
  obtain ⟨r_Item, d_Item, r_Chute, d_Chute, r_Inlet, d_Inlet, r_I64, d_I64, r_U8, d_U8, d_InletF⟩ := t
  unfold L_markItemS at h
  try dsimp only at h
  cbv
  obtain ⟨o1, ho1, h⟩ := of_cl h
  try dsimp only at h
  try rw [hg] at ho1
  try rw [ht] at ho1
  refine ABL.mk { p : Nat × (List Item) × Int × Int // L_markItemS_l1 G.real TE.real p.1 p.2.1 p.2.2.1 p.2.2.2 = some o1 } (fun ⟨⟨n1, w1, v1, v2⟩, _⟩ => ({ sl := [(0, .c (.f 0 2 0 (dlen (d_Item w1)))), (1, .c (.r (.v (.int .i64 v1)))), (5, .c (.r (.v (.int .i64 v2))))], tab := [(0, some (.arr 2 (d_Item w1)))] } : St)) 1 (fun p => p.1.1) ⟨(1000000000, a0, a1, 0), ho1⟩ ((List Item) × Int) (fun ⟨y1_1, y1_2⟩ => ({ sl := [(1, .c (.r (.v (.int .i64 y1_2))))], tab := [(0, some (.arr 2 (d_Item y1_1)))] } : St)) 1 (fun y => o1 = y) ?_ ?_ ?_
  · refine Wk.of [(0, some 0)] rfl rfl ?_ ?_
    · cbv
      all_goals exact ⟨⟨_, rfl, rfl⟩, ⟨_, rfl, rfl⟩, ⟨_, rfl, rfl⟩, trivial⟩
    · cbv
      all_goals exact ⟨⟨_, rfl, rfl⟩, trivial⟩
  · rintro ⟨⟨n1, w1, v1, v2⟩, h_1⟩ hq1
    try dsimp only at h_1
    clear hq1
    rcases n1 with _ | n1
    · rw [L_markItemS_l1] at h_1; cases h_1
    · rw [L_markItemS_l1] at h_1
      try rw [← hg] at h_1
      try rw [← ht] at h_1
      try dsimp only at h_1
      cbv
      cases hb1 : (lt v2 (int (dlen (d_Item w1)))) with
      | true =>
        rw [br_true hb1] at h_1
        cbv
        obtain ⟨hc1, h_1⟩ := of_gd h_1
        refine AStep.mk hc1 ?_
        cbv
        obtain ⟨x1, hx1, h_1⟩ := of_gt h_1
        obtain ⟨x1_Id, x1_Dest⟩ := x1
        try dsimp only at h_1
        refine AGet.mk _ (d_get_Item hg ht hx1) ?_
        cbv
        obtain ⟨l1, hl1, h_1⟩ := of_lP h_1
        try dsimp only at h_1
        refine ANew.mk (d_Item l1) _ (by rw [← hl1]; exact dset_Item hg ht _ _ (Item.mk v1 x1_Dest)) rfl ?_
        have hnl1 : (dlen (d_Item w1)) = (d_Item l1).length := (by rw [← hl1, dsetl_Item ht]; exact (dlen_Item hg ht _))
        cbv
        obtain ⟨hc2, h_1⟩ := of_gd h_1
        refine AStep.mk hc2 ?_
        cbv
        obtain ⟨x2, hx2, h_1⟩ := of_gt h_1
        obtain ⟨x2_Id, x2_Dest⟩ := x2
        try dsimp only at h_1
        refine AGet.mk _ (d_get_Item hg ht hx2) ?_
        cbv
        obtain ⟨l2, hl2, h_1⟩ := of_lP h_1
        try dsimp only at h_1
        refine ANew.mk (d_Item l2) _ (by rw [← hl2]; exact dset_Item hg ht _ _ (Item.mk x2_Id (wrap .i64 (add v1 1)))) rfl ?_
        have hnl2 : (dlen (d_Item w1)) = (d_Item l2).length := (by rw [← hl2, dsetl_Item ht]; exact hnl1)
        cbv
        try rw [hg] at h_1
        try rw [ht] at h_1
        refine ⟨⟨(n1, l2, (wrap .i64 (add (wrap .i64 (add v1 1)) 1)), (wrap .i64 (add v2 1))), h_1⟩, Wk.of [(0, some 0)] rfl rfl ?_ ?_, Nat.lt_succ_self _⟩
        · cbv
          all_goals try rw [show (dlen (d_Item w1)) = (dlen (d_Item l2)) from (hnl2).trans (dlen_Item hg ht _).symm]
          all_goals exact ⟨⟨_, rfl, rfl⟩, ⟨_, rfl, rfl⟩, ⟨_, rfl, rfl⟩, trivial⟩
        · cbv
          all_goals try rw [show (dlen (d_Item w1)) = (dlen (d_Item l2)) from (hnl2).trans (dlen_Item hg ht _).symm]
          all_goals exact ⟨⟨_, rfl, rfl⟩, trivial⟩
      | false =>
        rw [br_false hb1] at h_1
        cbv
        refine ⟨(w1, v1), Wk.of [(0, some 0)] rfl rfl ?_ ?_, (Option.some.inj h_1).symm⟩
        · cbv
          all_goals exact ⟨⟨_, rfl, rfl⟩, trivial⟩
        · cbv
          all_goals exact ⟨⟨_, rfl, rfl⟩, trivial⟩
  · rintro ⟨y1_1, y1_2⟩ hy1
    replace hy1 := hy1.symm
    subst hy1
    try dsimp only [lr, lrL, lrp, lrpL] at h
    cbv
    obtain ⟨hc3, h⟩ := of_gd h
    obtain rfl := Option.some.inj h
    exact ARetM.mk ⟨rfl, (lenp_Item ht (dlen_Item hg ht _) hc3)⟩ hX.symm hY.symm
end Go.Vs
namespace Go.Vs
set_option maxRecDepth 100000
def ir97 : J :=
  .seq (.reg none [⟨(some 4), none, .mv (.k (V.i 0))⟩] [0, 1])
  (.seq (.seq (.reg none [⟨(some 5), none, .mv (.k (V.i 0))⟩] [0, 1, 5])
   (.bl 0 (.seq (.seq (.reg none [⟨(some 6), none, .mv (.t 5)⟩,
        ⟨(some 7), none, .mv (.t 0)⟩,
        ⟨(some 8), none, .len false (.t 7)⟩,
        ⟨(some 9), none, .bin .lss .i (.t 6) (.t 8)⟩] [0, 1, 5, 9])
     (.cond (.t 9)
      (.skip)
      (.exit 0)))
    (.seq (.block 1 (.seq (.reg none [⟨(some 12), none, .mv (.t 0)⟩,
         ⟨(some 13), none, .mv (.t 5)⟩,
         ⟨(some 14), none, .mv (.t 1)⟩,
         ⟨(some 15), none, .ia 3 (.t 12) (.t 13)⟩,
         ⟨(some 16), none, .fa 0 (.t 15)⟩,
         ⟨none, none, .st 1 (.t 16) (.t 14)⟩] [0, 1, 5])
      (.seq (.reg none [⟨(some 17), none, .mv (.t 1)⟩,
         ⟨(some 18), none, .bin .add .i (.t 17) (.k (V.i 1))⟩,
         ⟨(some 1), none, .mv (.t 18)⟩] [0, 1, 5])
      (.seq (.reg none [⟨(some 19), none, .mv (.t 0)⟩,
         ⟨(some 20), none, .mv (.t 5)⟩,
         ⟨(some 21), none, .mv (.t 1)⟩,
         ⟨(some 22), none, .ia 3 (.t 19) (.t 20)⟩,
         ⟨(some 23), none, .fa 1 (.t 22)⟩,
         ⟨none, none, .st 1 (.t 23) (.t 21)⟩] [0, 1, 5])
      (.seq (.reg none [⟨(some 24), none, .mv (.t 1)⟩,
         ⟨(some 25), none, .bin .add .i (.t 24) (.k (V.i 1))⟩,
         ⟨(some 1), none, .mv (.t 25)⟩] [0, 1, 5])
      (.gh (.ga (.reg none [⟨(some 26), none, .mv (.t 0)⟩,
         ⟨(some 27), none, .mv (.t 5)⟩,
         ⟨(some 28), none, .ia 3 (.t 26) (.t 27)⟩,
         ⟨(some 29), none, .fa 2 (.t 28)⟩,
         ⟨(some 30), none, .ld false 1 (.t 29)⟩,
         ⟨(some 31), none, .mv (.t 1)⟩,
         ⟨(some 32), none, .callm 65 (.t 30) [(.t 31)]⟩,
         ⟨(some 1), none, .mv (.t 32)⟩] [0, 1, 5]))))))))
    (.reg none [⟨(some 10), none, .mv (.t 5)⟩,
      ⟨(some 11), none, .bin .add .i (.t 10) (.k (V.i 1))⟩,
      ⟨(some 5), none, .mv (.t 11)⟩] [0, 1, 5])))))
  (.seq (.reg none [⟨(some 33), none, .mv (.t 1)⟩,
     ⟨(some 4), none, .mv (.t 33)⟩] [4])
  (.ret)))
def rv97 : List RV := [.t 4]
open Go.Proofs Go.IntWalk
set_option linter.unusedVariables false
set_option maxRecDepth 100000
set_option maxHeartbeats 4000000
def L_markChuteS_l1 (g : G) (t : TE) : Nat → List Chute → Int → Int → Option ((List Chute) × Int)
  | 0, _, _, _ => none
  | n1 + 1, w1, v1, v2 =>
    br (g.lt v2 (g.int (g.dlen (t.d_Chute w1))))
    (
     gd (((0 : Int) ≤ v2 ∧ v2 < (((g.dlen (t.d_Chute w1)) : Nat) : Int))) <|
     gt w1 (g.nat v2) fun x1 =>
     lP (List.set w1 (g.nat v2) (Chute.mk v1 x1.Room x1.Held)) fun (l1 : List Chute) =>
     gd (((0 : Int) ≤ v2 ∧ v2 < (((g.dlen (t.d_Chute w1)) : Nat) : Int))) <|
     gt l1 (g.nat v2) fun x2 =>
     lP (List.set l1 (g.nat v2) (Chute.mk x2.Cell (g.wrap .i64 (g.add v1 1)) x2.Held)) fun (l2 : List Chute) =>
     gt l2 (g.nat v2) fun x3 =>
     gd (((0 : Int) ≤ v2 ∧ v2 < (((g.dlen (t.d_Chute w1)) : Nat) : Int))) <|
     cl (L_markItemS g t x3.Held (g.wrap .i64 (g.add (g.wrap .i64 (g.add v1 1)) 1))) fun x4 =>
     gd ((x4.2.length = x3.Held.length)) <|
     lP (List.set l2 (g.nat v2) (Chute.mk x3.Cell x3.Room x4.2)) fun (l3 : List Chute) =>
     L_markChuteS_l1 g t n1 l3 x4.1 (g.wrap .i64 (g.add v2 1)))
    (
     some (w1, v1))
def L_markChuteS (g : G) (t : TE) (a0 : List Chute) (a1 : Int) : Option (Int × (List Chute)) :=
  cl (L_markChuteS_l1 g t 1000000000 a0 a1 0) fun y1 =>
  gd ((y1.1.length = a0.length)) <|
  some ((y1.2, y1.1))
theorem fit97 : codeFit Try.prog Try.f97.ntmps (Try.f97.body.getD .skip) ir97 = true := by kernel_rfl
theorem c_L_markChuteS {g : G} {t : TE} {a0 : List Chute} {a1 : Int} {r : Int × (List Chute)} (hg : g = G.real) (ht : t = TE.real) (h : L_markChuteS g t a0 a1 = some r) : FnM Try.prog 97 (.m (.o 3 (t.d_Chute a0))) [.c (.v (.int .i64 a1))] (.c (.r (.v (.int .i64 r.1)))) (.m (.o 3 (t.d_Chute r.2))) := by
  obtain ⟨X, hX⟩ := hide (.c (.r (.v (.int .i64 r.1))) : X)
  obtain ⟨Y, hY⟩ := hide (.m (.o 3 (t.d_Chute r.2)) : AM)
  rw [← hX, ← hY]
  refine fnM_of (rvs := rv97) (j := ir97) Try.func97 rfl fit97 (Nat.le_of_ble_eq_true rfl) (by kernel_rfl) prog_mixed ?_
  intro g2 F hg2 hF
  obtain rfl : g2 = g := hg2.unique.trans hg.symm
  clear hg2
  obtain ⟨wrap, lt, le, eq, quo, rem, band, bor, bxor, shl, shr, nat, int, add, sub, mul, cat, seq, slt, sub3, byte, llen, nadd, nsub, dlen, dapp, dset, drep, rd, rda, up, rsub, dsub, all, sle, slen, hasI, putI, hasS, putS, imin, imax, fzc⟩ := g2
  obtain ⟨r_Item, d_Item, r_Chute, d_Chute, r_Inlet, d_Inlet, r_I64, d_I64, r_U8, d_U8, d_InletF⟩ := t
  unfold L_markChuteS at h
  try dsimp only at h
  cbv
  obtain ⟨o1, ho1, h⟩ := of_cl h
  try dsimp only at h
  try rw [hg] at ho1
  try rw [ht] at ho1
  refine ABL.mk { p : Nat × (List Chute) × Int × Int // L_markChuteS_l1 G.real TE.real p.1 p.2.1 p.2.2.1 p.2.2.2 = some o1 } (fun ⟨⟨n1, w1, v1, v2⟩, _⟩ => ({ sl := [(0, .c (.f 0 3 0 (dlen (d_Chute w1)))), (1, .c (.r (.v (.int .i64 v1)))), (5, .c (.r (.v (.int .i64 v2))))], tab := [(0, some (.arr 3 (d_Chute w1)))] } : St)) 1 (fun p => p.1.1) ⟨(1000000000, a0, a1, 0), ho1⟩ ((List Chute) × Int) (fun ⟨y1_1, y1_2⟩ => ({ sl := [(1, .c (.r (.v (.int .i64 y1_2))))], tab := [(0, some (.arr 3 (d_Chute y1_1)))] } : St)) 1 (fun y => o1 = y) ?_ ?_ ?_
  · refine Wk.of [(0, some 0)] rfl rfl ?_ ?_
    · cbv
      all_goals exact ⟨⟨_, rfl, rfl⟩, ⟨_, rfl, rfl⟩, ⟨_, rfl, rfl⟩, trivial⟩
    · cbv
      all_goals exact ⟨⟨_, rfl, rfl⟩, trivial⟩
  · rintro ⟨⟨n1, w1, v1, v2⟩, h_1⟩ hq1
    try dsimp only at h_1
    clear hq1
    rcases n1 with _ | n1
    · rw [L_markChuteS_l1] at h_1; cases h_1
    · rw [L_markChuteS_l1] at h_1
      try rw [← hg] at h_1
      try rw [← ht] at h_1
      try dsimp only at h_1
      cbv
      cases hb1 : (lt v2 (int (dlen (d_Chute w1)))) with
      | true =>
        rw [br_true hb1] at h_1
        cbv
        obtain ⟨hc1, h_1⟩ := of_gd h_1
        refine AStep.mk hc1 ?_
        cbv
        obtain ⟨x1, hx1, h_1⟩ := of_gt h_1
        obtain ⟨x1_Cell, x1_Room, x1_Held⟩ := x1
        try dsimp only at h_1
        refine AGet.mk _ (d_get_Chute hg ht hx1) ?_
        cbv
        obtain ⟨l1, hl1, h_1⟩ := of_lP h_1
        try dsimp only at h_1
        refine ANew.mk (d_Chute l1) _ (by rw [← hl1]; exact dset_Chute hg ht _ _ (Chute.mk v1 x1_Room x1_Held)) rfl ?_
        have hnl1 : (dlen (d_Chute w1)) = (d_Chute l1).length := (by rw [← hl1, dsetl_Chute ht]; exact (dlen_Chute hg ht _))
        cbv
        obtain ⟨hc2, h_1⟩ := of_gd h_1
        refine AStep.mk hc2 ?_
        cbv
        obtain ⟨x2, hx2, h_1⟩ := of_gt h_1
        obtain ⟨x2_Cell, x2_Room, x2_Held⟩ := x2
        try dsimp only at h_1
        refine AGet.mk _ (d_get_Chute hg ht hx2) ?_
        cbv
        obtain ⟨l2, hl2, h_1⟩ := of_lP h_1
        try dsimp only at h_1
        refine ANew.mk (d_Chute l2) _ (by rw [← hl2]; exact dset_Chute hg ht _ _ (Chute.mk x2_Cell (wrap .i64 (add v1 1)) x2_Held)) rfl ?_
        have hnl2 : (dlen (d_Chute w1)) = (d_Chute l2).length := (by rw [← hl2, dsetl_Chute ht]; exact hnl1)
        cbv
        obtain ⟨x3, hx3, h_1⟩ := of_gt h_1
        obtain ⟨x3_Cell, x3_Room, x3_Held⟩ := x3
        try dsimp only at h_1
        refine AGh.opn 0 3 (nat v2) (d_Chute l2) _ rfl (d_get_Chute hg ht hx3) rfl ?_
        cbv
        refine AGh.nil ?_
        cbv
        obtain ⟨hc3, h_1⟩ := of_gd h_1
        refine AStep.mk hc3 ?_
        cbv
        refine AStep.mk rfl ?_
        cbv
        refine AStep.mk ⟨rfl, (dlen_Item hg ht _)⟩ ?_
        cbv
        obtain ⟨x4, hx4, h_1⟩ := of_cl h_1
        obtain ⟨x4_1, x4_2⟩ := x4
        try dsimp only at h_1
        refine ACallM.mk _ _ _ _ rfl rfl (hF _ _ _ (c_L_markItemS hg ht hx4)) rfl (Nat.le_of_ble_eq_true rfl) (Nat.le_of_ble_eq_true rfl) ?_
        cbv
        obtain ⟨hc4, h_1⟩ := of_gd h_1
        obtain ⟨l3, hl3, h_1⟩ := of_lP h_1
        try dsimp only at h_1
        refine AGh.cls 0 3 (nat v2) (d_Chute l2) _ _ _ _ (d_Chute l3) rfl rfl ⟨rfl, (lenp_Item ht (dlen_Item hg ht _) hc4)⟩ (by rw [← hl3]; exact dset_Chute hg ht _ _ (Chute.mk x3_Cell x3_Room x4_2)) ?_
        have hnl3 : (dlen (d_Chute w1)) = (d_Chute l3).length := (by rw [← hl3, dsetl_Chute ht]; exact hnl2)
        cbv
        refine AGh.nil ?_
        cbv
        try rw [hg] at h_1
        try rw [ht] at h_1
        refine ⟨⟨(n1, l3, x4_1, (wrap .i64 (add v2 1))), h_1⟩, Wk.of [(0, some 0)] rfl rfl ?_ ?_, Nat.lt_succ_self _⟩
        · cbv
          all_goals try rw [show (dlen (d_Chute w1)) = (dlen (d_Chute l3)) from (hnl3).trans (dlen_Chute hg ht _).symm]
          all_goals exact ⟨⟨_, rfl, rfl⟩, ⟨_, rfl, rfl⟩, ⟨_, rfl, rfl⟩, trivial⟩
        · cbv
          all_goals try rw [show (dlen (d_Chute w1)) = (dlen (d_Chute l3)) from (hnl3).trans (dlen_Chute hg ht _).symm]
          all_goals exact ⟨⟨_, rfl, rfl⟩, trivial⟩
      | false =>
        rw [br_false hb1] at h_1
        cbv
        refine ⟨(w1, v1), Wk.of [(0, some 0)] rfl rfl ?_ ?_, (Option.some.inj h_1).symm⟩
        · cbv
          all_goals exact ⟨⟨_, rfl, rfl⟩, trivial⟩
        · cbv
          all_goals exact ⟨⟨_, rfl, rfl⟩, trivial⟩
  · rintro ⟨y1_1, y1_2⟩ hy1
    replace hy1 := hy1.symm
    subst hy1
    try dsimp only [lr, lrL, lrp, lrpL] at h
    cbv
    obtain ⟨hc5, h⟩ := of_gd h
    obtain rfl := Option.some.inj h
    exact ARetM.mk ⟨rfl, (lenp_Chute ht (dlen_Chute hg ht _) hc5)⟩ hX.symm hY.symm
end Go.Vs
namespace Go.Vs
set_option maxRecDepth 100000
def ir98 : J :=
  .seq (.reg none [⟨(some 4), none, .mv (.k (V.i 0))⟩] [0, 1])
  (.seq (.seq (.reg none [⟨(some 5), none, .mv (.k (V.i 0))⟩] [0, 1, 5])
   (.bl 0 (.seq (.seq (.reg none [⟨(some 6), none, .mv (.t 5)⟩,
        ⟨(some 7), none, .mv (.t 0)⟩,
        ⟨(some 8), none, .len false (.t 7)⟩,
        ⟨(some 9), none, .bin .lss .i (.t 6) (.t 8)⟩] [0, 1, 5, 9])
     (.cond (.t 9)
      (.skip)
      (.exit 0)))
    (.seq (.block 1 (.seq (.reg none [⟨(some 12), none, .mv (.t 0)⟩,
         ⟨(some 13), none, .mv (.t 5)⟩,
         ⟨(some 14), none, .mv (.t 1)⟩,
         ⟨(some 15), none, .ia 2 (.t 12) (.t 13)⟩,
         ⟨(some 16), none, .fa 0 (.t 15)⟩,
         ⟨none, none, .st 1 (.t 16) (.t 14)⟩] [0, 1, 5])
      (.seq (.reg none [⟨(some 17), none, .mv (.t 1)⟩,
         ⟨(some 18), none, .bin .add .i (.t 17) (.k (V.i 1))⟩,
         ⟨(some 1), none, .mv (.t 18)⟩] [0, 1, 5])
      (.gh (.ga (.reg none [⟨(some 19), none, .mv (.t 0)⟩,
         ⟨(some 20), none, .mv (.t 5)⟩,
         ⟨(some 21), none, .ia 2 (.t 19) (.t 20)⟩,
         ⟨(some 22), none, .fa 1 (.t 21)⟩,
         ⟨(some 23), none, .ld false 1 (.t 22)⟩,
         ⟨(some 24), none, .mv (.t 1)⟩,
         ⟨(some 25), none, .callm 65 (.t 23) [(.t 24)]⟩,
         ⟨(some 1), none, .mv (.t 25)⟩] [0, 1, 5]))))))
    (.reg none [⟨(some 10), none, .mv (.t 5)⟩,
      ⟨(some 11), none, .bin .add .i (.t 10) (.k (V.i 1))⟩,
      ⟨(some 5), none, .mv (.t 11)⟩] [0, 1, 5])))))
  (.seq (.reg none [⟨(some 26), none, .mv (.t 1)⟩,
     ⟨(some 4), none, .mv (.t 26)⟩] [4])
  (.ret)))
def rv98 : List RV := [.t 4]
open Go.Proofs Go.IntWalk
set_option linter.unusedVariables false
set_option maxRecDepth 100000
set_option maxHeartbeats 4000000
def L_markInletS_l1 (g : G) (t : TE) : Nat → List Inlet → Int → Int → Option ((List Inlet) × Int)
  | 0, _, _, _ => none
  | n1 + 1, w1, v1, v2 =>
    br (g.lt v2 (g.int (g.dlen (t.d_Inlet w1))))
    (
     gd (((0 : Int) ≤ v2 ∧ v2 < (((g.dlen (t.d_Inlet w1)) : Nat) : Int))) <|
     gt w1 (g.nat v2) fun x1 =>
     lP (List.set w1 (g.nat v2) (Inlet.mk v1 x1.Wait)) fun (l1 : List Inlet) =>
     gt l1 (g.nat v2) fun x2 =>
     gd (((0 : Int) ≤ v2 ∧ v2 < (((g.dlen (t.d_Inlet w1)) : Nat) : Int))) <|
     cl (L_markItemS g t x2.Wait (g.wrap .i64 (g.add v1 1))) fun x3 =>
     gd ((x3.2.length = x2.Wait.length)) <|
     lP (List.set l1 (g.nat v2) (Inlet.mk x2.Cell x3.2)) fun (l2 : List Inlet) =>
     L_markInletS_l1 g t n1 l2 x3.1 (g.wrap .i64 (g.add v2 1)))
    (
     some (w1, v1))
def L_markInletS (g : G) (t : TE) (a0 : List Inlet) (a1 : Int) : Option (Int × (List Inlet)) :=
  cl (L_markInletS_l1 g t 1000000000 a0 a1 0) fun y1 =>
  gd ((y1.1.length = a0.length)) <|
  some ((y1.2, y1.1))
theorem fit98 : codeFit Try.prog Try.f98.ntmps (Try.f98.body.getD .skip) ir98 = true := by kernel_rfl
theorem c_L_markInletS {g : G} {t : TE} {a0 : List Inlet} {a1 : Int} {r : Int × (List Inlet)} (hg : g = G.real) (ht : t = TE.real) (h : L_markInletS g t a0 a1 = some r) : FnM Try.prog 98 (.m (.o 2 (t.d_Inlet a0))) [.c (.v (.int .i64 a1))] (.c (.r (.v (.int .i64 r.1)))) (.m (.o 2 (t.d_Inlet r.2))) := by
  obtain ⟨X, hX⟩ := hide (.c (.r (.v (.int .i64 r.1))) : X)
  obtain ⟨Y, hY⟩ := hide (.m (.o 2 (t.d_Inlet r.2)) : AM)
  rw [← hX, ← hY]
  refine fnM_of (rvs := rv98) (j := ir98) Try.func98 rfl fit98 (Nat.le_of_ble_eq_true rfl) (by kernel_rfl) prog_mixed ?_
  intro g2 F hg2 hF
  obtain rfl : g2 = g := hg2.unique.trans hg.symm
  clear hg2
  obtain ⟨wrap, lt, le, eq, quo, rem, band, bor, bxor, shl, shr, nat, int, add, sub, mul, cat, seq, slt, sub3, byte, llen, nadd, nsub, dlen, dapp, dset, drep, rd, rda, up, rsub, dsub, all, sle, slen, hasI, putI, hasS, putS, imin, imax, fzc⟩ := g2
  obtain ⟨r_Item, d_Item, r_Chute, d_Chute, r_Inlet, d_Inlet, r_I64, d_I64, r_U8, d_U8, d_InletF⟩ := t
  unfold L_markInletS at h
  try dsimp only at h
  cbv
  obtain ⟨o1, ho1, h⟩ := of_cl h
  try dsimp only at h
  try rw [hg] at ho1
  try rw [ht] at ho1
  refine ABL.mk { p : Nat × (List Inlet) × Int × Int // L_markInletS_l1 G.real TE.real p.1 p.2.1 p.2.2.1 p.2.2.2 = some o1 } (fun ⟨⟨n1, w1, v1, v2⟩, _⟩ => ({ sl := [(0, .c (.f 0 2 0 (dlen (d_Inlet w1)))), (1, .c (.r (.v (.int .i64 v1)))), (5, .c (.r (.v (.int .i64 v2))))], tab := [(0, some (.arr 2 (d_Inlet w1)))] } : St)) 1 (fun p => p.1.1) ⟨(1000000000, a0, a1, 0), ho1⟩ ((List Inlet) × Int) (fun ⟨y1_1, y1_2⟩ => ({ sl := [(1, .c (.r (.v (.int .i64 y1_2))))], tab := [(0, some (.arr 2 (d_Inlet y1_1)))] } : St)) 1 (fun y => o1 = y) ?_ ?_ ?_
  · refine Wk.of [(0, some 0)] rfl rfl ?_ ?_
    · cbv
      all_goals exact ⟨⟨_, rfl, rfl⟩, ⟨_, rfl, rfl⟩, ⟨_, rfl, rfl⟩, trivial⟩
    · cbv
      all_goals exact ⟨⟨_, rfl, rfl⟩, trivial⟩
  · rintro ⟨⟨n1, w1, v1, v2⟩, h_1⟩ hq1
    try dsimp only at h_1
    clear hq1
    rcases n1 with _ | n1
    · rw [L_markInletS_l1] at h_1; cases h_1
    · rw [L_markInletS_l1] at h_1
      try rw [← hg] at h_1
      try rw [← ht] at h_1
      try dsimp only at h_1
      cbv
      cases hb1 : (lt v2 (int (dlen (d_Inlet w1)))) with
      | true =>
        rw [br_true hb1] at h_1
        cbv
        obtain ⟨hc1, h_1⟩ := of_gd h_1
        refine AStep.mk hc1 ?_
        cbv
        obtain ⟨x1, hx1, h_1⟩ := of_gt h_1
        obtain ⟨x1_Cell, x1_Wait⟩ := x1
        try dsimp only at h_1
        refine AGet.mk _ (d_get_Inlet hg ht hx1) ?_
        cbv
        obtain ⟨l1, hl1, h_1⟩ := of_lP h_1
        try dsimp only at h_1
        refine ANew.mk (d_Inlet l1) _ (by rw [← hl1]; exact dset_Inlet hg ht _ _ (Inlet.mk v1 x1_Wait)) rfl ?_
        have hnl1 : (dlen (d_Inlet w1)) = (d_Inlet l1).length := (by rw [← hl1, dsetl_Inlet ht]; exact (dlen_Inlet hg ht _))
        cbv
        obtain ⟨x2, hx2, h_1⟩ := of_gt h_1
        obtain ⟨x2_Cell, x2_Wait⟩ := x2
        try dsimp only at h_1
        refine AGh.opn 0 2 (nat v2) (d_Inlet l1) _ rfl (d_get_Inlet hg ht hx2) rfl ?_
        cbv
        refine AGh.nil ?_
        cbv
        obtain ⟨hc2, h_1⟩ := of_gd h_1
        refine AStep.mk hc2 ?_
        cbv
        refine AStep.mk rfl ?_
        cbv
        refine AStep.mk ⟨rfl, (dlen_Item hg ht _)⟩ ?_
        cbv
        obtain ⟨x3, hx3, h_1⟩ := of_cl h_1
        obtain ⟨x3_1, x3_2⟩ := x3
        try dsimp only at h_1
        refine ACallM.mk _ _ _ _ rfl rfl (hF _ _ _ (c_L_markItemS hg ht hx3)) rfl (Nat.le_of_ble_eq_true rfl) (Nat.le_of_ble_eq_true rfl) ?_
        cbv
        obtain ⟨hc3, h_1⟩ := of_gd h_1
        obtain ⟨l2, hl2, h_1⟩ := of_lP h_1
        try dsimp only at h_1
        refine AGh.cls 0 2 (nat v2) (d_Inlet l1) _ _ _ _ (d_Inlet l2) rfl rfl ⟨rfl, (lenp_Item ht (dlen_Item hg ht _) hc3)⟩ (by rw [← hl2]; exact dset_Inlet hg ht _ _ (Inlet.mk x2_Cell x3_2)) ?_
        have hnl2 : (dlen (d_Inlet w1)) = (d_Inlet l2).length := (by rw [← hl2, dsetl_Inlet ht]; exact hnl1)
        cbv
        refine AGh.nil ?_
        cbv
        try rw [hg] at h_1
        try rw [ht] at h_1
        refine ⟨⟨(n1, l2, x3_1, (wrap .i64 (add v2 1))), h_1⟩, Wk.of [(0, some 0)] rfl rfl ?_ ?_, Nat.lt_succ_self _⟩
        · cbv
          all_goals try rw [show (dlen (d_Inlet w1)) = (dlen (d_Inlet l2)) from (hnl2).trans (dlen_Inlet hg ht _).symm]
          all_goals exact ⟨⟨_, rfl, rfl⟩, ⟨_, rfl, rfl⟩, ⟨_, rfl, rfl⟩, trivial⟩
        · cbv
          all_goals try rw [show (dlen (d_Inlet w1)) = (dlen (d_Inlet l2)) from (hnl2).trans (dlen_Inlet hg ht _).symm]
          all_goals exact ⟨⟨_, rfl, rfl⟩, trivial⟩
      | false =>
        rw [br_false hb1] at h_1
        cbv
        refine ⟨(w1, v1), Wk.of [(0, some 0)] rfl rfl ?_ ?_, (Option.some.inj h_1).symm⟩
        · cbv
          all_goals exact ⟨⟨_, rfl, rfl⟩, trivial⟩
        · cbv
          all_goals exact ⟨⟨_, rfl, rfl⟩, trivial⟩
  · rintro ⟨y1_1, y1_2⟩ hy1
    replace hy1 := hy1.symm
    subst hy1
    try dsimp only [lr, lrL, lrp, lrpL] at h
    cbv
    obtain ⟨hc4, h⟩ := of_gd h
    obtain rfl := Option.some.inj h
    exact ARetM.mk ⟨rfl, (lenp_Inlet ht (dlen_Inlet hg ht _) hc4)⟩ hX.symm hY.symm
end Go.Vs
namespace Go.Vs
set_option maxRecDepth 100000
def ir49 : J :=
  .seq (.reg none [⟨(some 2), none, .box (.t 0)⟩,
     ⟨(some 4), none, .mv (.k (V.i 0))⟩] [1, 2])
  (.seq (.reg none [⟨(some 5), none, .fa 0 (.t 2)⟩,
     ⟨(some 6), none, .ld false 1 (.t 5)⟩,
     ⟨(some 7), none, .mv (.t 1)⟩,
     ⟨(some 8), none, .callm 65 (.t 6) [(.t 7)]⟩,
     ⟨(some 1), none, .mv (.t 8)⟩] [1, 2])
  (.seq (.reg none [⟨(some 9), none, .fa 1 (.t 2)⟩,
     ⟨(some 10), none, .ld false 1 (.t 9)⟩,
     ⟨(some 11), none, .mv (.t 1)⟩,
     ⟨(some 12), none, .callm 97 (.t 10) [(.t 11)]⟩,
     ⟨(some 1), none, .mv (.t 12)⟩] [1, 2])
  (.seq (.reg none [⟨(some 13), none, .fa 2 (.t 2)⟩,
     ⟨(some 14), none, .ld false 1 (.t 13)⟩,
     ⟨(some 15), none, .mv (.t 1)⟩,
     ⟨(some 16), none, .callm 98 (.t 14) [(.t 15)]⟩,
     ⟨(some 1), none, .mv (.t 16)⟩] [1, 2])
  (.seq (.reg none [⟨(some 17), none, .fa 3 (.t 2)⟩,
     ⟨(some 18), none, .ld false 1 (.t 17)⟩,
     ⟨(some 19), none, .mv (.t 1)⟩,
     ⟨(some 20), none, .callm 48 (.t 18) [(.t 19)]⟩,
     ⟨(some 1), none, .mv (.t 20)⟩] [1])
  (.seq (.reg none [⟨(some 21), none, .mv (.t 1)⟩,
     ⟨(some 4), none, .mv (.t 21)⟩] [4])
  (.ret))))))
def rv49 : List RV := [.t 4]
open Go.Proofs Go.IntWalk
set_option linter.unusedVariables false
set_option maxRecDepth 100000
set_option maxHeartbeats 4000000
def L_markCentre (g : G) (t : TE) (a0 : Centre) (a1 : Int) : Option (Int × Centre) :=
  cl (L_markItemS g t a0.Belt a1) fun x1 =>
  gd ((x1.2.length = a0.Belt.length)) <|
  cl (L_markChuteS g t a0.Chutes x1.1) fun x2 =>
  gd ((x2.2.length = a0.Chutes.length)) <|
  cl (L_markInletS g t a0.Inlets x2.1) fun x3 =>
  gd ((x3.2.length = a0.Inlets.length)) <|
  cl (L_markIntS g t a0.Plan x3.1) fun x4 =>
  gd ((x4.2.length = a0.Plan.length)) <|
  some ((x4.1, (Centre.mk x1.2 x2.2 x3.2 x4.2 a0.Now)))
theorem fit49 : codeFit Try.prog Try.f49.ntmps (Try.f49.body.getD .skip) ir49 = true := by kernel_rfl
theorem c_L_markCentre {g : G} {t : TE} {a0 : Centre} {a1 : Int} {r : Int × Centre} (hg : g = G.real) (ht : t = TE.real) (h : L_markCentre g t a0 a1 = some r) : FnM Try.prog 49 (.g (Centre.ds t a0)) [.c (.v (.int .i64 a1))] (.c (.r (.v (.int .i64 r.1)))) (.g (Centre.ds t r.2)) := by
  obtain ⟨X, hX⟩ := hide (.c (.r (.v (.int .i64 r.1))) : X)
  obtain ⟨Y, hY⟩ := hide (.g (Centre.ds t r.2) : AM)
  rw [← hX, ← hY]
  refine fnM_of (rvs := rv49) (j := ir49) Try.func49 rfl fit49 (Nat.le_of_ble_eq_true rfl) (by kernel_rfl) prog_mixed ?_
  intro g2 F hg2 hF
  obtain rfl : g2 = g := hg2.unique.trans hg.symm
  clear hg2
  obtain ⟨wrap, lt, le, eq, quo, rem, band, bor, bxor, shl, shr, nat, int, add, sub, mul, cat, seq, slt, sub3, byte, llen, nadd, nsub, dlen, dapp, dset, drep, rd, rda, up, rsub, dsub, all, sle, slen, hasI, putI, hasS, putS, imin, imax, fzc⟩ := g2
  obtain ⟨r_Item, d_Item, r_Chute, d_Chute, r_Inlet, d_Inlet, r_I64, d_I64, r_U8, d_U8, d_InletF⟩ := t
  obtain ⟨a0_Belt, a0_Chutes, a0_Inlets, a0_Plan, a0_Now⟩ := a0
  unfold L_markCentre at h
  try dsimp only at h
  cbv
  refine AStep.mk ⟨rfl, (dlen_Item hg ht _)⟩ ?_
  cbv
  obtain ⟨x1, hx1, h⟩ := of_cl h
  obtain ⟨x1_1, x1_2⟩ := x1
  try dsimp only at h
  refine ACallM.mk _ _ _ _ rfl rfl (hF _ _ _ (c_L_markItemS hg ht hx1)) rfl (Nat.le_of_ble_eq_true rfl) (Nat.le_of_ble_eq_true rfl) ?_
  cbv
  obtain ⟨hc1, h⟩ := of_gd h
  refine AStep.mk ⟨rfl, (dlen_Chute hg ht _)⟩ ?_
  cbv
  obtain ⟨x2, hx2, h⟩ := of_cl h
  obtain ⟨x2_1, x2_2⟩ := x2
  try dsimp only at h
  refine ACallM.mk _ _ _ _ rfl rfl (hF _ _ _ (c_L_markChuteS hg ht hx2)) rfl (Nat.le_of_ble_eq_true rfl) (Nat.le_of_ble_eq_true rfl) ?_
  cbv
  obtain ⟨hc2, h⟩ := of_gd h
  refine AStep.mk ⟨rfl, (dlen_Inlet hg ht _)⟩ ?_
  cbv
  obtain ⟨x3, hx3, h⟩ := of_cl h
  obtain ⟨x3_1, x3_2⟩ := x3
  try dsimp only at h
  refine ACallM.mk _ _ _ _ rfl rfl (hF _ _ _ (c_L_markInletS hg ht hx3)) rfl (Nat.le_of_ble_eq_true rfl) (Nat.le_of_ble_eq_true rfl) ?_
  cbv
  obtain ⟨hc3, h⟩ := of_gd h
  refine AStep.mk ⟨rfl, (dlen_I64 hg ht _)⟩ ?_
  cbv
  obtain ⟨x4, hx4, h⟩ := of_cl h
  obtain ⟨x4_1, x4_2⟩ := x4
  try dsimp only at h
  refine ACallM.mk _ _ _ _ rfl rfl (hF _ _ _ (c_L_markIntS hg ht hx4)) rfl (Nat.le_of_ble_eq_true rfl) (Nat.le_of_ble_eq_true rfl) ?_
  cbv
  obtain ⟨hc4, h⟩ := of_gd h
  obtain rfl := Option.some.inj h
  exact ARetM.mk ⟨⟨rfl, (lenp_Item ht (dlen_Item hg ht _) hc1)⟩, ⟨⟨rfl, (lenp_Chute ht (dlen_Chute hg ht _) hc2)⟩, ⟨⟨rfl, (lenp_Inlet ht (dlen_Inlet hg ht _) hc3)⟩, ⟨rfl, (lenp_I64 ht (dlen_I64 hg ht _) hc4)⟩⟩⟩⟩ hX.symm hY.symm
end Go.Vs
namespace Go.Vs
set_option maxRecDepth 100000
def ir89 : J :=
  .seq (.reg none [⟨(some 6), none, .mv (.k (V.b false))⟩] [0, 1, 2])
  (.seq (.reg none [⟨(some 7), none, .mv (.t 1)⟩,
     ⟨(some 8), none, .mv (.t 0)⟩,
     ⟨(some 9), none, .bin .leq .i (.t 7) (.t 8)⟩,
     ⟨(some 10), none, .mv (.t 9)⟩,
     ⟨(some 11), (some (10, true)), .mv (.t 0)⟩,
     ⟨(some 12), (some (10, true)), .mv (.t 2)⟩,
     ⟨(some 13), (some (10, true)), .bin .leq .i (.t 11) (.t 12)⟩,
     ⟨(some 14), none, .pick (.t 10) (.t 13) (.k (V.b false))⟩,
     ⟨(some 6), none, .mv (.t 14)⟩] [6])
  (.ret))
def rv89 : List RV := [.t 6]
open Go.Proofs Go.IntWalk
set_option linter.unusedVariables false
set_option maxRecDepth 100000
set_option maxHeartbeats 4000000
def I_within (g : G) (t : TE) (a0 : Int) (a1 : Int) (a2 : Int) : Bool :=
  br (g.le a1 a0)
  (
   (g.le a0 a2))
  (
   false)
theorem fit89 : codeFit Try.prog Try.f89.ntmps (Try.f89.body.getD .skip) ir89 = true := by kernel_rfl
theorem c_I_within {g : G} {t : TE} {a0 : Int} {a1 : Int} {a2 : Int} {r : Bool} (hg : g = G.real) (ht : t = TE.real) (h : I_within g t a0 a1 a2 = r) : Fn Try.prog 89 [.c (.v (.int .i64 a0)), .c (.v (.int .i64 a1)), .c (.v (.int .i64 a2))] (.c (.r (.v (.bool r)))) := by
  obtain ⟨X, hX⟩ := hide (.c (.r (.v (.bool r))) : X)
  rw [← hX]
  refine fn_of (rvs := rv89) (j := ir89) Try.func89 rfl fit89 (Nat.le_of_ble_eq_true rfl) (by kernel_rfl) prog_mixed ?_
  intro g2 F hg2 hF
  obtain rfl : g2 = g := hg2.unique.trans hg.symm
  clear hg2
  obtain ⟨wrap, lt, le, eq, quo, rem, band, bor, bxor, shl, shr, nat, int, add, sub, mul, cat, seq, slt, sub3, byte, llen, nadd, nsub, dlen, dapp, dset, drep, rd, rda, up, rsub, dsub, all, sle, slen, hasI, putI, hasS, putS, imin, imax, fzc⟩ := g2
  obtain ⟨r_Item, d_Item, r_Chute, d_Chute, r_Inlet, d_Inlet, r_I64, d_I64, r_U8, d_U8, d_InletF⟩ := t
  unfold I_within at h
  try dsimp only at h
  cbv
  cases hb1 : (le a1 a0) with
  | true =>
    rw [br_true hb1] at h
    cbv
    try (rw [hb1]; cbv)
    try (rw [hb1]; cbv)
    try (rw [hb1]; cbv)
    subst h
    exact ARet.mk trivial hX.symm
  | false =>
    rw [br_false hb1] at h
    cbv
    try (rw [hb1]; cbv)
    try (rw [hb1]; cbv)
    try (rw [hb1]; cbv)
    subst h
    exact ARet.mk trivial hX.symm
end Go.Vs
