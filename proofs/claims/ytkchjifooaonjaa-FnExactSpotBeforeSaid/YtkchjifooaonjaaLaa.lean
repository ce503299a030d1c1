/- Part of the proofs of this seat's laws: Laa. No condition. -/
import Derived.Test.YtkchjifooaonjaaTy
import Derived.Test.YtkchjifooaonjaaTIRall
set_option linter.unusedVariables false
set_option linter.unusedSimpArgs false
set_option linter.unusedSectionVars false
namespace Go.Vs
set_option maxRecDepth 100000
def ir42 : J :=
  .seq (.reg none [⟨(some 2), none, .box (.t 0)⟩,
     ⟨(some 4), none, .mv (.k (V.i 0))⟩] [1, 2])
  (.seq (.reg none [⟨(some 5), none, .mv (.t 1)⟩,
     ⟨(some 6), none, .fa 0 (.t 2)⟩,
     ⟨(some 7), none, .ld false 1 (.t 6)⟩,
     ⟨(some 8), none, .len true (.t 7)⟩,
     ⟨(some 9), none, .bin .sub .i (.t 5) (.t 8)⟩,
     ⟨(some 1), none, .mv (.t 9)⟩] [1, 2])
  (.seq (.seq (.reg none [⟨(some 10), none, .mv (.t 1)⟩,
      ⟨(some 11), none, .bin .lss .i (.t 10) (.k (V.i 0))⟩] [1, 2, 11])
   (.cond (.t 11)
    (.seq (.reg none [⟨(some 4), none, .mv (.k (V.i (-1)))⟩] [4])
     (.ret))
    (.skip)))
  (.seq (.reg none [⟨(some 12), none, .mv (.t 1)⟩,
     ⟨(some 13), none, .fa 1 (.t 2)⟩,
     ⟨(some 14), none, .ld false 1 (.t 13)⟩,
     ⟨(some 15), none, .len true (.t 14)⟩,
     ⟨(some 16), none, .bin .sub .i (.t 12) (.t 15)⟩,
     ⟨(some 1), none, .mv (.t 16)⟩] [1])
  (.seq (.seq (.reg none [⟨(some 17), none, .mv (.t 1)⟩,
      ⟨(some 18), none, .bin .lss .i (.t 17) (.k (V.i 0))⟩] [1, 18])
   (.cond (.t 18)
    (.seq (.reg none [⟨(some 4), none, .mv (.k (V.i (-1)))⟩] [4])
     (.ret))
    (.skip)))
  (.seq (.reg none [⟨(some 19), none, .mv (.t 1)⟩,
     ⟨(some 4), none, .mv (.t 19)⟩] [4])
  (.ret))))))
def rv42 : List RV := [.t 4]
open Go.Proofs Go.IntWalk
set_option linter.unusedVariables false
set_option maxRecDepth 100000
set_option maxHeartbeats 4000000
def L_szLeg (g : G) (t : TE) (a0 : Leg) (a1 : Int) : Int :=
  br (g.lt (g.wrap .i64 (g.sub a1 (g.int (g.slen a0.From)))) 0)
  (
   (-1))
  (
   br (g.lt (g.wrap .i64 (g.sub (g.wrap .i64 (g.sub a1 (g.int (g.slen a0.From)))) (g.int (g.slen a0.To)))) 0)
   (
    (-1))
   (
    (g.wrap .i64 (g.sub (g.wrap .i64 (g.sub a1 (g.int (g.slen a0.From)))) (g.int (g.slen a0.To))))))
theorem fit42 : codeFit Try.prog Try.f42.ntmps (Try.f42.body.getD .skip) ir42 = true := by kernel_rfl
theorem c_L_szLeg {g : G} {t : TE} {a0 : Leg} {a1 : Int} {r : Int} (hg : g = G.real) (ht : t = TE.real) (h : L_szLeg g t a0 a1 = r) : Fn Try.prog 42 [.g (Leg.rs t a0), .c (.v (.int .i64 a1))] (.c (.r (.v (.int .i64 r)))) := by
  obtain ⟨X, hX⟩ := hide (.c (.r (.v (.int .i64 r))) : X)
  rw [← hX]
  refine fn_of (rvs := rv42) (j := ir42) Try.func42 rfl fit42 (Nat.le_of_ble_eq_true rfl) (by kernel_rfl) prog_mixed ?_
  intro g2 F hg2 hF
  obtain rfl : g2 = g := hg2.unique.trans hg.symm
  clear hg2
  obtain ⟨wrap, lt, le, eq, quo, rem, band, bor, bxor, shl, shr, nat, int, add, sub, mul, cat, seq, slt, sub3, byte, llen, nadd, nsub, dlen, dapp, dset, drep, rd, rda, up, rsub, dsub, all, sle, slen, hasI, putI, hasS, putS, imin, imax, fzc, bstr⟩ := g2
  obtain ⟨r_Leg, d_Leg, r_I64, d_I64, r_S, d_S⟩ := t
  obtain ⟨a0_From, a0_To, a0_Start, a0_Takes, a0_Days, a0_Room⟩ := a0
  unfold L_szLeg at h
  try dsimp only at h
  cbv
  cases hb1 : (lt (wrap .i64 (sub a1 (int (slen a0_From)))) 0) with
  | true =>
    rw [br_true hb1] at h
    cbv
    subst h
    exact ARet.mk trivial hX.symm
  | false =>
    rw [br_false hb1] at h
    cbv
    cases hb2 : (lt (wrap .i64 (sub (wrap .i64 (sub a1 (int (slen a0_From)))) (int (slen a0_To)))) 0) with
    | true =>
      rw [br_true hb2] at h
      cbv
      subst h
      exact ARet.mk trivial hX.symm
    | false =>
      rw [br_false hb2] at h
      cbv
      subst h
      exact ARet.mk trivial hX.symm
end Go.Vs
namespace Go.Vs
set_option maxRecDepth 100000
def ir21 : J :=
  .seq (.reg none [⟨(some 4), none, .mv (.k (V.i 0))⟩] [0, 1])
  (.seq (.reg none [⟨(some 6), none, .mv (.t 1)⟩,
     ⟨(some 7), none, .mv (.t 0)⟩,
     ⟨(some 8), none, .len false (.t 7)⟩,
     ⟨(some 9), none, .bin .sub .i (.t 6) (.t 8)⟩,
     ⟨(some 1), none, .mv (.t 9)⟩] [0, 1])
  (.seq (.seq (.reg none [⟨(some 10), none, .mv (.t 1)⟩,
      ⟨(some 11), none, .bin .lss .i (.t 10) (.k (V.i 0))⟩] [0, 1, 11])
   (.cond (.t 11)
    (.seq (.reg none [⟨(some 4), none, .mv (.k (V.i (-1)))⟩] [4])
     (.ret))
    (.skip)))
  (.seq (.seq (.reg none [⟨(some 5), none, .mv (.k (V.i 0))⟩] [0, 1, 5])
   (.bl 0 (.seq (.seq (.reg none [⟨(some 12), none, .mv (.t 5)⟩,
        ⟨(some 13), none, .mv (.t 0)⟩,
        ⟨(some 14), none, .len false (.t 13)⟩,
        ⟨(some 15), none, .bin .lss .i (.t 12) (.t 14)⟩] [0, 1, 5, 15])
     (.cond (.t 15)
      (.skip)
      (.exit 0)))
    (.seq (.block 1 (.seq (.reg none [⟨(some 18), none, .mv (.t 0)⟩,
         ⟨(some 19), none, .mv (.t 5)⟩,
         ⟨(some 20), none, .ia 6 (.t 18) (.t 19)⟩,
         ⟨(some 21), none, .ld true 6 (.t 20)⟩,
         ⟨(some 22), none, .mv (.t 1)⟩,
         ⟨(some 23), none, .call 42 true [(.t 21), (.t 22)]⟩,
         ⟨(some 1), none, .mv (.t 23)⟩] [0, 1, 5])
      (.seq (.reg none [⟨(some 24), none, .mv (.t 1)⟩,
         ⟨(some 25), none, .bin .lss .i (.t 24) (.k (V.i 0))⟩] [0, 1, 5, 25])
      (.cond (.t 25)
       (.seq (.reg none [⟨(some 4), none, .mv (.k (V.i (-1)))⟩] [4])
        (.ret))
       (.skip)))))
    (.reg none [⟨(some 16), none, .mv (.t 5)⟩,
      ⟨(some 17), none, .bin .add .i (.t 16) (.k (V.i 1))⟩,
      ⟨(some 5), none, .mv (.t 17)⟩] [0, 1, 5])))))
  (.seq (.reg none [⟨(some 26), none, .mv (.t 1)⟩,
     ⟨(some 4), none, .mv (.t 26)⟩] [4])
  (.ret)))))
def rv21 : List RV := [.t 4]
open Go.Proofs Go.IntWalk
set_option linter.unusedVariables false
set_option maxRecDepth 100000
set_option maxHeartbeats 4000000
def L_szLegS_l1 (g : G) (t : TE) : List Leg → Int → LR Int Int
  | [], v1 =>
    (LR.out v1)
  | z1 :: ls1, v1 =>
    lP (L_szLeg g t z1 v1) fun x1 =>
    br (g.lt x1 0)
    (
     (LR.ret (-1)))
    (
     L_szLegS_l1 g t ls1 x1)
def L_szLegS (g : G) (t : TE) (a0 : List Leg) (a1 : Int) : Int :=
  br (g.lt (g.wrap .i64 (g.sub a1 (g.llen (t.r_Leg a0)))) 0)
  (
   (-1))
  (
   lP (L_szLegS_l1 g t a0 (g.wrap .i64 (g.sub a1 (g.llen (t.r_Leg a0))))) fun o1 => lrp o1 fun y1 =>
   y1)
theorem fit21 : codeFit Try.prog Try.f21.ntmps (Try.f21.body.getD .skip) ir21 = true := by kernel_rfl
theorem c_L_szLegS {g : G} {t : TE} {a0 : List Leg} {a1 : Int} {r : Int} (hg : g = G.real) (ht : t = TE.real) (h : L_szLegS g t a0 a1 = r) : Fn Try.prog 21 [.c (.s 6 (t.r_Leg a0)), .c (.v (.int .i64 a1))] (.c (.r (.v (.int .i64 r)))) := by
  obtain ⟨X, hX⟩ := hide (.c (.r (.v (.int .i64 r))) : X)
  rw [← hX]
  refine fn_of (rvs := rv21) (j := ir21) Try.func21 rfl fit21 (Nat.le_of_ble_eq_true rfl) (by kernel_rfl) prog_mixed ?_
  intro g2 F hg2 hF
  obtain rfl : g2 = g := hg2.unique.trans hg.symm
  clear hg2
  obtain ⟨wrap, lt, le, eq, quo, rem, band, bor, bxor, shl, shr, nat, int, add, sub, mul, cat, seq, slt, sub3, byte, llen, nadd, nsub, dlen, dapp, dset, drep, rd, rda, up, rsub, dsub, all, sle, slen, hasI, putI, hasS, putS, imin, imax, fzc, bstr⟩ := g2
  obtain ⟨r_Leg, d_Leg, r_I64, d_I64, r_S, d_S⟩ := t
  unfold L_szLegS at h
  try dsimp only at h
  cbv
  cases hb1 : (lt (wrap .i64 (sub a1 (llen (r_Leg a0)))) 0) with
  | true =>
    rw [br_true hb1] at h
    cbv
    subst h
    exact ARet.mk trivial hX.symm
  | false =>
    rw [br_false hb1] at h
    cbv
    obtain ⟨o1, ho1, h⟩ := of_lP h
    try dsimp only at h
    try rw [hg] at ho1
    try rw [ht] at ho1
    refine ABL.mk { p : Nat × Int × Int // p.1 ≤ a0.length ∧ p.2.1 = ((p.1 : Nat) : Int) ∧ L_szLegS_l1 G.real TE.real (List.drop p.1 a0) p.2.2 = o1 } (fun ⟨⟨k1, v2, v1⟩, _⟩ => ({ sl := [(0, .c (.r (.s 6 (r_Leg a0)))), (1, .c (.r (.v (.int .i64 v1)))), (5, .c (.r (.v (.int .i64 v2))))], tab := [] } : St)) 0 (fun p => a0.length - p.1.1) ⟨(0, 0, (wrap .i64 (sub a1 (llen (r_Leg a0))))), Nat.zero_le _, rfl, ho1⟩ (Int) (fun y1 => ({ sl := [(1, .c (.r (.v (.int .i64 y1))))], tab := [] } : St)) 0 (fun y => o1 = LR.out y) ?_ ?_ ?_
    · refine Wk.of [] rfl rfl ?_ ?_
      · cbv
        all_goals exact ⟨⟨_, rfl, rfl⟩, ⟨_, rfl, rfl⟩, ⟨_, rfl, rfl⟩, trivial⟩
      · cbv
        all_goals exact trivial
    · rintro ⟨⟨k1, v2, v1⟩, hk1, hi1, h_1⟩ hq1
      have hm1 := (hq1.1 0 _ _ rfl)
      try dsimp only at hk1 hi1 h_1
      clear hq1
      cbv
      by_cases hc1_ : k1 < a0.length
      · have hb2 : lt v2 (llen (r_Leg a0)) = true := ltL_true_Leg hg ht hi1 hc1_
        have hs1 := stepL_Leg hg ht hi1 hc1_ hm1
        obtain ⟨z1, hz1⟩ := some_of_lt hc1_
        rw [drop_of_some hz1] at h_1
        rw [L_szLegS_l1] at h_1
        obtain ⟨z1_From, z1_To, z1_Start, z1_Takes, z1_Days, z1_Room⟩ := z1
        try rw [← hg] at h_1
        try rw [← ht] at h_1
        try dsimp only at h_1
        rw [hb2]
        cbv
        refine AStep.mk (nn_L hi1) ?_
        cbv
        refine AGet.mk _ (r_getL_Leg hg ht hi1 hz1) ?_
        cbv
        obtain ⟨x1, hx1, h_1⟩ := of_lP h_1
        try dsimp only at h_1
        refine ACall.mk _ _ rfl (hF _ _ _ (c_L_szLeg hg ht hx1)) (.inl rfl) (Nat.le_of_ble_eq_true rfl) ?_
        cbv
        cases hb3 : (lt x1 0) with
        | true =>
          rw [br_true hb3] at h_1
          cbv
          subst h_1
          try dsimp only [lr, lrL, lrp, lrpL] at h
          subst h
          exact ARet.mk trivial hX.symm
        | false =>
          rw [br_false hb3] at h_1
          cbv
          try rw [hg] at h_1
          try rw [ht] at h_1
          refine ⟨⟨(k1 + 1, (wrap .i64 (add v2 1)), x1), hc1_, hs1, h_1⟩, Wk.of [] rfl rfl ?_ ?_, meas_L hc1_⟩
          · cbv
            all_goals exact ⟨⟨_, rfl, rfl⟩, ⟨_, rfl, rfl⟩, ⟨_, rfl, rfl⟩, trivial⟩
          · cbv
            all_goals exact trivial
      · have hb2 : lt v2 (llen (r_Leg a0)) = false := ltL_false_Leg hg ht hi1 hc1_
        rw [List.drop_of_length_le (Nat.le_of_not_lt hc1_)] at h_1
        rw [L_szLegS_l1] at h_1
        try rw [← hg] at h_1
        try rw [← ht] at h_1
        try dsimp only at h_1
        rw [hb2]
        cbv
        refine ⟨v1, Wk.of [] rfl rfl ?_ ?_, h_1.symm⟩
        · cbv
          all_goals exact ⟨⟨_, rfl, rfl⟩, trivial⟩
        · cbv
          all_goals exact trivial
    · rintro y1 hy1
      replace hy1 := hy1.symm
      subst hy1
      try dsimp only [lr, lrL, lrp, lrpL] at h
      cbv
      subst h
      exact ARet.mk trivial hX.symm
end Go.Vs
namespace Go.Vs
set_option maxRecDepth 100000
def ir22 : J :=
  .seq (.reg none [⟨(some 4), none, .mv (.k (V.i 0))⟩] [0, 1])
  (.seq (.reg none [⟨(some 5), none, .mv (.t 1)⟩,
     ⟨(some 6), none, .mv (.t 0)⟩,
     ⟨(some 7), none, .len false (.t 6)⟩,
     ⟨(some 8), none, .bin .sub .i (.t 5) (.t 7)⟩,
     ⟨(some 1), none, .mv (.t 8)⟩] [1])
  (.seq (.seq (.reg none [⟨(some 9), none, .mv (.t 1)⟩,
      ⟨(some 10), none, .bin .lss .i (.t 9) (.k (V.i 0))⟩] [1, 10])
   (.cond (.t 10)
    (.seq (.reg none [⟨(some 4), none, .mv (.k (V.i (-1)))⟩] [4])
     (.ret))
    (.skip)))
  (.seq (.reg none [⟨(some 11), none, .mv (.t 1)⟩,
     ⟨(some 4), none, .mv (.t 11)⟩] [4])
  (.ret))))
def rv22 : List RV := [.t 4]
open Go.Proofs Go.IntWalk
set_option linter.unusedVariables false
set_option maxRecDepth 100000
set_option maxHeartbeats 4000000
def L_szIntS (g : G) (t : TE) (a0 : List Int) (a1 : Int) : Int :=
  br (g.lt (g.wrap .i64 (g.sub a1 (g.llen (t.r_I64 a0)))) 0)
  (
   (-1))
  (
   (g.wrap .i64 (g.sub a1 (g.llen (t.r_I64 a0)))))
theorem fit22 : codeFit Try.prog Try.f22.ntmps (Try.f22.body.getD .skip) ir22 = true := by kernel_rfl
theorem c_L_szIntS {g : G} {t : TE} {a0 : List Int} {a1 : Int} {r : Int} (hg : g = G.real) (ht : t = TE.real) (h : L_szIntS g t a0 a1 = r) : Fn Try.prog 22 [.c (.s 1 (t.r_I64 a0)), .c (.v (.int .i64 a1))] (.c (.r (.v (.int .i64 r)))) := by
  obtain ⟨X, hX⟩ := hide (.c (.r (.v (.int .i64 r))) : X)
  rw [← hX]
  refine fn_of (rvs := rv22) (j := ir22) Try.func22 rfl fit22 (Nat.le_of_ble_eq_true rfl) (by kernel_rfl) prog_mixed ?_
  intro g2 F hg2 hF
  obtain rfl : g2 = g := hg2.unique.trans hg.symm
  clear hg2
  obtain ⟨wrap, lt, le, eq, quo, rem, band, bor, bxor, shl, shr, nat, int, add, sub, mul, cat, seq, slt, sub3, byte, llen, nadd, nsub, dlen, dapp, dset, drep, rd, rda, up, rsub, dsub, all, sle, slen, hasI, putI, hasS, putS, imin, imax, fzc, bstr⟩ := g2
  obtain ⟨r_Leg, d_Leg, r_I64, d_I64, r_S, d_S⟩ := t
  unfold L_szIntS at h
  try dsimp only at h
  cbv
  cases hb1 : (lt (wrap .i64 (sub a1 (llen (r_I64 a0)))) 0) with
  | true =>
    rw [br_true hb1] at h
    cbv
    subst h
    exact ARet.mk trivial hX.symm
  | false =>
    rw [br_false hb1] at h
    cbv
    subst h
    exact ARet.mk trivial hX.symm
end Go.Vs
namespace Go.Vs
set_option maxRecDepth 100000
def ir7 : J :=
  .seq (.reg none [⟨(some 2), none, .box (.t 0)⟩,
     ⟨(some 4), none, .mv (.k (V.i 0))⟩] [1, 2])
  (.seq (.reg none [⟨(some 5), none, .fa 0 (.t 2)⟩,
     ⟨(some 6), none, .ld false 1 (.t 5)⟩,
     ⟨(some 7), none, .mv (.t 1)⟩,
     ⟨(some 8), none, .call 21 true [(.t 6), (.t 7)]⟩,
     ⟨(some 1), none, .mv (.t 8)⟩] [1, 2])
  (.seq (.seq (.reg none [⟨(some 9), none, .mv (.t 1)⟩,
      ⟨(some 10), none, .bin .lss .i (.t 9) (.k (V.i 0))⟩] [1, 2, 10])
   (.cond (.t 10)
    (.seq (.reg none [⟨(some 4), none, .mv (.k (V.i (-1)))⟩] [4])
     (.ret))
    (.skip)))
  (.seq (.reg none [⟨(some 11), none, .fa 1 (.t 2)⟩,
     ⟨(some 12), none, .ld false 1 (.t 11)⟩,
     ⟨(some 13), none, .mv (.t 1)⟩,
     ⟨(some 14), none, .call 22 true [(.t 12), (.t 13)]⟩,
     ⟨(some 1), none, .mv (.t 14)⟩] [1])
  (.seq (.seq (.reg none [⟨(some 15), none, .mv (.t 1)⟩,
      ⟨(some 16), none, .bin .lss .i (.t 15) (.k (V.i 0))⟩] [1, 16])
   (.cond (.t 16)
    (.seq (.reg none [⟨(some 4), none, .mv (.k (V.i (-1)))⟩] [4])
     (.ret))
    (.skip)))
  (.seq (.reg none [⟨(some 17), none, .mv (.t 1)⟩,
     ⟨(some 4), none, .mv (.t 17)⟩] [4])
  (.ret))))))
def rv7 : List RV := [.t 4]
open Go.Proofs Go.IntWalk
set_option linter.unusedVariables false
set_option maxRecDepth 100000
set_option maxHeartbeats 4000000
def L_szNetwork (g : G) (t : TE) (a0 : Network) (a1 : Int) : Int :=
  lP (L_szLegS g t a0.Legs a1) fun x1 =>
  br (g.lt x1 0)
  (
   (-1))
  (
   lP (L_szIntS g t a0.Off x1) fun x2 =>
   br (g.lt x2 0)
   (
    (-1))
   (
    x2))
theorem fit7 : codeFit Try.prog Try.f7.ntmps (Try.f7.body.getD .skip) ir7 = true := by kernel_rfl
theorem c_L_szNetwork {g : G} {t : TE} {a0 : Network} {a1 : Int} {r : Int} (hg : g = G.real) (ht : t = TE.real) (h : L_szNetwork g t a0 a1 = r) : Fn Try.prog 7 [.g (Network.rs t a0), .c (.v (.int .i64 a1))] (.c (.r (.v (.int .i64 r)))) := by
  obtain ⟨X, hX⟩ := hide (.c (.r (.v (.int .i64 r))) : X)
  rw [← hX]
  refine fn_of (rvs := rv7) (j := ir7) Try.func7 rfl fit7 (Nat.le_of_ble_eq_true rfl) (by kernel_rfl) prog_mixed ?_
  intro g2 F hg2 hF
  obtain rfl : g2 = g := hg2.unique.trans hg.symm
  clear hg2
  obtain ⟨wrap, lt, le, eq, quo, rem, band, bor, bxor, shl, shr, nat, int, add, sub, mul, cat, seq, slt, sub3, byte, llen, nadd, nsub, dlen, dapp, dset, drep, rd, rda, up, rsub, dsub, all, sle, slen, hasI, putI, hasS, putS, imin, imax, fzc, bstr⟩ := g2
  obtain ⟨r_Leg, d_Leg, r_I64, d_I64, r_S, d_S⟩ := t
  obtain ⟨a0_Legs, a0_Off, a0_Change⟩ := a0
  unfold L_szNetwork at h
  try dsimp only at h
  cbv
  obtain ⟨x1, hx1, h⟩ := of_lP h
  try dsimp only at h
  refine ACall.mk _ _ rfl (hF _ _ _ (c_L_szLegS hg ht hx1)) (.inl rfl) (Nat.le_of_ble_eq_true rfl) ?_
  cbv
  cases hb1 : (lt x1 0) with
  | true =>
    rw [br_true hb1] at h
    cbv
    subst h
    exact ARet.mk trivial hX.symm
  | false =>
    rw [br_false hb1] at h
    cbv
    obtain ⟨x2, hx2, h⟩ := of_lP h
    try dsimp only at h
    refine ACall.mk _ _ rfl (hF _ _ _ (c_L_szIntS hg ht hx2)) (.inl rfl) (Nat.le_of_ble_eq_true rfl) ?_
    cbv
    cases hb2 : (lt x2 0) with
    | true =>
      rw [br_true hb2] at h
      cbv
      subst h
      exact ARet.mk trivial hX.symm
    | false =>
      rw [br_false hb2] at h
      cbv
      subst h
      exact ARet.mk trivial hX.symm
end Go.Vs
namespace Go.Vs
set_option maxRecDepth 100000
def ir8 : J :=
  .seq (.reg none [⟨(some 2), none, .box (.t 0)⟩,
     ⟨(some 4), none, .mv (.k (V.i 0))⟩] [1, 2])
  (.seq (.reg none [⟨(some 5), none, .mv (.t 1)⟩,
     ⟨(some 6), none, .fa 3 (.t 2)⟩,
     ⟨(some 7), none, .ld false 1 (.t 6)⟩,
     ⟨(some 8), none, .len true (.t 7)⟩,
     ⟨(some 9), none, .bin .sub .i (.t 5) (.t 8)⟩,
     ⟨(some 1), none, .mv (.t 9)⟩] [1])
  (.seq (.seq (.reg none [⟨(some 10), none, .mv (.t 1)⟩,
      ⟨(some 11), none, .bin .lss .i (.t 10) (.k (V.i 0))⟩] [1, 11])
   (.cond (.t 11)
    (.seq (.reg none [⟨(some 4), none, .mv (.k (V.i (-1)))⟩] [4])
     (.ret))
    (.skip)))
  (.seq (.reg none [⟨(some 12), none, .mv (.t 1)⟩,
     ⟨(some 4), none, .mv (.t 12)⟩] [4])
  (.ret))))
def rv8 : List RV := [.t 4]
open Go.Proofs Go.IntWalk
set_option linter.unusedVariables false
set_option maxRecDepth 100000
set_option maxHeartbeats 4000000
def L_szScan (g : G) (t : TE) (a0 : Scan) (a1 : Int) : Int :=
  br (g.lt (g.wrap .i64 (g.sub a1 (g.int (g.slen a0.Place)))) 0)
  (
   (-1))
  (
   (g.wrap .i64 (g.sub a1 (g.int (g.slen a0.Place)))))
theorem fit8 : codeFit Try.prog Try.f8.ntmps (Try.f8.body.getD .skip) ir8 = true := by kernel_rfl
theorem c_L_szScan {g : G} {t : TE} {a0 : Scan} {a1 : Int} {r : Int} (hg : g = G.real) (ht : t = TE.real) (h : L_szScan g t a0 a1 = r) : Fn Try.prog 8 [.g (Scan.rs t a0), .c (.v (.int .i64 a1))] (.c (.r (.v (.int .i64 r)))) := by
  obtain ⟨X, hX⟩ := hide (.c (.r (.v (.int .i64 r))) : X)
  rw [← hX]
  refine fn_of (rvs := rv8) (j := ir8) Try.func8 rfl fit8 (Nat.le_of_ble_eq_true rfl) (by kernel_rfl) prog_mixed ?_
  intro g2 F hg2 hF
  obtain rfl : g2 = g := hg2.unique.trans hg.symm
  clear hg2
  obtain ⟨wrap, lt, le, eq, quo, rem, band, bor, bxor, shl, shr, nat, int, add, sub, mul, cat, seq, slt, sub3, byte, llen, nadd, nsub, dlen, dapp, dset, drep, rd, rda, up, rsub, dsub, all, sle, slen, hasI, putI, hasS, putS, imin, imax, fzc, bstr⟩ := g2
  obtain ⟨r_Leg, d_Leg, r_I64, d_I64, r_S, d_S⟩ := t
  obtain ⟨a0_Thing, a0_At, a0_Kind, a0_Place, ⟨a0_Trip_Leg, a0_Trip_Day⟩⟩ := a0
  unfold L_szScan at h
  try dsimp only at h
  cbv
  cases hb1 : (lt (wrap .i64 (sub a1 (int (slen a0_Place)))) 0) with
  | true =>
    rw [br_true hb1] at h
    cbv
    subst h
    exact ARet.mk trivial hX.symm
  | false =>
    rw [br_false hb1] at h
    cbv
    subst h
    exact ARet.mk trivial hX.symm
end Go.Vs
namespace Go.Vs
set_option maxRecDepth 100000
def ir24 : J :=
  .seq (.reg none [⟨(some 6), none, .mv (.k (V.b false))⟩] [0, 1, 2])
  (.seq (.reg none [⟨(some 7), none, .mv (.t 0)⟩,
     ⟨(some 8), none, .mv (.t 1)⟩,
     ⟨(some 9), none, .bin .geq .i (.t 7) (.t 8)⟩,
     ⟨(some 10), none, .mv (.t 9)⟩,
     ⟨(some 11), (some (10, true)), .mv (.t 0)⟩,
     ⟨(some 12), (some (10, true)), .mv (.t 2)⟩,
     ⟨(some 13), (some (10, true)), .bin .leq .i (.t 11) (.t 12)⟩,
     ⟨(some 14), none, .pick (.t 10) (.t 13) (.k (V.b false))⟩,
     ⟨(some 6), none, .mv (.t 14)⟩] [6])
  (.ret))
def rv24 : List RV := [.t 6]
open Go.Proofs Go.IntWalk
set_option linter.unusedVariables false
set_option maxRecDepth 100000
set_option maxHeartbeats 4000000
def S_l1In (g : G) (t : TE) (a0 : Int) (a1 : Int) (a2 : Int) : Bool :=
  br (g.le a1 a0)
  (
   (g.le a0 a2))
  (
   false)
theorem fit24 : codeFit Try.prog Try.f24.ntmps (Try.f24.body.getD .skip) ir24 = true := by kernel_rfl
theorem c_S_l1In {g : G} {t : TE} {a0 : Int} {a1 : Int} {a2 : Int} {r : Bool} (hg : g = G.real) (ht : t = TE.real) (h : S_l1In g t a0 a1 a2 = r) : Fn Try.prog 24 [.c (.v (.int .i64 a0)), .c (.v (.int .i64 a1)), .c (.v (.int .i64 a2))] (.c (.r (.v (.bool r)))) := by
  obtain ⟨X, hX⟩ := hide (.c (.r (.v (.bool r))) : X)
  rw [← hX]
  refine fn_of (rvs := rv24) (j := ir24) Try.func24 rfl fit24 (Nat.le_of_ble_eq_true rfl) (by kernel_rfl) prog_mixed ?_
  intro g2 F hg2 hF
  obtain rfl : g2 = g := hg2.unique.trans hg.symm
  clear hg2
  obtain ⟨wrap, lt, le, eq, quo, rem, band, bor, bxor, shl, shr, nat, int, add, sub, mul, cat, seq, slt, sub3, byte, llen, nadd, nsub, dlen, dapp, dset, drep, rd, rda, up, rsub, dsub, all, sle, slen, hasI, putI, hasS, putS, imin, imax, fzc, bstr⟩ := g2
  obtain ⟨r_Leg, d_Leg, r_I64, d_I64, r_S, d_S⟩ := t
  unfold S_l1In at h
  try dsimp only at h
  cbv
  cases hb1 : (le a1 a0) with
  | true =>
    rw [br_true hb1] at h
    cbv
    try (rw [hb1]; cbv)
    try (rw [hb1]; cbv)
    try (rw [hb1]; cbv)
    subst h
    exact ARet.mk trivial hX.symm
  | false =>
    rw [br_false hb1] at h
    cbv
    try (rw [hb1]; cbv)
    try (rw [hb1]; cbv)
    try (rw [hb1]; cbv)
    subst h
    exact ARet.mk trivial hX.symm
end Go.Vs
namespace Go.Vs
set_option maxRecDepth 100000
def ir50 : J :=
  .seq (.reg none [⟨(some 2), none, .mv (.k (V.b false))⟩] [0])
  (.seq (.seq (.reg none [⟨(some 4), none, .mv (.t 0)⟩,
      ⟨(some 5), none, .len true (.t 4)⟩,
      ⟨(some 6), none, .bin .neq .i (.t 5) (.k (V.i 3))⟩] [0, 6])
   (.cond (.t 6)
    (.seq (.reg none [⟨(some 2), none, .mv (.k (V.b false))⟩] [2])
     (.ret))
    (.skip)))
  (.seq (.seq (.reg none [⟨(some 3), none, .mv (.k (V.i 0))⟩] [0, 3])
   (.bl 0 (.seq (.seq (.reg none [⟨(some 7), none, .mv (.t 3)⟩,
        ⟨(some 8), none, .bin .lss .i (.t 7) (.k (V.i 3))⟩] [0, 3, 8])
     (.cond (.t 8)
      (.skip)
      (.exit 0)))
    (.seq (.block 1 (.seq (.reg none [⟨(some 11), none, .mv (.t 0)⟩,
         ⟨(some 12), none, .mv (.t 3)⟩,
         ⟨(some 13), none, .idx (.t 11) (.t 12)⟩,
         ⟨(some 14), none, .cvt .i64 (.t 13)⟩,
         ⟨(some 15), none, .call 24 true [(.t 14), (.k (V.i 65)), (.k (V.i 90))]⟩,
         ⟨(some 16), none, .not (.t 15)⟩] [0, 3, 16])
      (.cond (.t 16)
       (.seq (.reg none [⟨(some 2), none, .mv (.k (V.b false))⟩] [2])
        (.ret))
       (.skip))))
    (.reg none [⟨(some 9), none, .mv (.t 3)⟩,
      ⟨(some 10), none, .bin .add .i (.t 9) (.k (V.i 1))⟩,
      ⟨(some 3), none, .mv (.t 10)⟩] [0, 3])))))
  (.seq (.reg none [⟨(some 2), none, .mv (.k (V.b true))⟩] [2])
  (.ret))))
def rv50 : List RV := [.t 2]
open Go.Proofs Go.IntWalk
set_option linter.unusedVariables false
set_option maxRecDepth 100000
set_option maxHeartbeats 4000000
def S_IsPlace_l1 (g : G) (t : TE) (a0 : ByteArray) : Nat → Int → Option (LR Bool Unit)
  | 0, v1 =>
    some (LR.out ())
  | n1 + 1, v1 =>
    gd (((0 : Int) ≤ v1 ∧ v1 < (((a0.size) : Nat) : Int))) <|
    lP (S_l1In g t (g.wrap .i64 (g.byte a0 v1)) 65 90) fun x1 =>
    br x1
    (
     S_IsPlace_l1 g t a0 n1 (g.wrap .i64 (g.add v1 1)))
    (
     some (LR.ret false))
def S_IsPlace (g : G) (t : TE) (a0 : ByteArray) : Option Bool :=
  br (g.eq (g.int (g.slen a0)) 3)
  (
   cl (S_IsPlace_l1 g t a0 (cntLt 0 3) 0) fun o1 => lr o1 fun y1 =>
   some true)
  (
   some false)
theorem fit50 : codeFit Try.prog Try.f50.ntmps (Try.f50.body.getD .skip) ir50 = true := by kernel_rfl
theorem c_S_IsPlace {g : G} {t : TE} {a0 : ByteArray} {r : Bool} (hg : g = G.real) (ht : t = TE.real) (h : S_IsPlace g t a0 = some r) : Fn Try.prog 50 [.c (.v (.string a0))] (.c (.r (.v (.bool r)))) := by
  obtain ⟨X, hX⟩ := hide (.c (.r (.v (.bool r))) : X)
  rw [← hX]
  refine fn_of (rvs := rv50) (j := ir50) Try.func50 rfl fit50 (Nat.le_of_ble_eq_true rfl) (by kernel_rfl) prog_mixed ?_
  intro g2 F hg2 hF
  obtain rfl : g2 = g := hg2.unique.trans hg.symm
  clear hg2
  obtain ⟨wrap, lt, le, eq, quo, rem, band, bor, bxor, shl, shr, nat, int, add, sub, mul, cat, seq, slt, sub3, byte, llen, nadd, nsub, dlen, dapp, dset, drep, rd, rda, up, rsub, dsub, all, sle, slen, hasI, putI, hasS, putS, imin, imax, fzc, bstr⟩ := g2
  obtain ⟨r_Leg, d_Leg, r_I64, d_I64, r_S, d_S⟩ := t
  unfold S_IsPlace at h
  try dsimp only at h
  cbv
  cases hb1 : (eq (int (slen a0)) 3) with
  | true =>
    rw [br_true hb1] at h
    cbv
    obtain ⟨o1, ho1, h⟩ := of_cl h
    try dsimp only at h
    try rw [hg] at ho1
    try rw [ht] at ho1
    refine ABL.mk { p : Nat × Int // p.1 = cntLt p.2 3 ∧ 0 ≤ p.2 ∧ S_IsPlace_l1 G.real TE.real a0 p.1 p.2 = some o1 } (fun ⟨⟨n1, v1⟩, _⟩ => ({ sl := [(0, .c (.r (.v (.string a0)))), (3, .c (.r (.v (.int .i64 v1))))], tab := [] } : St)) 0 (fun p => p.1.1) ⟨(cntLt 0 3, 0), rfl, Int.le_refl _, ho1⟩ (Unit) (fun _ => ({ sl := [], tab := [] } : St)) 0 (fun y => o1 = LR.out y) ?_ ?_ ?_
    · refine Wk.of [] rfl rfl ?_ ?_
      · cbv
        all_goals exact ⟨⟨_, rfl, rfl⟩, ⟨_, rfl, rfl⟩, trivial⟩
      · cbv
        all_goals exact trivial
    · rintro ⟨⟨n1, v1⟩, hn1, hi1, h_1⟩ hq1
      try dsimp only at hn1 hi1 h_1
      clear hq1
      cbv
      rcases n1 with _ | n1
      · have hb2 : lt v1 3 = false := ltC_false hg hn1
        rw [S_IsPlace_l1] at h_1
        try rw [← hg] at h_1
        try rw [← ht] at h_1
        try dsimp only at h_1
        rw [hb2]
        cbv
        refine ⟨(), Wk.of [] rfl rfl ?_ ?_, (Option.some.inj h_1).symm⟩
        · cbv
          all_goals exact trivial
        · cbv
          all_goals exact trivial
      · have hb2 : lt v1 3 = true := ltC_true hg hn1
        have hl1 := ltC_le hn1
        have hs1 := stepltC hg hn1 hi1 (by decide) (by decide)
        rw [S_IsPlace_l1] at h_1
        try rw [← hg] at h_1
        try rw [← ht] at h_1
        try dsimp only at h_1
        rw [hb2]
        cbv
        obtain ⟨hc1, h_1⟩ := of_gd h_1
        refine AStep.mk hc1 ?_
        cbv
        obtain ⟨x1, hx1, h_1⟩ := of_lP h_1
        try dsimp only at h_1
        refine ACall.mk _ _ rfl (hF _ _ _ (c_S_l1In hg ht hx1)) (.inl rfl) (Nat.le_of_ble_eq_true rfl) ?_
        cbv
        cases hb3 : x1 with
        | true =>
          rw [br_true hb3] at h_1
          cbv
          try rw [hg] at h_1
          try rw [ht] at h_1
          refine ⟨⟨(n1, (wrap .i64 (add v1 1))), hs1.1, hs1.2, h_1⟩, Wk.of [] rfl rfl ?_ ?_, Nat.lt_succ_self _⟩
          · cbv
            all_goals exact ⟨⟨_, rfl, rfl⟩, ⟨_, rfl, rfl⟩, trivial⟩
          · cbv
            all_goals exact trivial
        | false =>
          rw [br_false hb3] at h_1
          cbv
          obtain rfl := Option.some.inj h_1
          try dsimp only [lr, lrL, lrp, lrpL] at h
          obtain rfl := Option.some.inj h
          exact ARet.mk trivial hX.symm
    · rintro _ hy1
      replace hy1 := hy1.symm
      subst hy1
      try dsimp only [lr, lrL, lrp, lrpL] at h
      cbv
      obtain rfl := Option.some.inj h
      exact ARet.mk trivial hX.symm
  | false =>
    rw [br_false hb1] at h
    cbv
    obtain rfl := Option.some.inj h
    exact ARet.mk trivial hX.symm
end Go.Vs
namespace Go.Vs
set_option maxRecDepth 100000
def ir43 : J :=
  .seq (.reg none [⟨(some 1), none, .box (.t 0)⟩,
     ⟨(some 2), none, .mv (.k (V.b false))⟩] [1])
  (.seq (.reg none [⟨(some 3), none, .fa 0 (.t 1)⟩,
     ⟨(some 4), none, .ld false 1 (.t 3)⟩,
     ⟨(some 5), none, .call 50 true [(.t 4)]⟩,
     ⟨(some 6), none, .mv (.t 5)⟩,
     ⟨(some 7), (some (6, true)), .fa 1 (.t 1)⟩,
     ⟨(some 8), (some (6, true)), .ld false 1 (.t 7)⟩,
     ⟨(some 9), (some (6, true)), .call 50 true [(.t 8)]⟩,
     ⟨(some 10), none, .pick (.t 6) (.t 9) (.k (V.b false))⟩,
     ⟨(some 11), none, .mv (.t 10)⟩,
     ⟨(some 12), (some (11, true)), .fa 0 (.t 1)⟩,
     ⟨(some 13), (some (11, true)), .ld false 1 (.t 12)⟩,
     ⟨(some 14), (some (11, true)), .fa 1 (.t 1)⟩,
     ⟨(some 15), (some (11, true)), .ld false 1 (.t 14)⟩,
     ⟨(some 16), (some (11, true)), .bin .neq .s (.t 13) (.t 15)⟩,
     ⟨(some 17), none, .pick (.t 11) (.t 16) (.k (V.b false))⟩,
     ⟨(some 18), none, .mv (.t 17)⟩,
     ⟨(some 19), (some (18, true)), .fa 2 (.t 1)⟩,
     ⟨(some 20), (some (18, true)), .ld false 1 (.t 19)⟩,
     ⟨(some 21), (some (18, true)), .call 24 true [(.t 20), (.k (V.i 0)), (.k (V.i 1439))]⟩,
     ⟨(some 22), none, .pick (.t 18) (.t 21) (.k (V.b false))⟩,
     ⟨(some 23), none, .mv (.t 22)⟩,
     ⟨(some 24), (some (23, true)), .fa 3 (.t 1)⟩,
     ⟨(some 25), (some (23, true)), .ld false 1 (.t 24)⟩,
     ⟨(some 26), (some (23, true)), .call 24 true [(.t 25), (.k (V.i 1)), (.k (V.i 4320))]⟩,
     ⟨(some 27), none, .pick (.t 23) (.t 26) (.k (V.b false))⟩,
     ⟨(some 28), none, .mv (.t 27)⟩,
     ⟨(some 29), (some (28, true)), .fa 4 (.t 1)⟩,
     ⟨(some 30), (some (28, true)), .ld false 1 (.t 29)⟩,
     ⟨(some 31), (some (28, true)), .call 24 true [(.t 30), (.k (V.i 1)), (.k (V.i 127))]⟩,
     ⟨(some 32), none, .pick (.t 28) (.t 31) (.k (V.b false))⟩,
     ⟨(some 33), none, .mv (.t 32)⟩,
     ⟨(some 34), (some (33, true)), .fa 5 (.t 1)⟩,
     ⟨(some 35), (some (33, true)), .ld false 1 (.t 34)⟩,
     ⟨(some 36), (some (33, true)), .call 24 true [(.t 35), (.k (V.i 0)), (.k (V.i 1000000))]⟩,
     ⟨(some 37), none, .pick (.t 33) (.t 36) (.k (V.b false))⟩,
     ⟨(some 2), none, .mv (.t 37)⟩] [2])
  (.ret))
def rv43 : List RV := [.t 2]
open Go.Proofs Go.IntWalk
set_option linter.unusedVariables false
set_option maxRecDepth 100000
set_option maxHeartbeats 4000000
def S_IsLeg (g : G) (t : TE) (a0 : Leg) : Option Bool :=
  cl (S_IsPlace g t a0.From) fun x1 =>
  br x1
  (
   cl (S_IsPlace g t a0.To) fun x2 =>
   br x2
   (
    br (g.seq a0.From a0.To)
    (
     some false)
    (
     lP (S_l1In g t a0.Start 0 1439) fun x3 =>
     br x3
     (
      lP (S_l1In g t a0.Takes 1 4320) fun x4 =>
      br x4
      (
       lP (S_l1In g t a0.Days 1 127) fun x5 =>
       br x5
       (
        lP (S_l1In g t a0.Room 0 1000000) fun x6 =>
        some x6)
       (
        some false))
      (
       some false))
     (
      some false)))
   (
    some false))
  (
   some false)
theorem fit43 : codeFit Try.prog Try.f43.ntmps (Try.f43.body.getD .skip) ir43 = true := by kernel_rfl
theorem c_S_IsLeg {g : G} {t : TE} {a0 : Leg} {r : Bool} (hg : g = G.real) (ht : t = TE.real) (h : S_IsLeg g t a0 = some r) : Fn Try.prog 43 [.g (Leg.rs t a0)] (.c (.r (.v (.bool r)))) := by
  obtain ⟨X, hX⟩ := hide (.c (.r (.v (.bool r))) : X)
  rw [← hX]
  refine fn_of (rvs := rv43) (j := ir43) Try.func43 rfl fit43 (Nat.le_of_ble_eq_true rfl) (by kernel_rfl) prog_mixed ?_
  intro g2 F hg2 hF
  obtain rfl : g2 = g := hg2.unique.trans hg.symm
  clear hg2
  obtain ⟨wrap, lt, le, eq, quo, rem, band, bor, bxor, shl, shr, nat, int, add, sub, mul, cat, seq, slt, sub3, byte, llen, nadd, nsub, dlen, dapp, dset, drep, rd, rda, up, rsub, dsub, all, sle, slen, hasI, putI, hasS, putS, imin, imax, fzc, bstr⟩ := g2
  obtain ⟨r_Leg, d_Leg, r_I64, d_I64, r_S, d_S⟩ := t
  obtain ⟨a0_From, a0_To, a0_Start, a0_Takes, a0_Days, a0_Room⟩ := a0
  unfold S_IsLeg at h
  try dsimp only at h
  cbv
  obtain ⟨x1, hx1, h⟩ := of_cl h
  try dsimp only at h
  refine ACall.mk _ _ rfl (hF _ _ _ (c_S_IsPlace hg ht hx1)) (.inl rfl) (Nat.le_of_ble_eq_true rfl) ?_
  cbv
  cases hb1 : x1 with
  | true =>
    rw [br_true hb1] at h
    cbv
    try (rw [hb1]; cbv)
    try (rw [hb1]; cbv)
    obtain ⟨x2, hx2, h⟩ := of_cl h
    try dsimp only at h
    refine ACall.mk _ _ rfl (hF _ _ _ (c_S_IsPlace hg ht hx2)) (.inl rfl) (Nat.le_of_ble_eq_true rfl) ?_
    cbv
    try (rw [hb1]; cbv)
    cases hb2 : x2 with
    | true =>
      rw [br_true hb2] at h
      cbv
      try (rw [hb2]; cbv)
      try (rw [hb2]; cbv)
      try (rw [hb2]; cbv)
      try (rw [hb2]; cbv)
      try (rw [hb2]; cbv)
      cases hb3 : (seq a0_From a0_To) with
      | true =>
        rw [br_true hb3] at h
        cbv
        try (rw [hb3]; cbv)
        try (rw [hb3]; cbv)
        try (rw [hb3]; cbv)
        obtain rfl := Option.some.inj h
        exact ARet.mk trivial hX.symm
      | false =>
        rw [br_false hb3] at h
        cbv
        try (rw [hb3]; cbv)
        try (rw [hb3]; cbv)
        obtain ⟨x3, hx3, h⟩ := of_lP h
        try dsimp only at h
        refine ACall.mk _ _ rfl (hF _ _ _ (c_S_l1In hg ht hx3)) (.inl rfl) (Nat.le_of_ble_eq_true rfl) ?_
        cbv
        try (rw [hb3]; cbv)
        cases hb4 : x3 with
        | true =>
          rw [br_true hb4] at h
          cbv
          try (rw [hb4]; cbv)
          try (rw [hb4]; cbv)
          obtain ⟨x4, hx4, h⟩ := of_lP h
          try dsimp only at h
          refine ACall.mk _ _ rfl (hF _ _ _ (c_S_l1In hg ht hx4)) (.inl rfl) (Nat.le_of_ble_eq_true rfl) ?_
          cbv
          try (rw [hb4]; cbv)
          cases hb5 : x4 with
          | true =>
            rw [br_true hb5] at h
            cbv
            try (rw [hb5]; cbv)
            try (rw [hb5]; cbv)
            obtain ⟨x5, hx5, h⟩ := of_lP h
            try dsimp only at h
            refine ACall.mk _ _ rfl (hF _ _ _ (c_S_l1In hg ht hx5)) (.inl rfl) (Nat.le_of_ble_eq_true rfl) ?_
            cbv
            try (rw [hb5]; cbv)
            cases hb6 : x5 with
            | true =>
              rw [br_true hb6] at h
              cbv
              try (rw [hb6]; cbv)
              try (rw [hb6]; cbv)
              obtain ⟨x6, hx6, h⟩ := of_lP h
              try dsimp only at h
              refine ACall.mk _ _ rfl (hF _ _ _ (c_S_l1In hg ht hx6)) (.inl rfl) (Nat.le_of_ble_eq_true rfl) ?_
              cbv
              try (rw [hb6]; cbv)
              obtain rfl := Option.some.inj h
              exact ARet.mk trivial hX.symm
            | false =>
              rw [br_false hb6] at h
              cbv
              try (rw [hb6]; cbv)
              try (rw [hb6]; cbv)
              try (rw [hb6]; cbv)
              obtain rfl := Option.some.inj h
              exact ARet.mk trivial hX.symm
          | false =>
            rw [br_false hb5] at h
            cbv
            try (rw [hb5]; cbv)
            try (rw [hb5]; cbv)
            try (rw [hb5]; cbv)
            obtain rfl := Option.some.inj h
            exact ARet.mk trivial hX.symm
        | false =>
          rw [br_false hb4] at h
          cbv
          try (rw [hb4]; cbv)
          try (rw [hb4]; cbv)
          try (rw [hb4]; cbv)
          obtain rfl := Option.some.inj h
          exact ARet.mk trivial hX.symm
    | false =>
      rw [br_false hb2] at h
      cbv
      try (rw [hb2]; cbv)
      try (rw [hb2]; cbv)
      try (rw [hb2]; cbv)
      try (rw [hb2]; cbv)
      try (rw [hb2]; cbv)
      obtain rfl := Option.some.inj h
      exact ARet.mk trivial hX.symm
  | false =>
    rw [br_false hb1] at h
    cbv
    try (rw [hb1]; cbv)
    try (rw [hb1]; cbv)
    try (rw [hb1]; cbv)
    obtain rfl := Option.some.inj h
    exact ARet.mk trivial hX.symm
end Go.Vs
namespace Go.Vs
set_option maxRecDepth 100000
def ir23 : J :=
  .seq (.reg none [⟨(some 1), none, .box (.t 0)⟩,
     ⟨(some 2), none, .mv (.k (V.b false))⟩] [1])
  (.seq (.seq (.reg none [⟨(some 3), none, .mv (.k (V.i 0))⟩] [1, 3])
   (.bl 0 (.seq (.seq (.reg none [⟨(some 5), none, .mv (.t 3)⟩,
        ⟨(some 6), none, .fa 0 (.t 1)⟩,
        ⟨(some 7), none, .ld false 1 (.t 6)⟩,
        ⟨(some 8), none, .len false (.t 7)⟩,
        ⟨(some 9), none, .bin .lss .i (.t 5) (.t 8)⟩] [1, 3, 9])
     (.cond (.t 9)
      (.skip)
      (.exit 0)))
    (.seq (.block 1 (.seq (.reg none [⟨(some 12), none, .fa 0 (.t 1)⟩,
         ⟨(some 13), none, .ld false 1 (.t 12)⟩,
         ⟨(some 14), none, .mv (.t 3)⟩,
         ⟨(some 15), none, .ia 6 (.t 13) (.t 14)⟩,
         ⟨(some 16), none, .ld true 6 (.t 15)⟩,
         ⟨(some 17), none, .call 43 true [(.t 16)]⟩,
         ⟨(some 18), none, .not (.t 17)⟩] [1, 3, 18])
      (.cond (.t 18)
       (.seq (.reg none [⟨(some 2), none, .mv (.k (V.b false))⟩] [2])
        (.ret))
       (.skip))))
    (.reg none [⟨(some 10), none, .mv (.t 3)⟩,
      ⟨(some 11), none, .bin .add .i (.t 10) (.k (V.i 1))⟩,
      ⟨(some 3), none, .mv (.t 11)⟩] [1, 3])))))
  (.seq (.seq (.reg none [⟨(some 4), none, .mv (.k (V.i 0))⟩] [1, 4])
   (.bl 2 (.seq (.seq (.reg none [⟨(some 19), none, .mv (.t 4)⟩,
        ⟨(some 20), none, .fa 1 (.t 1)⟩,
        ⟨(some 21), none, .ld false 1 (.t 20)⟩,
        ⟨(some 22), none, .len false (.t 21)⟩,
        ⟨(some 23), none, .bin .lss .i (.t 19) (.t 22)⟩] [1, 4, 23])
     (.cond (.t 23)
      (.skip)
      (.exit 2)))
    (.seq (.block 3 (.seq (.reg (some [[], [0], [], [0, 1, 2], [0, 1, 2, 3], [0, 1, 2, 3, 4], [0, 1, 2, 3, 4, 5], [0, 1, 2, 3, 4, 5, 6], [0, 1, 2, 3, 4, 5, 6, 7], [0, 1, 2, 3, 4, 5, 6, 7, 8], [0, 1, 2, 3, 4, 5, 6, 7, 8, 9], [0, 1, 2, 3, 4, 5, 6, 7, 8, 9, 10], [0, 1, 2, 3, 4, 5, 6, 7, 8, 9, 10, 11], [0, 1, 2, 3, 4, 5, 6, 7, 8, 9, 10], [0, 1, 2, 3, 4, 5, 6, 7, 8, 9, 10, 13], [0, 1, 2, 3, 4, 5, 6, 7, 8, 9, 10, 11, 12, 13, 14], [0, 1, 2, 3, 4, 5, 6, 7, 8, 9, 10, 11, 12, 13, 14, 15], [0, 1, 2, 3, 4, 5, 6, 7, 8, 9, 10], [0, 1, 2, 3, 4, 5, 6, 7, 8, 9, 10, 17], [0, 1, 2, 3, 4, 5, 6, 7, 8, 9, 10], [0, 1, 2, 3, 4, 5, 6, 7, 8, 9, 10, 17, 18, 19], [0, 1, 2, 3, 4, 5, 6, 7, 8, 9, 10, 17, 18, 19, 20], [0, 1, 2, 3, 4, 5, 6, 7, 8, 9, 10, 11, 12, 13, 14, 15, 16, 17, 18, 19, 20, 21], [0, 1, 2, 3, 4, 5, 6, 7, 8, 9, 10, 11, 12, 13, 14, 15, 16, 17, 18, 19, 20, 21, 22], [0, 1, 2, 3, 4, 5, 6, 7, 8, 9, 10, 11, 12, 13, 14, 15, 16, 17, 18, 19, 20, 21, 22, 23]]) [⟨(some 26), none, .fa 1 (.t 1)⟩,
         ⟨(some 27), none, .ld false 1 (.t 26)⟩,
         ⟨(some 28), none, .mv (.t 4)⟩,
         ⟨(some 29), none, .ia 1 (.t 27) (.t 28)⟩,
         ⟨(some 30), none, .ld false 1 (.t 29)⟩,
         ⟨(some 31), none, .call 24 true [(.t 30), (.k (V.i 0)), (.k (V.i 60))]⟩,
         ⟨(some 32), none, .not (.t 31)⟩,
         ⟨(some 33), none, .mv (.t 32)⟩,
         ⟨(some 34), (some (33, false)), .mv (.t 4)⟩,
         ⟨(some 35), (some (33, false)), .bin .gtr .i (.t 34) (.k (V.i 0))⟩,
         ⟨(some 36), (some (33, false)), .mv (.t 35)⟩,
         ⟨(some 37), (some (36, true)), .fa 1 (.t 1)⟩,
         ⟨(some 38), (some (36, true)), .ld false 1 (.t 37)⟩,
         ⟨(some 39), (some (36, true)), .mv (.t 4)⟩,
         ⟨(some 40), (some (36, true)), .bin .sub .i (.t 39) (.k (V.i 1))⟩,
         ⟨(some 41), (some (36, true)), .ia 1 (.t 38) (.t 40)⟩,
         ⟨(some 42), (some (36, true)), .ld false 1 (.t 41)⟩,
         ⟨(some 43), (some (36, true)), .fa 1 (.t 1)⟩,
         ⟨(some 44), (some (36, true)), .ld false 1 (.t 43)⟩,
         ⟨(some 45), (some (36, true)), .mv (.t 4)⟩,
         ⟨(some 46), (some (36, true)), .ia 1 (.t 44) (.t 45)⟩,
         ⟨(some 47), (some (36, true)), .ld false 1 (.t 46)⟩,
         ⟨(some 48), (some (36, true)), .bin .geq .i (.t 42) (.t 47)⟩,
         ⟨(some 49), (some (33, false)), .pick (.t 36) (.t 48) (.k (V.b false))⟩,
         ⟨(some 50), none, .pick (.t 33) (.k (V.b true)) (.t 49)⟩] [1, 4, 50])
      (.cond (.t 50)
       (.seq (.reg none [⟨(some 2), none, .mv (.k (V.b false))⟩] [2])
        (.ret))
       (.skip))))
    (.reg none [⟨(some 24), none, .mv (.t 4)⟩,
      ⟨(some 25), none, .bin .add .i (.t 24) (.k (V.i 1))⟩,
      ⟨(some 4), none, .mv (.t 25)⟩] [1, 4])))))
  (.seq (.reg none [⟨(some 51), none, .fa 0 (.t 1)⟩,
     ⟨(some 52), none, .ld false 1 (.t 51)⟩,
     ⟨(some 53), none, .len false (.t 52)⟩,
     ⟨(some 54), none, .bin .leq .i (.t 53) (.k (V.i 20))⟩,
     ⟨(some 55), none, .mv (.t 54)⟩,
     ⟨(some 56), (some (55, true)), .fa 1 (.t 1)⟩,
     ⟨(some 57), (some (55, true)), .ld false 1 (.t 56)⟩,
     ⟨(some 58), (some (55, true)), .len false (.t 57)⟩,
     ⟨(some 59), (some (55, true)), .bin .leq .i (.t 58) (.k (V.i 10))⟩,
     ⟨(some 60), none, .pick (.t 55) (.t 59) (.k (V.b false))⟩,
     ⟨(some 61), none, .mv (.t 60)⟩,
     ⟨(some 62), (some (61, true)), .fa 2 (.t 1)⟩,
     ⟨(some 63), (some (61, true)), .ld false 1 (.t 62)⟩,
     ⟨(some 64), (some (61, true)), .call 24 true [(.t 63), (.k (V.i 0)), (.k (V.i 240))]⟩,
     ⟨(some 65), none, .pick (.t 61) (.t 64) (.k (V.b false))⟩,
     ⟨(some 2), none, .mv (.t 65)⟩] [2])
  (.ret))))
def rv23 : List RV := [.t 2]
open Go.Proofs Go.IntWalk
set_option linter.unusedVariables false
set_option maxRecDepth 100000
set_option maxHeartbeats 4000000
def S_IsNetwork_l2 (g : G) (t : TE) (a0 : Network) : List Int → Int → Option (LR Bool Unit)
  | [], v2 =>
    some (LR.out ())
  | z2 :: ls2, v2 =>
    lP (S_l1In g t z2 0 60) fun x2 =>
    br x2
    (
     br (g.lt 0 v2)
     (
      gd (((0 : Int) ≤ (g.wrap .i64 (g.sub v2 1)))) <|
      gt a0.Off (g.nat (g.wrap .i64 (g.sub v2 1))) fun x3 =>
      br (g.le z2 x3)
      (
       some (LR.ret false))
      (
       S_IsNetwork_l2 g t a0 ls2 (g.wrap .i64 (g.add v2 1))))
     (
      S_IsNetwork_l2 g t a0 ls2 (g.wrap .i64 (g.add v2 1))))
    (
     some (LR.ret false))
def S_IsNetwork_l1 (g : G) (t : TE) : List Leg → Option (LR Bool Unit)
  | [] =>
    some (LR.out ())
  | z1 :: ls1 =>
    cl (S_IsLeg g t z1) fun x1 =>
    br x1
    (
     S_IsNetwork_l1 g t ls1)
    (
     some (LR.ret false))
def S_IsNetwork (g : G) (t : TE) (a0 : Network) : Option Bool :=
  cl (S_IsNetwork_l1 g t a0.Legs) fun o1 => lr o1 fun y1 =>
  cl (S_IsNetwork_l2 g t a0 a0.Off 0) fun o2 => lr o2 fun y2 =>
  br (g.le (g.llen (t.r_Leg a0.Legs)) 20)
  (
   br (g.le (g.llen (t.r_I64 a0.Off)) 10)
   (
    lP (S_l1In g t a0.Change 0 240) fun x4 =>
    some x4)
   (
    some false))
  (
   some false)
theorem fit23 : codeFit Try.prog Try.f23.ntmps (Try.f23.body.getD .skip) ir23 = true := by kernel_rfl
theorem c_S_IsNetwork {g : G} {t : TE} {a0 : Network} {r : Bool} (hg : g = G.real) (ht : t = TE.real) (h : S_IsNetwork g t a0 = some r) : Fn Try.prog 23 [.g (Network.rs t a0)] (.c (.r (.v (.bool r)))) := by
  obtain ⟨X, hX⟩ := hide (.c (.r (.v (.bool r))) : X)
  rw [← hX]
  refine fn_of (rvs := rv23) (j := ir23) Try.func23 rfl fit23 (Nat.le_of_ble_eq_true rfl) (by kernel_rfl) prog_mixed ?_
  intro g2 F hg2 hF
  obtain rfl : g2 = g := hg2.unique.trans hg.symm
  clear hg2
  obtain ⟨wrap, lt, le, eq, quo, rem, band, bor, bxor, shl, shr, nat, int, add, sub, mul, cat, seq, slt, sub3, byte, llen, nadd, nsub, dlen, dapp, dset, drep, rd, rda, up, rsub, dsub, all, sle, slen, hasI, putI, hasS, putS, imin, imax, fzc, bstr⟩ := g2
  obtain ⟨r_Leg, d_Leg, r_I64, d_I64, r_S, d_S⟩ := t
  obtain ⟨a0_Legs, a0_Off, a0_Change⟩ := a0
  unfold S_IsNetwork at h
  try dsimp only at h
  cbv
  obtain ⟨o1, ho1, h⟩ := of_cl h
  try dsimp only at h
  try rw [hg] at ho1
  try rw [ht] at ho1
  refine ABL.mk { p : Nat × Int // p.1 ≤ a0_Legs.length ∧ p.2 = ((p.1 : Nat) : Int) ∧ S_IsNetwork_l1 G.real TE.real (List.drop p.1 a0_Legs) = some o1 } (fun ⟨⟨k1, v1⟩, _⟩ => ({ sl := [(1, .c (.p 0 3 0 0)), (3, .c (.r (.v (.int .i64 v1))))], tab := [(0, some (.foc 3 [] [.r (.s 6 (r_Leg a0_Legs)), .r (.s 1 (r_I64 a0_Off)), .r (.v (.int .i64 a0_Change))] []))] } : St)) 1 (fun p => a0_Legs.length - p.1.1) ⟨(0, 0), Nat.zero_le _, rfl, ho1⟩ (Unit) (fun _ => ({ sl := [(1, .c (.p 0 3 0 0))], tab := [(0, some (.foc 3 [] [.r (.s 6 (r_Leg a0_Legs)), .r (.s 1 (r_I64 a0_Off)), .r (.v (.int .i64 a0_Change))] []))] } : St)) 1 (fun y => o1 = LR.out y) ?_ ?_ ?_
  · refine Wk.of [(0, some 0)] rfl rfl ?_ ?_
    · cbv
      all_goals exact ⟨⟨_, rfl, rfl⟩, ⟨_, rfl, rfl⟩, trivial⟩
    · cbv
      all_goals exact ⟨⟨_, rfl, _, rfl, rfl, rfl, rfl, trivial⟩, trivial⟩
  · rintro ⟨⟨k1, v1⟩, hk1, hi1, h_1⟩ hq1
    have hm1 := (hq1.2.2.1 0 _ _ _ _ 0 _ _ rfl rfl)
    try dsimp only at hk1 hi1 h_1
    clear hq1
    cbv
    by_cases hc1_ : k1 < a0_Legs.length
    · have hb1 : lt v1 (llen (r_Leg a0_Legs)) = true := ltL_true_Leg hg ht hi1 hc1_
      have hs1 := stepL_Leg hg ht hi1 hc1_ hm1
      obtain ⟨z1, hz1⟩ := some_of_lt hc1_
      rw [drop_of_some hz1] at h_1
      rw [S_IsNetwork_l1] at h_1
      obtain ⟨z1_From, z1_To, z1_Start, z1_Takes, z1_Days, z1_Room⟩ := z1
      try rw [← hg] at h_1
      try rw [← ht] at h_1
      try dsimp only at h_1
      rw [hb1]
      cbv
      refine AStep.mk (nn_L hi1) ?_
      cbv
      refine AGet.mk _ (r_getL_Leg hg ht hi1 hz1) ?_
      cbv
      obtain ⟨x1, hx1, h_1⟩ := of_cl h_1
      try dsimp only at h_1
      refine ACall.mk _ _ rfl (hF _ _ _ (c_S_IsLeg hg ht hx1)) (.inl rfl) (Nat.le_of_ble_eq_true rfl) ?_
      cbv
      cases hb2 : x1 with
      | true =>
        rw [br_true hb2] at h_1
        cbv
        try rw [hg] at h_1
        try rw [ht] at h_1
        refine ⟨⟨(k1 + 1, (wrap .i64 (add v1 1))), hc1_, hs1, h_1⟩, Wk.of [(0, some 0)] rfl rfl ?_ ?_, meas_L hc1_⟩
        · cbv
          all_goals exact ⟨⟨_, rfl, rfl⟩, ⟨_, rfl, rfl⟩, trivial⟩
        · cbv
          all_goals exact ⟨⟨_, rfl, _, rfl, rfl, rfl, rfl, trivial⟩, trivial⟩
      | false =>
        rw [br_false hb2] at h_1
        cbv
        obtain rfl := Option.some.inj h_1
        try dsimp only [lr, lrL, lrp, lrpL] at h
        obtain rfl := Option.some.inj h
        exact ARet.mk trivial hX.symm
    · have hb1 : lt v1 (llen (r_Leg a0_Legs)) = false := ltL_false_Leg hg ht hi1 hc1_
      rw [List.drop_of_length_le (Nat.le_of_not_lt hc1_)] at h_1
      rw [S_IsNetwork_l1] at h_1
      try rw [← hg] at h_1
      try rw [← ht] at h_1
      try dsimp only at h_1
      rw [hb1]
      cbv
      refine ⟨(), Wk.of [(0, some 0)] rfl rfl ?_ ?_, (Option.some.inj h_1).symm⟩
      · cbv
        all_goals exact ⟨⟨_, rfl, rfl⟩, trivial⟩
      · cbv
        all_goals exact ⟨⟨_, rfl, _, rfl, rfl, rfl, rfl, trivial⟩, trivial⟩
  · rintro _ hy1
    replace hy1 := hy1.symm
    subst hy1
    try dsimp only [lr, lrL, lrp, lrpL] at h
    cbv
    obtain ⟨o2, ho2, h⟩ := of_cl h
    try dsimp only at h
    try rw [hg] at ho2
    try rw [ht] at ho2
    refine ABL.mk { p : Nat × Int // p.1 ≤ a0_Off.length ∧ p.2 = ((p.1 : Nat) : Int) ∧ S_IsNetwork_l2 G.real TE.real (Network.mk a0_Legs a0_Off a0_Change) (List.drop p.1 a0_Off) p.2 = some o2 } (fun ⟨⟨k2, v2⟩, _⟩ => ({ sl := [(1, .c (.p 0 3 0 0)), (4, .c (.r (.v (.int .i64 v2))))], tab := [(0, some (.foc 3 [] [.r (.s 6 (r_Leg a0_Legs)), .r (.s 1 (r_I64 a0_Off)), .r (.v (.int .i64 a0_Change))] []))] } : St)) 1 (fun p => a0_Off.length - p.1.1) ⟨(0, 0), Nat.zero_le _, rfl, ho2⟩ (Unit) (fun _ => ({ sl := [(1, .c (.p 0 3 0 0))], tab := [(0, some (.foc 3 [] [.r (.s 6 (r_Leg a0_Legs)), .r (.s 1 (r_I64 a0_Off)), .r (.v (.int .i64 a0_Change))] []))] } : St)) 1 (fun y => o2 = LR.out y) ?_ ?_ ?_
    · refine Wk.of [(0, some 0)] rfl rfl ?_ ?_
      · cbv
        all_goals exact ⟨⟨_, rfl, rfl⟩, ⟨_, rfl, rfl⟩, trivial⟩
      · cbv
        all_goals exact ⟨⟨_, rfl, _, rfl, rfl, rfl, rfl, trivial⟩, trivial⟩
    · rintro ⟨⟨k2, v2⟩, hk2, hi2, h_2⟩ hq2
      have hm2 := (hq2.2.2.1 0 _ _ _ _ 1 _ _ rfl rfl)
      try dsimp only at hk2 hi2 h_2
      clear hq2
      cbv
      by_cases hc2_ : k2 < a0_Off.length
      · have hb3 : lt v2 (llen (r_I64 a0_Off)) = true := ltL_true_I64 hg ht hi2 hc2_
        have hs2 := stepL_I64 hg ht hi2 hc2_ hm2
        obtain ⟨z2, hz2⟩ := some_of_lt hc2_
        rw [drop_of_some hz2] at h_2
        rw [S_IsNetwork_l2] at h_2
        try rw [← hg] at h_2
        try rw [← ht] at h_2
        try dsimp only at h_2
        rw [hb3]
        cbv
        refine AStep.mk (nn_L hi2) ?_
        cbv
        refine AGet.mk _ (r_getL_I64 hg ht hi2 hz2) ?_
        cbv
        obtain ⟨x2, hx2, h_2⟩ := of_lP h_2
        try dsimp only at h_2
        refine ACall.mk _ _ rfl (hF _ _ _ (c_S_l1In hg ht hx2)) (.inl rfl) (Nat.le_of_ble_eq_true rfl) ?_
        cbv
        cases hb4 : x2 with
        | true =>
          rw [br_true hb4] at h_2
          cbv
          try (rw [hb4]; cbv)
          try (rw [hb4]; cbv)
          cases hb5 : (lt 0 v2) with
          | true =>
            rw [br_true hb5] at h_2
            cbv
            try (rw [hb5]; cbv)
            try (rw [hb5]; cbv)
            try (rw [hb5]; cbv)
            try (rw [hb5]; cbv)
            obtain ⟨hc1, h_2⟩ := of_gd h_2
            refine AStep.mk hc1 ?_
            cbv
            obtain ⟨x3, hx3, h_2⟩ := of_gt h_2
            try dsimp only at h_2
            refine AGet.mk _ (r_get_I64 hg ht hx3) ?_
            cbv
            try (rw [hb5]; cbv)
            try (rw [hb5]; cbv)
            try (rw [hb5]; cbv)
            try (rw [hb5]; cbv)
            try (rw [hb5]; cbv)
            refine AStep.mk (nn_L hi2) ?_
            cbv
            refine AGet.mk _ (r_getL_I64 hg ht hi2 hz2) ?_
            cbv
            try (rw [hb5]; cbv)
            try (rw [hb5]; cbv)
            try (rw [hb4]; cbv)
            try (rw [hb5]; cbv)
            try (rw [hb4]; cbv)
            cases hb6 : (le z2 x3) with
            | true =>
              rw [br_true hb6] at h_2
              cbv
              obtain rfl := Option.some.inj h_2
              try dsimp only [lr, lrL, lrp, lrpL] at h
              obtain rfl := Option.some.inj h
              exact ARet.mk trivial hX.symm
            | false =>
              rw [br_false hb6] at h_2
              cbv
              try rw [hg] at h_2
              try rw [ht] at h_2
              refine ⟨⟨(k2 + 1, (wrap .i64 (add v2 1))), hc2_, hs2, h_2⟩, Wk.of [(0, some 0)] rfl rfl ?_ ?_, meas_L hc2_⟩
              · cbv
                all_goals exact ⟨⟨_, rfl, rfl⟩, ⟨_, rfl, rfl⟩, trivial⟩
              · cbv
                all_goals exact ⟨⟨_, rfl, _, rfl, rfl, rfl, rfl, trivial⟩, trivial⟩
          | false =>
            rw [br_false hb5] at h_2
            cbv
            try (rw [hb5]; cbv)
            try (rw [hb5]; cbv)
            try (rw [hb5]; cbv)
            try (rw [hb5]; cbv)
            try (rw [hb5]; cbv)
            try (rw [hb5]; cbv)
            try (rw [hb5]; cbv)
            try (rw [hb5]; cbv)
            try (rw [hb5]; cbv)
            try (rw [hb5]; cbv)
            try (rw [hb5]; cbv)
            try (rw [hb4]; cbv)
            try (rw [hb5]; cbv)
            try (rw [hb4]; cbv)
            try rw [hg] at h_2
            try rw [ht] at h_2
            refine ⟨⟨(k2 + 1, (wrap .i64 (add v2 1))), hc2_, hs2, h_2⟩, Wk.of [(0, some 0)] rfl rfl ?_ ?_, meas_L hc2_⟩
            · cbv
              all_goals exact ⟨⟨_, rfl, rfl⟩, ⟨_, rfl, rfl⟩, trivial⟩
            · cbv
              all_goals exact ⟨⟨_, rfl, _, rfl, rfl, rfl, rfl, trivial⟩, trivial⟩
        | false =>
          rw [br_false hb4] at h_2
          cbv
          try (rw [hb4]; cbv)
          try (rw [hb4]; cbv)
          try (rw [hb4]; cbv)
          try (rw [hb4]; cbv)
          obtain rfl := Option.some.inj h_2
          try dsimp only [lr, lrL, lrp, lrpL] at h
          obtain rfl := Option.some.inj h
          exact ARet.mk trivial hX.symm
      · have hb3 : lt v2 (llen (r_I64 a0_Off)) = false := ltL_false_I64 hg ht hi2 hc2_
        rw [List.drop_of_length_le (Nat.le_of_not_lt hc2_)] at h_2
        rw [S_IsNetwork_l2] at h_2
        try rw [← hg] at h_2
        try rw [← ht] at h_2
        try dsimp only at h_2
        rw [hb3]
        cbv
        refine ⟨(), Wk.of [(0, some 0)] rfl rfl ?_ ?_, (Option.some.inj h_2).symm⟩
        · cbv
          all_goals exact ⟨⟨_, rfl, rfl⟩, trivial⟩
        · cbv
          all_goals exact ⟨⟨_, rfl, _, rfl, rfl, rfl, rfl, trivial⟩, trivial⟩
    · rintro _ hy2
      replace hy2 := hy2.symm
      subst hy2
      try dsimp only [lr, lrL, lrp, lrpL] at h
      cbv
      cases hb7 : (le (llen (r_Leg a0_Legs)) 20) with
      | true =>
        rw [br_true hb7] at h
        cbv
        try (rw [hb7]; cbv)
        try (rw [hb7]; cbv)
        try (rw [hb7]; cbv)
        try (rw [hb7]; cbv)
        cases hb8 : (le (llen (r_I64 a0_Off)) 10) with
        | true =>
          rw [br_true hb8] at h
          cbv
          try (rw [hb8]; cbv)
          try (rw [hb8]; cbv)
          obtain ⟨x4, hx4, h⟩ := of_lP h
          try dsimp only at h
          refine ACall.mk _ _ rfl (hF _ _ _ (c_S_l1In hg ht hx4)) (.inl rfl) (Nat.le_of_ble_eq_true rfl) ?_
          cbv
          try (rw [hb8]; cbv)
          obtain rfl := Option.some.inj h
          exact ARet.mk trivial hX.symm
        | false =>
          rw [br_false hb8] at h
          cbv
          try (rw [hb8]; cbv)
          try (rw [hb8]; cbv)
          try (rw [hb8]; cbv)
          obtain rfl := Option.some.inj h
          exact ARet.mk trivial hX.symm
      | false =>
        rw [br_false hb7] at h
        cbv
        try (rw [hb7]; cbv)
        try (rw [hb7]; cbv)
        try (rw [hb7]; cbv)
        try (rw [hb7]; cbv)
        obtain rfl := Option.some.inj h
        exact ARet.mk trivial hX.symm
end Go.Vs
namespace Go.Vs
set_option maxRecDepth 100000
def ir25 : J :=
  .seq (.reg none [⟨(some 4), none, .mv (.k (V.i 0))⟩] [0, 1])
  (.seq (.seq (.reg none [⟨(some 5), none, .mv (.k (V.i 0))⟩] [0, 1, 5])
   (.bl 0 (.seq (.seq (.reg none [⟨(some 6), none, .mv (.t 5)⟩,
        ⟨(some 7), none, .mv (.t 0)⟩,
        ⟨(some 8), none, .len false (.t 7)⟩,
        ⟨(some 9), none, .bin .lss .i (.t 6) (.t 8)⟩] [0, 1, 5, 9])
     (.cond (.t 9)
      (.skip)
      (.exit 0)))
    (.seq (.block 1 (.seq (.reg none [⟨(some 12), none, .mv (.t 0)⟩,
         ⟨(some 13), none, .mv (.t 5)⟩,
         ⟨(some 14), none, .ia 1 (.t 12) (.t 13)⟩,
         ⟨(some 15), none, .ld false 1 (.t 14)⟩,
         ⟨(some 16), none, .mv (.t 1)⟩,
         ⟨(some 17), none, .bin .eql .s (.t 15) (.t 16)⟩] [0, 1, 5, 17])
      (.cond (.t 17)
       (.seq (.reg none [⟨(some 18), none, .mv (.t 5)⟩,
           ⟨(some 4), none, .mv (.t 18)⟩] [4])
        (.ret))
       (.skip))))
    (.reg none [⟨(some 10), none, .mv (.t 5)⟩,
      ⟨(some 11), none, .bin .add .i (.t 10) (.k (V.i 1))⟩,
      ⟨(some 5), none, .mv (.t 11)⟩] [0, 1, 5])))))
  (.seq (.reg none [⟨(some 4), none, .mv (.k (V.i (-1)))⟩] [4])
  (.ret)))
def rv25 : List RV := [.t 4]
open Go.Proofs Go.IntWalk
set_option linter.unusedVariables false
set_option maxRecDepth 100000
set_option maxHeartbeats 4000000
def S_l4Index_l1 (g : G) (t : TE) (a1 : ByteArray) : List ByteArray → Int → LR Int Unit
  | [], v1 =>
    (LR.out ())
  | z1 :: ls1, v1 =>
    br (g.seq z1 a1)
    (
     (LR.ret v1))
    (
     S_l4Index_l1 g t a1 ls1 (g.wrap .i64 (g.add v1 1)))
def S_l4Index (g : G) (t : TE) (a0 : List ByteArray) (a1 : ByteArray) : Int :=
  lP (S_l4Index_l1 g t a1 a0 0) fun o1 => lrp o1 fun y1 =>
  (-1)
theorem fit25 : codeFit Try.prog Try.f25.ntmps (Try.f25.body.getD .skip) ir25 = true := by kernel_rfl
theorem c_S_l4Index {g : G} {t : TE} {a0 : List ByteArray} {a1 : ByteArray} {r : Int} (hg : g = G.real) (ht : t = TE.real) (h : S_l4Index g t a0 a1 = r) : Fn Try.prog 25 [.c (.s 1 (t.r_S a0)), .c (.v (.string a1))] (.c (.r (.v (.int .i64 r)))) := by
  obtain ⟨X, hX⟩ := hide (.c (.r (.v (.int .i64 r))) : X)
  rw [← hX]
  refine fn_of (rvs := rv25) (j := ir25) Try.func25 rfl fit25 (Nat.le_of_ble_eq_true rfl) (by kernel_rfl) prog_mixed ?_
  intro g2 F hg2 hF
  obtain rfl : g2 = g := hg2.unique.trans hg.symm
  clear hg2
  obtain ⟨wrap, lt, le, eq, quo, rem, band, bor, bxor, shl, shr, nat, int, add, sub, mul, cat, seq, slt, sub3, byte, llen, nadd, nsub, dlen, dapp, dset, drep, rd, rda, up, rsub, dsub, all, sle, slen, hasI, putI, hasS, putS, imin, imax, fzc, bstr⟩ := g2
  obtain ⟨r_Leg, d_Leg, r_I64, d_I64, r_S, d_S⟩ := t
  unfold S_l4Index at h
  try dsimp only at h
  cbv
  obtain ⟨o1, ho1, h⟩ := of_lP h
  try dsimp only at h
  try rw [hg] at ho1
  try rw [ht] at ho1
  refine ABL.mk { p : Nat × Int // p.1 ≤ a0.length ∧ p.2 = ((p.1 : Nat) : Int) ∧ S_l4Index_l1 G.real TE.real a1 (List.drop p.1 a0) p.2 = o1 } (fun ⟨⟨k1, v1⟩, _⟩ => ({ sl := [(0, .c (.r (.s 1 (r_S a0)))), (1, .c (.r (.v (.string a1)))), (5, .c (.r (.v (.int .i64 v1))))], tab := [] } : St)) 0 (fun p => a0.length - p.1.1) ⟨(0, 0), Nat.zero_le _, rfl, ho1⟩ (Unit) (fun _ => ({ sl := [], tab := [] } : St)) 0 (fun y => o1 = LR.out y) ?_ ?_ ?_
  · refine Wk.of [] rfl rfl ?_ ?_
    · cbv
      all_goals exact ⟨⟨_, rfl, rfl⟩, ⟨_, rfl, rfl⟩, ⟨_, rfl, rfl⟩, trivial⟩
    · cbv
      all_goals exact trivial
  · rintro ⟨⟨k1, v1⟩, hk1, hi1, h_1⟩ hq1
    have hm1 := (hq1.1 0 _ _ rfl)
    try dsimp only at hk1 hi1 h_1
    clear hq1
    cbv
    by_cases hc1_ : k1 < a0.length
    · have hb1 : lt v1 (llen (r_S a0)) = true := ltL_true_S hg ht hi1 hc1_
      have hs1 := stepL_S hg ht hi1 hc1_ hm1
      obtain ⟨z1, hz1⟩ := some_of_lt hc1_
      rw [drop_of_some hz1] at h_1
      rw [S_l4Index_l1] at h_1
      try rw [← hg] at h_1
      try rw [← ht] at h_1
      try dsimp only at h_1
      rw [hb1]
      cbv
      refine AStep.mk (nn_L hi1) ?_
      cbv
      refine AGet.mk _ (r_getL_S hg ht hi1 hz1) ?_
      cbv
      cases hb2 : (seq z1 a1) with
      | true =>
        rw [br_true hb2] at h_1
        cbv
        subst h_1
        try dsimp only [lr, lrL, lrp, lrpL] at h
        subst h
        exact ARet.mk trivial hX.symm
      | false =>
        rw [br_false hb2] at h_1
        cbv
        try rw [hg] at h_1
        try rw [ht] at h_1
        refine ⟨⟨(k1 + 1, (wrap .i64 (add v1 1))), hc1_, hs1, h_1⟩, Wk.of [] rfl rfl ?_ ?_, meas_L hc1_⟩
        · cbv
          all_goals exact ⟨⟨_, rfl, rfl⟩, ⟨_, rfl, rfl⟩, ⟨_, rfl, rfl⟩, trivial⟩
        · cbv
          all_goals exact trivial
    · have hb1 : lt v1 (llen (r_S a0)) = false := ltL_false_S hg ht hi1 hc1_
      rw [List.drop_of_length_le (Nat.le_of_not_lt hc1_)] at h_1
      rw [S_l4Index_l1] at h_1
      try rw [← hg] at h_1
      try rw [← ht] at h_1
      try dsimp only at h_1
      rw [hb1]
      cbv
      refine ⟨(), Wk.of [] rfl rfl ?_ ?_, h_1.symm⟩
      · cbv
        all_goals exact trivial
      · cbv
        all_goals exact trivial
  · rintro _ hy1
    replace hy1 := hy1.symm
    subst hy1
    try dsimp only [lr, lrL, lrp, lrpL] at h
    cbv
    subst h
    exact ARet.mk trivial hX.symm
end Go.Vs
namespace Go.Vs
set_option maxRecDepth 100000
def ir26 : J :=
  .seq (.reg none [⟨(some 1), none, .box (.t 0)⟩,
     ⟨(some 2), none, .mv (.k (.c (.n 1)))⟩] [1])
  (.seq (.reg none [⟨(some 7), none, .bsl 1 []⟩,
     ⟨(some 3), none, .mv (.t 7)⟩] [1, 3])
  (.seq (.seq (.reg none [⟨(some 4), none, .mv (.k (V.i 0))⟩] [1, 3, 4])
   (.bl 0 (.seq (.seq (.reg none [⟨(some 8), none, .mv (.t 4)⟩,
        ⟨(some 9), none, .fa 0 (.t 1)⟩,
        ⟨(some 10), none, .ld false 1 (.t 9)⟩,
        ⟨(some 11), none, .len false (.t 10)⟩,
        ⟨(some 12), none, .bin .mul .i (.k (V.i 2)) (.t 11)⟩,
        ⟨(some 13), none, .bin .lss .i (.t 8) (.t 12)⟩] [1, 3, 4, 13])
     (.cond (.t 13)
      (.skip)
      (.exit 0)))
    (.seq (.block 1 (.seq (.reg none [⟨(some 16), none, .fa 0 (.t 1)⟩,
         ⟨(some 17), none, .ld false 1 (.t 16)⟩,
         ⟨(some 18), none, .mv (.t 4)⟩,
         ⟨(some 19), none, .bin .quo .i (.t 18) (.k (V.i 2))⟩,
         ⟨(some 20), none, .ia 6 (.t 17) (.t 19)⟩,
         ⟨(some 21), none, .fa 0 (.t 20)⟩,
         ⟨(some 22), none, .ld false 1 (.t 21)⟩,
         ⟨(some 5), none, .mv (.t 22)⟩] [1, 3, 4, 5])
      (.seq (.seq (.reg none [⟨(some 23), none, .mv (.t 4)⟩,
          ⟨(some 24), none, .bin .rem .i (.t 23) (.k (V.i 2))⟩,
          ⟨(some 25), none, .bin .eql .i (.t 24) (.k (V.i 1))⟩] [1, 3, 4, 5, 25])
       (.cond (.t 25)
        (.reg none [⟨(some 26), none, .fa 0 (.t 1)⟩,
           ⟨(some 27), none, .ld false 1 (.t 26)⟩,
           ⟨(some 28), none, .mv (.t 4)⟩,
           ⟨(some 29), none, .bin .quo .i (.t 28) (.k (V.i 2))⟩,
           ⟨(some 30), none, .ia 6 (.t 27) (.t 29)⟩,
           ⟨(some 31), none, .fa 1 (.t 30)⟩,
           ⟨(some 32), none, .ld false 1 (.t 31)⟩,
           ⟨(some 5), none, .mv (.t 32)⟩] [1, 3, 4, 5])
        (.skip)))
      (.seq (.reg none [⟨(some 6), none, .mv (.k (V.i 0))⟩] [1, 3, 4, 5, 6])
      (.seq (.bl 2 (.seq (.seq (.reg none [⟨(some 33), none, .mv (.t 6)⟩,
            ⟨(some 34), none, .mv (.t 3)⟩,
            ⟨(some 35), none, .len false (.t 34)⟩,
            ⟨(some 36), none, .bin .lss .i (.t 33) (.t 35)⟩,
            ⟨(some 37), none, .mv (.t 36)⟩,
            ⟨(some 38), (some (37, true)), .mv (.t 3)⟩,
            ⟨(some 39), (some (37, true)), .mv (.t 6)⟩,
            ⟨(some 40), (some (37, true)), .ia 1 (.t 38) (.t 39)⟩,
            ⟨(some 41), (some (37, true)), .ld false 1 (.t 40)⟩,
            ⟨(some 42), (some (37, true)), .mv (.t 5)⟩,
            ⟨(some 43), (some (37, true)), .bin .lss .s (.t 41) (.t 42)⟩,
            ⟨(some 44), none, .pick (.t 37) (.t 43) (.k (V.b false))⟩] [1, 3, 4, 5, 6, 44])
         (.cond (.t 44)
          (.skip)
          (.exit 2)))
        (.block 3 (.reg none [⟨(some 45), none, .mv (.t 6)⟩,
           ⟨(some 46), none, .bin .add .i (.t 45) (.k (V.i 1))⟩,
           ⟨(some 6), none, .mv (.t 46)⟩] [1, 3, 4, 5, 6]))))
      (.seq (.reg none [⟨(some 47), none, .mv (.t 6)⟩,
         ⟨(some 48), none, .mv (.t 3)⟩,
         ⟨(some 49), none, .len false (.t 48)⟩,
         ⟨(some 50), none, .bin .eql .i (.t 47) (.t 49)⟩,
         ⟨(some 51), none, .mv (.t 50)⟩,
         ⟨(some 52), (some (51, false)), .mv (.t 3)⟩,
         ⟨(some 53), (some (51, false)), .mv (.t 6)⟩,
         ⟨(some 54), (some (51, false)), .ia 1 (.t 52) (.t 53)⟩,
         ⟨(some 55), (some (51, false)), .ld false 1 (.t 54)⟩,
         ⟨(some 56), (some (51, false)), .mv (.t 5)⟩,
         ⟨(some 57), (some (51, false)), .bin .neq .s (.t 55) (.t 56)⟩,
         ⟨(some 58), none, .pick (.t 51) (.k (V.b true)) (.t 57)⟩] [1, 3, 4, 5, 6, 58])
      (.cond (.t 58)
       (.reg (some [[], [], [], [1, 2], [0, 1, 2, 3], [], [5], [0, 1, 2, 3, 4, 5, 6], [], [], [8, 9], [0, 1, 2, 3, 4, 5, 6, 7, 8, 9, 10], [0, 1, 2, 3, 4, 5, 6, 7, 8, 9, 10, 11]]) [⟨(some 59), none, .bsl 1 []⟩,
          ⟨(some 60), none, .mv (.t 3)⟩,
          ⟨(some 61), none, .mv (.t 6)⟩,
          ⟨(some 62), none, .sl 1 (.t 60) none (some (.t 61))⟩,
          ⟨(some 63), none, .app 1 16 false (.t 59) (.t 62)⟩,
          ⟨(some 64), none, .mv (.t 5)⟩,
          ⟨(some 65), none, .bsl 1 [(.t 64)]⟩,
          ⟨(some 66), none, .app 1 16 true (.t 63) (.t 65)⟩,
          ⟨(some 67), none, .mv (.t 3)⟩,
          ⟨(some 68), none, .mv (.t 6)⟩,
          ⟨(some 69), none, .sl 1 (.t 67) (some (.t 68)) none⟩,
          ⟨(some 70), none, .app 1 16 false (.t 66) (.t 69)⟩,
          ⟨(some 3), none, .mv (.t 70)⟩] [1, 3, 4])
       (.skip))))))))
    (.reg none [⟨(some 14), none, .mv (.t 4)⟩,
      ⟨(some 15), none, .bin .add .i (.t 14) (.k (V.i 1))⟩,
      ⟨(some 4), none, .mv (.t 15)⟩] [1, 3, 4])))))
  (.seq (.reg none [⟨(some 71), none, .mv (.t 3)⟩,
     ⟨(some 2), none, .mv (.t 71)⟩] [2])
  (.ret))))
def rv26 : List RV := [.t 2]
open Go.Proofs Go.IntWalk
set_option linter.unusedVariables false
set_option maxRecDepth 100000
set_option maxHeartbeats 4000000
def S_PlacesOf_l3 (g : G) (t : TE) (w1 : List ByteArray) (x1 : Leg) : Nat → Int → Option Int
  | 0, v3 =>
    some v3
  | n3 + 1, v3 =>
    gt w1 (g.nat v3) fun x4 =>
    br (g.slt x4 x1.From)
    (
     S_PlacesOf_l3 g t w1 x1 n3 (g.wrap .i64 (g.add v3 1)))
    (
     some v3)
def S_PlacesOf_l2 (g : G) (t : TE) (w1 : List ByteArray) (x1 : Leg) : Nat → Int → Option Int
  | 0, v2 =>
    some v2
  | n2 + 1, v2 =>
    gt w1 (g.nat v2) fun x2 =>
    br (g.slt x2 x1.To)
    (
     S_PlacesOf_l2 g t w1 x1 n2 (g.wrap .i64 (g.add v2 1)))
    (
     some v2)
def S_PlacesOf_l1 (g : G) (t : TE) (a0 : Network) : Nat → Int → List ByteArray → Option (List ByteArray)
  | 0, v1, w1 =>
    some w1
  | n1 + 1, v1, w1 =>
    gd (((0 : Int) ≤ (g.wrap .i64 (g.quo v1 2)))) <|
    gt a0.Legs (g.nat (g.wrap .i64 (g.quo v1 2))) fun x1 =>
    br (g.eq (g.rem v1 2) 1)
    (
     gd (((0 : Int) ≤ (g.wrap .i64 (g.quo v1 2)))) <|
     gd (((g.int (g.dlen (t.d_S w1))) ≤ 9223372036854775807)) <|
     cl (S_PlacesOf_l2 g t w1 x1 (cntLt 0 (g.int (g.dlen (t.d_S w1)))) 0) fun y1 =>
     br (g.eq y1 (g.int (g.dlen (t.d_S w1))))
     (
      lP ([]) fun (l2 : List ByteArray) =>
      gd (((0 : Int) ≤ 0 ∧ 0 ≤ y1 ∧ y1 ≤ (((g.dlen (t.d_S w1)) : Nat) : Int))) <|
      gd (((g.nat 0) + (g.nsub (g.nat y1) (g.nat 0)) ≤ w1.length)) <|
      gd (((l2.length + (List.take (g.nsub (g.nat y1) (g.nat 0)) (List.drop (g.nat 0) w1)).length) * 16 ≤ 70368744177664)) <|
      lP (l2 ++ (List.take (g.nsub (g.nat y1) (g.nat 0)) (List.drop (g.nat 0) w1))) fun (l3 : List ByteArray) =>
      lP ([x1.To]) fun (l4 : List ByteArray) =>
      gd (((l3.length + l4.length) * 16 ≤ 70368744177664)) <|
      lP (l3 ++ l4) fun (l5 : List ByteArray) =>
      gd (((0 : Int) ≤ y1 ∧ y1 ≤ (g.int (g.dlen (t.d_S w1))) ∧ (g.int (g.dlen (t.d_S w1))) ≤ (((g.dlen (t.d_S w1)) : Nat) : Int))) <|
      gd (((g.nat y1) + (g.nsub (g.nat (g.int (g.dlen (t.d_S w1)))) (g.nat y1)) ≤ w1.length)) <|
      gd (((l5.length + (List.take (g.nsub (g.nat (g.int (g.dlen (t.d_S w1)))) (g.nat y1)) (List.drop (g.nat y1) w1)).length) * 16 ≤ 70368744177664)) <|
      lP (l5 ++ (List.take (g.nsub (g.nat (g.int (g.dlen (t.d_S w1)))) (g.nat y1)) (List.drop (g.nat y1) w1))) fun (l6 : List ByteArray) =>
      S_PlacesOf_l1 g t a0 n1 (g.wrap .i64 (g.add v1 1)) l6)
     (
      gd (((0 : Int) ≤ y1 ∧ y1 < (((g.dlen (t.d_S w1)) : Nat) : Int))) <|
      gt w1 (g.nat y1) fun x3 =>
      br (g.seq x3 x1.To)
      (
       S_PlacesOf_l1 g t a0 n1 (g.wrap .i64 (g.add v1 1)) w1)
      (
       lP ([]) fun (l7 : List ByteArray) =>
       gd (((0 : Int) ≤ 0 ∧ 0 ≤ y1 ∧ y1 ≤ (((g.dlen (t.d_S w1)) : Nat) : Int))) <|
       gd (((g.nat 0) + (g.nsub (g.nat y1) (g.nat 0)) ≤ w1.length)) <|
       gd (((l7.length + (List.take (g.nsub (g.nat y1) (g.nat 0)) (List.drop (g.nat 0) w1)).length) * 16 ≤ 70368744177664)) <|
       lP (l7 ++ (List.take (g.nsub (g.nat y1) (g.nat 0)) (List.drop (g.nat 0) w1))) fun (l8 : List ByteArray) =>
       lP ([x1.To]) fun (l9 : List ByteArray) =>
       gd (((l8.length + l9.length) * 16 ≤ 70368744177664)) <|
       lP (l8 ++ l9) fun (l10 : List ByteArray) =>
       gd (((0 : Int) ≤ y1 ∧ y1 ≤ (g.int (g.dlen (t.d_S w1))) ∧ (g.int (g.dlen (t.d_S w1))) ≤ (((g.dlen (t.d_S w1)) : Nat) : Int))) <|
       gd (((g.nat y1) + (g.nsub (g.nat (g.int (g.dlen (t.d_S w1)))) (g.nat y1)) ≤ w1.length)) <|
       gd (((l10.length + (List.take (g.nsub (g.nat (g.int (g.dlen (t.d_S w1)))) (g.nat y1)) (List.drop (g.nat y1) w1)).length) * 16 ≤ 70368744177664)) <|
       lP (l10 ++ (List.take (g.nsub (g.nat (g.int (g.dlen (t.d_S w1)))) (g.nat y1)) (List.drop (g.nat y1) w1))) fun (l11 : List ByteArray) =>
       S_PlacesOf_l1 g t a0 n1 (g.wrap .i64 (g.add v1 1)) l11)))
    (
     gd (((g.int (g.dlen (t.d_S w1))) ≤ 9223372036854775807)) <|
     cl (S_PlacesOf_l3 g t w1 x1 (cntLt 0 (g.int (g.dlen (t.d_S w1)))) 0) fun y2 =>
     br (g.eq y2 (g.int (g.dlen (t.d_S w1))))
     (
      lP ([]) fun (l12 : List ByteArray) =>
      gd (((0 : Int) ≤ 0 ∧ 0 ≤ y2 ∧ y2 ≤ (((g.dlen (t.d_S w1)) : Nat) : Int))) <|
      gd (((g.nat 0) + (g.nsub (g.nat y2) (g.nat 0)) ≤ w1.length)) <|
      gd (((l12.length + (List.take (g.nsub (g.nat y2) (g.nat 0)) (List.drop (g.nat 0) w1)).length) * 16 ≤ 70368744177664)) <|
      lP (l12 ++ (List.take (g.nsub (g.nat y2) (g.nat 0)) (List.drop (g.nat 0) w1))) fun (l13 : List ByteArray) =>
      lP ([x1.From]) fun (l14 : List ByteArray) =>
      gd (((l13.length + l14.length) * 16 ≤ 70368744177664)) <|
      lP (l13 ++ l14) fun (l15 : List ByteArray) =>
      gd (((0 : Int) ≤ y2 ∧ y2 ≤ (g.int (g.dlen (t.d_S w1))) ∧ (g.int (g.dlen (t.d_S w1))) ≤ (((g.dlen (t.d_S w1)) : Nat) : Int))) <|
      gd (((g.nat y2) + (g.nsub (g.nat (g.int (g.dlen (t.d_S w1)))) (g.nat y2)) ≤ w1.length)) <|
      gd (((l15.length + (List.take (g.nsub (g.nat (g.int (g.dlen (t.d_S w1)))) (g.nat y2)) (List.drop (g.nat y2) w1)).length) * 16 ≤ 70368744177664)) <|
      lP (l15 ++ (List.take (g.nsub (g.nat (g.int (g.dlen (t.d_S w1)))) (g.nat y2)) (List.drop (g.nat y2) w1))) fun (l16 : List ByteArray) =>
      S_PlacesOf_l1 g t a0 n1 (g.wrap .i64 (g.add v1 1)) l16)
     (
      gd (((0 : Int) ≤ y2 ∧ y2 < (((g.dlen (t.d_S w1)) : Nat) : Int))) <|
      gt w1 (g.nat y2) fun x5 =>
      br (g.seq x5 x1.From)
      (
       S_PlacesOf_l1 g t a0 n1 (g.wrap .i64 (g.add v1 1)) w1)
      (
       lP ([]) fun (l17 : List ByteArray) =>
       gd (((0 : Int) ≤ 0 ∧ 0 ≤ y2 ∧ y2 ≤ (((g.dlen (t.d_S w1)) : Nat) : Int))) <|
       gd (((g.nat 0) + (g.nsub (g.nat y2) (g.nat 0)) ≤ w1.length)) <|
       gd (((l17.length + (List.take (g.nsub (g.nat y2) (g.nat 0)) (List.drop (g.nat 0) w1)).length) * 16 ≤ 70368744177664)) <|
       lP (l17 ++ (List.take (g.nsub (g.nat y2) (g.nat 0)) (List.drop (g.nat 0) w1))) fun (l18 : List ByteArray) =>
       lP ([x1.From]) fun (l19 : List ByteArray) =>
       gd (((l18.length + l19.length) * 16 ≤ 70368744177664)) <|
       lP (l18 ++ l19) fun (l20 : List ByteArray) =>
       gd (((0 : Int) ≤ y2 ∧ y2 ≤ (g.int (g.dlen (t.d_S w1))) ∧ (g.int (g.dlen (t.d_S w1))) ≤ (((g.dlen (t.d_S w1)) : Nat) : Int))) <|
       gd (((g.nat y2) + (g.nsub (g.nat (g.int (g.dlen (t.d_S w1)))) (g.nat y2)) ≤ w1.length)) <|
       gd (((l20.length + (List.take (g.nsub (g.nat (g.int (g.dlen (t.d_S w1)))) (g.nat y2)) (List.drop (g.nat y2) w1)).length) * 16 ≤ 70368744177664)) <|
       lP (l20 ++ (List.take (g.nsub (g.nat (g.int (g.dlen (t.d_S w1)))) (g.nat y2)) (List.drop (g.nat y2) w1))) fun (l21 : List ByteArray) =>
       S_PlacesOf_l1 g t a0 n1 (g.wrap .i64 (g.add v1 1)) l21)))
def S_PlacesOf (g : G) (t : TE) (a0 : Network) : Option (List ByteArray) :=
  lP ([]) fun (l1 : List ByteArray) =>
  gd (((g.wrap .i64 (g.mul 2 (g.llen (t.r_Leg a0.Legs)))) ≤ 9223372036854775807)) <|
  cl (S_PlacesOf_l1 g t a0 (cntLt 0 (g.wrap .i64 (g.mul 2 (g.llen (t.r_Leg a0.Legs))))) 0 l1) fun y3 =>
  some y3
theorem fit26 : codeFit Try.prog Try.f26.ntmps (Try.f26.body.getD .skip) ir26 = true := by kernel_rfl
theorem c_S_PlacesOf {g : G} {t : TE} {a0 : Network} {r : List ByteArray} (hg : g = G.real) (ht : t = TE.real) (h : S_PlacesOf g t a0 = some r) : Fn Try.prog 26 [.g (Network.rs t a0)] (.c (.o 1 (t.d_S r))) := by
  obtain ⟨X, hX⟩ := hide (.c (.o 1 (t.d_S r)) : X)
  rw [← hX]
  refine fn_of (rvs := rv26) (j := ir26) Try.func26 rfl fit26 (Nat.le_of_ble_eq_true rfl) (by kernel_rfl) prog_mixed ?_
  intro g2 F hg2 hF
  obtain rfl : g2 = g := hg2.unique.trans hg.symm
  clear hg2
  obtain ⟨wrap, lt, le, eq, quo, rem, band, bor, bxor, shl, shr, nat, int, add, sub, mul, cat, seq, slt, sub3, byte, llen, nadd, nsub, dlen, dapp, dset, drep, rd, rda, up, rsub, dsub, all, sle, slen, hasI, putI, hasS, putS, imin, imax, fzc, bstr⟩ := g2
  obtain ⟨r_Leg, d_Leg, r_I64, d_I64, r_S, d_S⟩ := t
  obtain ⟨a0_Legs, a0_Off, a0_Change⟩ := a0
  unfold S_PlacesOf at h
  try dsimp only at h
  cbv
  obtain ⟨l1, hl1, h⟩ := of_lP h
  try dsimp only at h
  refine ANew.mk (d_S l1) (dlen (d_S l1)) (by rw [← hl1]; exact lit_S hg ht []) (by rw [← hl1]; exact litn_S hg ht []) ?_
  cbv
  obtain ⟨hB1, h⟩ := of_gd h
  obtain ⟨o1, ho1, h⟩ := of_cl h
  try dsimp only at h
  try rw [hg] at ho1
  try rw [ht] at ho1
  refine ABL.mk { p : Nat × Int × List ByteArray // p.1 = cntLt p.2.1 (wrap .i64 (mul 2 (llen (r_Leg a0_Legs)))) ∧ 0 ≤ p.2.1 ∧ S_PlacesOf_l1 G.real TE.real (Network.mk a0_Legs a0_Off a0_Change) p.1 p.2.1 p.2.2 = some o1 } (fun ⟨⟨n1, v1, w1⟩, _⟩ => ({ sl := [(1, .c (.p 0 3 0 0)), (3, .c (.f 1 1 0 (dlen (d_S w1)))), (4, .c (.r (.v (.int .i64 v1))))], tab := [(0, some (.foc 3 [] [.r (.s 6 (r_Leg a0_Legs)), .r (.s 1 (r_I64 a0_Off)), .r (.v (.int .i64 a0_Change))] [])), (1, some (.arr 1 (d_S w1)))] } : St)) 2 (fun p => p.1.1) ⟨(cntLt 0 (wrap .i64 (mul 2 (llen (r_Leg a0_Legs)))), 0, l1), rfl, Int.le_refl _, ho1⟩ (List ByteArray) (fun y3 => ({ sl := [(3, .c (.f 0 1 0 (dlen (d_S y3))))], tab := [(0, some (.arr 1 (d_S y3)))] } : St)) 1 (fun y => o1 = y) ?_ ?_ ?_
  · refine Wk.of [(0, some 0), (1, some 32)] rfl rfl ?_ ?_
    · cbv
      all_goals exact ⟨⟨_, rfl, rfl⟩, ⟨_, rfl, rfl⟩, ⟨_, rfl, rfl⟩, trivial⟩
    · cbv
      all_goals exact ⟨⟨_, rfl, _, rfl, rfl, rfl, rfl, trivial⟩, ⟨_, rfl, rfl⟩, trivial⟩
  · rintro ⟨⟨n1, v1, w1⟩, hn1, hi1, h_1⟩ hq1
    try dsimp only at hn1 hi1 h_1
    clear hq1
    cbv
    rcases n1 with _ | n1
    · have hb1 : lt v1 (wrap .i64 (mul 2 (llen (r_Leg a0_Legs)))) = false := ltC_false hg hn1
      rw [S_PlacesOf_l1] at h_1
      try rw [← hg] at h_1
      try rw [← ht] at h_1
      try dsimp only at h_1
      rw [hb1]
      cbv
      refine ⟨w1, Wk.of [(0, some 1)] rfl rfl ?_ ?_, (Option.some.inj h_1).symm⟩
      · cbv
        all_goals exact ⟨⟨_, rfl, rfl⟩, trivial⟩
      · cbv
        all_goals exact ⟨⟨_, rfl, rfl⟩, trivial⟩
    · have hb1 : lt v1 (wrap .i64 (mul 2 (llen (r_Leg a0_Legs)))) = true := ltC_true hg hn1
      have hl1 := ltC_le hn1
      have hs1 := stepltC hg hn1 hi1 hB1 (by decide)
      rw [S_PlacesOf_l1] at h_1
      try rw [← hg] at h_1
      try rw [← ht] at h_1
      try dsimp only at h_1
      rw [hb1]
      cbv
      refine AStep.mk (by decide) ?_
      cbv
      obtain ⟨hc1, h_1⟩ := of_gd h_1
      refine AStep.mk hc1 ?_
      cbv
      obtain ⟨x1, hx1, h_1⟩ := of_gt h_1
      obtain ⟨x1_From, x1_To, x1_Start, x1_Takes, x1_Days, x1_Room⟩ := x1
      try dsimp only at h_1
      refine AGet.mk _ (r_get_Leg hg ht hx1) ?_
      cbv
      refine AStep.mk (by decide) ?_
      cbv
      cases hb2 : (eq (rem v1 2) 1) with
      | true =>
        rw [br_true hb2] at h_1
        cbv
        refine AStep.mk (by decide) ?_
        cbv
        obtain ⟨hc2, h_1⟩ := of_gd h_1
        refine AStep.mk hc2 ?_
        cbv
        refine AGet.mk _ (r_get_Leg hg ht hx1) ?_
        cbv
        obtain ⟨hB2, h_1⟩ := of_gd h_1
        obtain ⟨o2, ho2, h_1⟩ := of_cl h_1
        try dsimp only at h_1
        try rw [hg] at ho2
        try rw [ht] at ho2
        refine ABL.mk { p : Nat × Int // p.1 = cntLt p.2 (int (dlen (d_S w1))) ∧ 0 ≤ p.2 ∧ S_PlacesOf_l2 G.real TE.real w1 (Leg.mk x1_From x1_To x1_Start x1_Takes x1_Days x1_Room) p.1 p.2 = some o2 } (fun ⟨⟨n2, v2⟩, _⟩ => ({ sl := [(1, .c (.p 0 3 0 0)), (3, .c (.f 1 1 0 (dlen (d_S w1)))), (4, .c (.r (.v (.int .i64 v1)))), (5, .c (.r (.v (.string x1_To)))), (6, .c (.r (.v (.int .i64 v2))))], tab := [(0, some (.foc 3 [] [.r (.s 6 (r_Leg a0_Legs)), .r (.s 1 (r_I64 a0_Off)), .r (.v (.int .i64 a0_Change))] [])), (1, some (.arr 1 (d_S w1)))] } : St)) 2 (fun p => p.1.1) ⟨(cntLt 0 (int (dlen (d_S w1))), 0), rfl, Int.le_refl _, ho2⟩ (Int) (fun y1 => ({ sl := [(1, .c (.p 0 3 0 0)), (3, .c (.f 1 1 0 (dlen (d_S w1)))), (4, .c (.r (.v (.int .i64 v1)))), (5, .c (.r (.v (.string x1_To)))), (6, .c (.r (.v (.int .i64 y1))))], tab := [(0, some (.foc 3 [] [.r (.s 6 (r_Leg a0_Legs)), .r (.s 1 (r_I64 a0_Off)), .r (.v (.int .i64 a0_Change))] [])), (1, some (.arr 1 (d_S w1)))] } : St)) 2 (fun y => o2 = y) ?_ ?_ ?_
        · refine Wk.of [(0, some 0), (1, some 1)] rfl rfl ?_ ?_
          · cbv
            all_goals exact ⟨⟨_, rfl, rfl⟩, ⟨_, rfl, rfl⟩, ⟨_, rfl, rfl⟩, ⟨_, rfl, rfl⟩, ⟨_, rfl, rfl⟩, trivial⟩
          · cbv
            all_goals exact ⟨⟨_, rfl, _, rfl, rfl, rfl, rfl, trivial⟩, ⟨_, rfl, rfl⟩, trivial⟩
        · rintro ⟨⟨n2, v2⟩, hn2, hi2, h_2⟩ hq2
          try dsimp only at hn2 hi2 h_2
          clear hq2
          cbv
          rcases n2 with _ | n2
          · have hb3 : lt v2 (int (dlen (d_S w1))) = false := ltC_false hg hn2
            rw [S_PlacesOf_l2] at h_2
            try rw [← hg] at h_2
            try rw [← ht] at h_2
            try dsimp only at h_2
            rw [hb3]
            cbv
            try (rw [hb3]; cbv)
            try (rw [hb3]; cbv)
            try (rw [hb3]; cbv)
            try (rw [hb3]; cbv)
            try (rw [hb3]; cbv)
            try (rw [hb3]; cbv)
            refine ⟨v2, Wk.of [(0, some 0), (1, some 1)] rfl rfl ?_ ?_, (Option.some.inj h_2).symm⟩
            · cbv
              all_goals exact ⟨⟨_, rfl, rfl⟩, ⟨_, rfl, rfl⟩, ⟨_, rfl, rfl⟩, ⟨_, rfl, rfl⟩, ⟨_, rfl, rfl⟩, trivial⟩
            · cbv
              all_goals exact ⟨⟨_, rfl, _, rfl, rfl, rfl, rfl, trivial⟩, ⟨_, rfl, rfl⟩, trivial⟩
          · have hb3 : lt v2 (int (dlen (d_S w1))) = true := ltC_true hg hn2
            have hl2 := ltC_le hn2
            have hs2 := stepltC hg hn2 hi2 hB2 (by decide)
            rw [S_PlacesOf_l2] at h_2
            try rw [← hg] at h_2
            try rw [← ht] at h_2
            try dsimp only at h_2
            rw [hb3]
            cbv
            try (rw [hb3]; cbv)
            try (rw [hb3]; cbv)
            refine AStep.mk (rg_int hg hi2 hl2) ?_
            cbv
            try (rw [hb3]; cbv)
            obtain ⟨x2, hx2, h_2⟩ := of_gt h_2
            try dsimp only at h_2
            refine AGet.mk _ (d_get_S hg ht hx2) ?_
            cbv
            try (rw [hb3]; cbv)
            try (rw [hb3]; cbv)
            try (rw [hb3]; cbv)
            cases hb4 : (slt x2 x1_To) with
            | true =>
              rw [br_true hb4] at h_2
              cbv
              try rw [hg] at h_2
              try rw [ht] at h_2
              refine ⟨⟨(n2, (wrap .i64 (add v2 1))), hs2.1, hs2.2, h_2⟩, Wk.of [(0, some 0), (1, some 1)] rfl rfl ?_ ?_, Nat.lt_succ_self _⟩
              · cbv
                all_goals exact ⟨⟨_, rfl, rfl⟩, ⟨_, rfl, rfl⟩, ⟨_, rfl, rfl⟩, ⟨_, rfl, rfl⟩, ⟨_, rfl, rfl⟩, trivial⟩
              · cbv
                all_goals exact ⟨⟨_, rfl, _, rfl, rfl, rfl, rfl, trivial⟩, ⟨_, rfl, rfl⟩, trivial⟩
            | false =>
              rw [br_false hb4] at h_2
              cbv
              refine ⟨v2, Wk.of [(0, some 0), (1, some 1)] rfl rfl ?_ ?_, (Option.some.inj h_2).symm⟩
              · cbv
                all_goals exact ⟨⟨_, rfl, rfl⟩, ⟨_, rfl, rfl⟩, ⟨_, rfl, rfl⟩, ⟨_, rfl, rfl⟩, ⟨_, rfl, rfl⟩, trivial⟩
              · cbv
                all_goals exact ⟨⟨_, rfl, _, rfl, rfl, rfl, rfl, trivial⟩, ⟨_, rfl, rfl⟩, trivial⟩
        · rintro y1 hy2
          replace hy2 := hy2.symm
          subst hy2
          try dsimp only [lr, lrL, lrp, lrpL] at h_1
          cbv
          cases hb5 : (eq y1 (int (dlen (d_S w1)))) with
          | true =>
            rw [br_true hb5] at h_1
            cbv
            try (rw [hb5]; cbv)
            try (rw [hb5]; cbv)
            try (rw [hb5]; cbv)
            try (rw [hb5]; cbv)
            try (rw [hb5]; cbv)
            try (rw [hb5]; cbv)
            obtain ⟨l2, hl2, h_1⟩ := of_lP h_1
            try dsimp only at h_1
            refine ANew.mk (d_S l2) (dlen (d_S l2)) (by rw [← hl2]; exact lit_S hg ht []) (by rw [← hl2]; exact litn_S hg ht []) ?_
            cbv
            obtain ⟨hc3, h_1⟩ := of_gd h_1
            refine AStep.mk hc3 ?_
            cbv
            obtain ⟨hc8, h_1⟩ := of_gd h_1
            obtain ⟨hc9, h_1⟩ := of_gd h_1
            refine AStep.mk ⟨(subp_ok_S hg ht hc8), (app_ok_S hg ht (dlen_S hg ht _) (dsub_S hg ht _ _ _) hc9)⟩ ?_
            cbv
            obtain ⟨l3, hl3, h_1⟩ := of_lP h_1
            try dsimp only at h_1
            refine ANew.mk (d_S l3) (dlen (d_S l3)) (by rw [← hl3]; exact app_S hg ht (dlen_S hg ht _) (dsub_S hg ht _ _ _)) (by rw [← hl3]; exact appl_S hg ht (dlen_S hg ht _) (dsub_S hg ht _ _ _)) ?_
            cbv
            obtain ⟨l4, hl4, h_1⟩ := of_lP h_1
            try dsimp only at h_1
            refine ANew.mk (d_S l4) (dlen (d_S l4)) (by rw [← hl4]; exact lit_S hg ht [x1_To]) (by rw [← hl4]; exact litn_S hg ht [x1_To]) ?_
            cbv
            obtain ⟨hc7, h_1⟩ := of_gd h_1
            refine AStep.mk ⟨⟨rfl, (dlen_S hg ht _)⟩, (app_ok_S hg ht (dlen_S hg ht _) rfl hc7)⟩ ?_
            cbv
            obtain ⟨l5, hl5, h_1⟩ := of_lP h_1
            try dsimp only at h_1
            refine ANew.mk (d_S l5) (dlen (d_S l5)) (by rw [← hl5]; exact app_S hg ht (dlen_S hg ht _) rfl) (by rw [← hl5]; exact appl_S hg ht (dlen_S hg ht _) rfl) ?_
            cbv
            obtain ⟨hc4, h_1⟩ := of_gd h_1
            refine AStep.mk hc4 ?_
            cbv
            obtain ⟨hc5, h_1⟩ := of_gd h_1
            obtain ⟨hc6, h_1⟩ := of_gd h_1
            refine AStep.mk ⟨(subp_ok_S hg ht hc5), (app_ok_S hg ht (dlen_S hg ht _) (dsub_S hg ht _ _ _) hc6)⟩ ?_
            cbv
            obtain ⟨l6, hl6, h_1⟩ := of_lP h_1
            try dsimp only at h_1
            refine ANew.mk (d_S l6) (dlen (d_S l6)) (by rw [← hl6]; exact app_S hg ht (dlen_S hg ht _) (dsub_S hg ht _ _ _)) (by rw [← hl6]; exact appl_S hg ht (dlen_S hg ht _) (dsub_S hg ht _ _ _)) ?_
            cbv
            try rw [hg] at h_1
            try rw [ht] at h_1
            refine ⟨⟨(n1, (wrap .i64 (add v1 1)), l6), hs1.1, hs1.2, h_1⟩, Wk.of [(0, some 0), (1, some 370)] rfl rfl ?_ ?_, Nat.lt_succ_self _⟩
            · cbv
              all_goals exact ⟨⟨_, rfl, rfl⟩, ⟨_, rfl, rfl⟩, ⟨_, rfl, rfl⟩, trivial⟩
            · cbv
              all_goals exact ⟨⟨_, rfl, _, rfl, rfl, rfl, rfl, trivial⟩, ⟨_, rfl, rfl⟩, trivial⟩
          | false =>
            rw [br_false hb5] at h_1
            cbv
            try (rw [hb5]; cbv)
            try (rw [hb5]; cbv)
            obtain ⟨hc10, h_1⟩ := of_gd h_1
            refine AStep.mk hc10 ?_
            cbv
            try (rw [hb5]; cbv)
            obtain ⟨x3, hx3, h_1⟩ := of_gt h_1
            try dsimp only at h_1
            refine AGet.mk _ (d_get_S hg ht hx3) ?_
            cbv
            try (rw [hb5]; cbv)
            try (rw [hb5]; cbv)
            try (rw [hb5]; cbv)
            cases hb6 : (seq x3 x1_To) with
            | true =>
              rw [br_true hb6] at h_1
              cbv
              try rw [hg] at h_1
              try rw [ht] at h_1
              refine ⟨⟨(n1, (wrap .i64 (add v1 1)), w1), hs1.1, hs1.2, h_1⟩, Wk.of [(0, some 0), (1, some 1)] rfl rfl ?_ ?_, Nat.lt_succ_self _⟩
              · cbv
                all_goals exact ⟨⟨_, rfl, rfl⟩, ⟨_, rfl, rfl⟩, ⟨_, rfl, rfl⟩, trivial⟩
              · cbv
                all_goals exact ⟨⟨_, rfl, _, rfl, rfl, rfl, rfl, trivial⟩, ⟨_, rfl, rfl⟩, trivial⟩
            | false =>
              rw [br_false hb6] at h_1
              cbv
              obtain ⟨l7, hl7, h_1⟩ := of_lP h_1
              try dsimp only at h_1
              refine ANew.mk (d_S l7) (dlen (d_S l7)) (by rw [← hl7]; exact lit_S hg ht []) (by rw [← hl7]; exact litn_S hg ht []) ?_
              cbv
              obtain ⟨hc11, h_1⟩ := of_gd h_1
              refine AStep.mk hc11 ?_
              cbv
              obtain ⟨hc16, h_1⟩ := of_gd h_1
              obtain ⟨hc17, h_1⟩ := of_gd h_1
              refine AStep.mk ⟨(subp_ok_S hg ht hc16), (app_ok_S hg ht (dlen_S hg ht _) (dsub_S hg ht _ _ _) hc17)⟩ ?_
              cbv
              obtain ⟨l8, hl8, h_1⟩ := of_lP h_1
              try dsimp only at h_1
              refine ANew.mk (d_S l8) (dlen (d_S l8)) (by rw [← hl8]; exact app_S hg ht (dlen_S hg ht _) (dsub_S hg ht _ _ _)) (by rw [← hl8]; exact appl_S hg ht (dlen_S hg ht _) (dsub_S hg ht _ _ _)) ?_
              cbv
              obtain ⟨l9, hl9, h_1⟩ := of_lP h_1
              try dsimp only at h_1
              refine ANew.mk (d_S l9) (dlen (d_S l9)) (by rw [← hl9]; exact lit_S hg ht [x1_To]) (by rw [← hl9]; exact litn_S hg ht [x1_To]) ?_
              cbv
              obtain ⟨hc15, h_1⟩ := of_gd h_1
              refine AStep.mk ⟨⟨rfl, (dlen_S hg ht _)⟩, (app_ok_S hg ht (dlen_S hg ht _) rfl hc15)⟩ ?_
              cbv
              obtain ⟨l10, hl10, h_1⟩ := of_lP h_1
              try dsimp only at h_1
              refine ANew.mk (d_S l10) (dlen (d_S l10)) (by rw [← hl10]; exact app_S hg ht (dlen_S hg ht _) rfl) (by rw [← hl10]; exact appl_S hg ht (dlen_S hg ht _) rfl) ?_
              cbv
              obtain ⟨hc12, h_1⟩ := of_gd h_1
              refine AStep.mk hc12 ?_
              cbv
              obtain ⟨hc13, h_1⟩ := of_gd h_1
              obtain ⟨hc14, h_1⟩ := of_gd h_1
              refine AStep.mk ⟨(subp_ok_S hg ht hc13), (app_ok_S hg ht (dlen_S hg ht _) (dsub_S hg ht _ _ _) hc14)⟩ ?_
              cbv
              obtain ⟨l11, hl11, h_1⟩ := of_lP h_1
              try dsimp only at h_1
              refine ANew.mk (d_S l11) (dlen (d_S l11)) (by rw [← hl11]; exact app_S hg ht (dlen_S hg ht _) (dsub_S hg ht _ _ _)) (by rw [← hl11]; exact appl_S hg ht (dlen_S hg ht _) (dsub_S hg ht _ _ _)) ?_
              cbv
              try rw [hg] at h_1
              try rw [ht] at h_1
              refine ⟨⟨(n1, (wrap .i64 (add v1 1)), l11), hs1.1, hs1.2, h_1⟩, Wk.of [(0, some 0), (1, some 370)] rfl rfl ?_ ?_, Nat.lt_succ_self _⟩
              · cbv
                all_goals exact ⟨⟨_, rfl, rfl⟩, ⟨_, rfl, rfl⟩, ⟨_, rfl, rfl⟩, trivial⟩
              · cbv
                all_goals exact ⟨⟨_, rfl, _, rfl, rfl, rfl, rfl, trivial⟩, ⟨_, rfl, rfl⟩, trivial⟩
      | false =>
        rw [br_false hb2] at h_1
        cbv
        obtain ⟨hB3, h_1⟩ := of_gd h_1
        obtain ⟨o3, ho3, h_1⟩ := of_cl h_1
        try dsimp only at h_1
        try rw [hg] at ho3
        try rw [ht] at ho3
        refine ABL.mk { p : Nat × Int // p.1 = cntLt p.2 (int (dlen (d_S w1))) ∧ 0 ≤ p.2 ∧ S_PlacesOf_l3 G.real TE.real w1 (Leg.mk x1_From x1_To x1_Start x1_Takes x1_Days x1_Room) p.1 p.2 = some o3 } (fun ⟨⟨n3, v3⟩, _⟩ => ({ sl := [(1, .c (.p 0 3 0 0)), (3, .c (.f 1 1 0 (dlen (d_S w1)))), (4, .c (.r (.v (.int .i64 v1)))), (5, .c (.r (.v (.string x1_From)))), (6, .c (.r (.v (.int .i64 v3))))], tab := [(0, some (.foc 3 [] [.r (.s 6 (r_Leg a0_Legs)), .r (.s 1 (r_I64 a0_Off)), .r (.v (.int .i64 a0_Change))] [])), (1, some (.arr 1 (d_S w1)))] } : St)) 2 (fun p => p.1.1) ⟨(cntLt 0 (int (dlen (d_S w1))), 0), rfl, Int.le_refl _, ho3⟩ (Int) (fun y2 => ({ sl := [(1, .c (.p 0 3 0 0)), (3, .c (.f 1 1 0 (dlen (d_S w1)))), (4, .c (.r (.v (.int .i64 v1)))), (5, .c (.r (.v (.string x1_From)))), (6, .c (.r (.v (.int .i64 y2))))], tab := [(0, some (.foc 3 [] [.r (.s 6 (r_Leg a0_Legs)), .r (.s 1 (r_I64 a0_Off)), .r (.v (.int .i64 a0_Change))] [])), (1, some (.arr 1 (d_S w1)))] } : St)) 2 (fun y => o3 = y) ?_ ?_ ?_
        · refine Wk.of [(0, some 0), (1, some 1)] rfl rfl ?_ ?_
          · cbv
            all_goals exact ⟨⟨_, rfl, rfl⟩, ⟨_, rfl, rfl⟩, ⟨_, rfl, rfl⟩, ⟨_, rfl, rfl⟩, ⟨_, rfl, rfl⟩, trivial⟩
          · cbv
            all_goals exact ⟨⟨_, rfl, _, rfl, rfl, rfl, rfl, trivial⟩, ⟨_, rfl, rfl⟩, trivial⟩
        · rintro ⟨⟨n3, v3⟩, hn3, hi3, h_3⟩ hq3
          try dsimp only at hn3 hi3 h_3
          clear hq3
          cbv
          rcases n3 with _ | n3
          · have hb7 : lt v3 (int (dlen (d_S w1))) = false := ltC_false hg hn3
            rw [S_PlacesOf_l3] at h_3
            try rw [← hg] at h_3
            try rw [← ht] at h_3
            try dsimp only at h_3
            rw [hb7]
            cbv
            try (rw [hb7]; cbv)
            try (rw [hb7]; cbv)
            try (rw [hb7]; cbv)
            try (rw [hb7]; cbv)
            try (rw [hb7]; cbv)
            try (rw [hb7]; cbv)
            refine ⟨v3, Wk.of [(0, some 0), (1, some 1)] rfl rfl ?_ ?_, (Option.some.inj h_3).symm⟩
            · cbv
              all_goals exact ⟨⟨_, rfl, rfl⟩, ⟨_, rfl, rfl⟩, ⟨_, rfl, rfl⟩, ⟨_, rfl, rfl⟩, ⟨_, rfl, rfl⟩, trivial⟩
            · cbv
              all_goals exact ⟨⟨_, rfl, _, rfl, rfl, rfl, rfl, trivial⟩, ⟨_, rfl, rfl⟩, trivial⟩
          · have hb7 : lt v3 (int (dlen (d_S w1))) = true := ltC_true hg hn3
            have hl3 := ltC_le hn3
            have hs3 := stepltC hg hn3 hi3 hB3 (by decide)
            rw [S_PlacesOf_l3] at h_3
            try rw [← hg] at h_3
            try rw [← ht] at h_3
            try dsimp only at h_3
            rw [hb7]
            cbv
            try (rw [hb7]; cbv)
            try (rw [hb7]; cbv)
            refine AStep.mk (rg_int hg hi3 hl3) ?_
            cbv
            try (rw [hb7]; cbv)
            obtain ⟨x4, hx4, h_3⟩ := of_gt h_3
            try dsimp only at h_3
            refine AGet.mk _ (d_get_S hg ht hx4) ?_
            cbv
            try (rw [hb7]; cbv)
            try (rw [hb7]; cbv)
            try (rw [hb7]; cbv)
            cases hb8 : (slt x4 x1_From) with
            | true =>
              rw [br_true hb8] at h_3
              cbv
              try rw [hg] at h_3
              try rw [ht] at h_3
              refine ⟨⟨(n3, (wrap .i64 (add v3 1))), hs3.1, hs3.2, h_3⟩, Wk.of [(0, some 0), (1, some 1)] rfl rfl ?_ ?_, Nat.lt_succ_self _⟩
              · cbv
                all_goals exact ⟨⟨_, rfl, rfl⟩, ⟨_, rfl, rfl⟩, ⟨_, rfl, rfl⟩, ⟨_, rfl, rfl⟩, ⟨_, rfl, rfl⟩, trivial⟩
              · cbv
                all_goals exact ⟨⟨_, rfl, _, rfl, rfl, rfl, rfl, trivial⟩, ⟨_, rfl, rfl⟩, trivial⟩
            | false =>
              rw [br_false hb8] at h_3
              cbv
              refine ⟨v3, Wk.of [(0, some 0), (1, some 1)] rfl rfl ?_ ?_, (Option.some.inj h_3).symm⟩
              · cbv
                all_goals exact ⟨⟨_, rfl, rfl⟩, ⟨_, rfl, rfl⟩, ⟨_, rfl, rfl⟩, ⟨_, rfl, rfl⟩, ⟨_, rfl, rfl⟩, trivial⟩
              · cbv
                all_goals exact ⟨⟨_, rfl, _, rfl, rfl, rfl, rfl, trivial⟩, ⟨_, rfl, rfl⟩, trivial⟩
        · rintro y2 hy3
          replace hy3 := hy3.symm
          subst hy3
          try dsimp only [lr, lrL, lrp, lrpL] at h_1
          cbv
          cases hb9 : (eq y2 (int (dlen (d_S w1)))) with
          | true =>
            rw [br_true hb9] at h_1
            cbv
            try (rw [hb9]; cbv)
            try (rw [hb9]; cbv)
            try (rw [hb9]; cbv)
            try (rw [hb9]; cbv)
            try (rw [hb9]; cbv)
            try (rw [hb9]; cbv)
            obtain ⟨l12, hl12, h_1⟩ := of_lP h_1
            try dsimp only at h_1
            refine ANew.mk (d_S l12) (dlen (d_S l12)) (by rw [← hl12]; exact lit_S hg ht []) (by rw [← hl12]; exact litn_S hg ht []) ?_
            cbv
            obtain ⟨hc18, h_1⟩ := of_gd h_1
            refine AStep.mk hc18 ?_
            cbv
            obtain ⟨hc23, h_1⟩ := of_gd h_1
            obtain ⟨hc24, h_1⟩ := of_gd h_1
            refine AStep.mk ⟨(subp_ok_S hg ht hc23), (app_ok_S hg ht (dlen_S hg ht _) (dsub_S hg ht _ _ _) hc24)⟩ ?_
            cbv
            obtain ⟨l13, hl13, h_1⟩ := of_lP h_1
            try dsimp only at h_1
            refine ANew.mk (d_S l13) (dlen (d_S l13)) (by rw [← hl13]; exact app_S hg ht (dlen_S hg ht _) (dsub_S hg ht _ _ _)) (by rw [← hl13]; exact appl_S hg ht (dlen_S hg ht _) (dsub_S hg ht _ _ _)) ?_
            cbv
            obtain ⟨l14, hl14, h_1⟩ := of_lP h_1
            try dsimp only at h_1
            refine ANew.mk (d_S l14) (dlen (d_S l14)) (by rw [← hl14]; exact lit_S hg ht [x1_From]) (by rw [← hl14]; exact litn_S hg ht [x1_From]) ?_
            cbv
            obtain ⟨hc22, h_1⟩ := of_gd h_1
            refine AStep.mk ⟨⟨rfl, (dlen_S hg ht _)⟩, (app_ok_S hg ht (dlen_S hg ht _) rfl hc22)⟩ ?_
            cbv
            obtain ⟨l15, hl15, h_1⟩ := of_lP h_1
            try dsimp only at h_1
            refine ANew.mk (d_S l15) (dlen (d_S l15)) (by rw [← hl15]; exact app_S hg ht (dlen_S hg ht _) rfl) (by rw [← hl15]; exact appl_S hg ht (dlen_S hg ht _) rfl) ?_
            cbv
            obtain ⟨hc19, h_1⟩ := of_gd h_1
            refine AStep.mk hc19 ?_
            cbv
            obtain ⟨hc20, h_1⟩ := of_gd h_1
            obtain ⟨hc21, h_1⟩ := of_gd h_1
            refine AStep.mk ⟨(subp_ok_S hg ht hc20), (app_ok_S hg ht (dlen_S hg ht _) (dsub_S hg ht _ _ _) hc21)⟩ ?_
            cbv
            obtain ⟨l16, hl16, h_1⟩ := of_lP h_1
            try dsimp only at h_1
            refine ANew.mk (d_S l16) (dlen (d_S l16)) (by rw [← hl16]; exact app_S hg ht (dlen_S hg ht _) (dsub_S hg ht _ _ _)) (by rw [← hl16]; exact appl_S hg ht (dlen_S hg ht _) (dsub_S hg ht _ _ _)) ?_
            cbv
            try rw [hg] at h_1
            try rw [ht] at h_1
            refine ⟨⟨(n1, (wrap .i64 (add v1 1)), l16), hs1.1, hs1.2, h_1⟩, Wk.of [(0, some 0), (1, some 370)] rfl rfl ?_ ?_, Nat.lt_succ_self _⟩
            · cbv
              all_goals exact ⟨⟨_, rfl, rfl⟩, ⟨_, rfl, rfl⟩, ⟨_, rfl, rfl⟩, trivial⟩
            · cbv
              all_goals exact ⟨⟨_, rfl, _, rfl, rfl, rfl, rfl, trivial⟩, ⟨_, rfl, rfl⟩, trivial⟩
          | false =>
            rw [br_false hb9] at h_1
            cbv
            try (rw [hb9]; cbv)
            try (rw [hb9]; cbv)
            obtain ⟨hc25, h_1⟩ := of_gd h_1
            refine AStep.mk hc25 ?_
            cbv
            try (rw [hb9]; cbv)
            obtain ⟨x5, hx5, h_1⟩ := of_gt h_1
            try dsimp only at h_1
            refine AGet.mk _ (d_get_S hg ht hx5) ?_
            cbv
            try (rw [hb9]; cbv)
            try (rw [hb9]; cbv)
            try (rw [hb9]; cbv)
            cases hb10 : (seq x5 x1_From) with
            | true =>
              rw [br_true hb10] at h_1
              cbv
              try rw [hg] at h_1
              try rw [ht] at h_1
              refine ⟨⟨(n1, (wrap .i64 (add v1 1)), w1), hs1.1, hs1.2, h_1⟩, Wk.of [(0, some 0), (1, some 1)] rfl rfl ?_ ?_, Nat.lt_succ_self _⟩
              · cbv
                all_goals exact ⟨⟨_, rfl, rfl⟩, ⟨_, rfl, rfl⟩, ⟨_, rfl, rfl⟩, trivial⟩
              · cbv
                all_goals exact ⟨⟨_, rfl, _, rfl, rfl, rfl, rfl, trivial⟩, ⟨_, rfl, rfl⟩, trivial⟩
            | false =>
              rw [br_false hb10] at h_1
              cbv
              obtain ⟨l17, hl17, h_1⟩ := of_lP h_1
              try dsimp only at h_1
              refine ANew.mk (d_S l17) (dlen (d_S l17)) (by rw [← hl17]; exact lit_S hg ht []) (by rw [← hl17]; exact litn_S hg ht []) ?_
              cbv
              obtain ⟨hc26, h_1⟩ := of_gd h_1
              refine AStep.mk hc26 ?_
              cbv
              obtain ⟨hc31, h_1⟩ := of_gd h_1
              obtain ⟨hc32, h_1⟩ := of_gd h_1
              refine AStep.mk ⟨(subp_ok_S hg ht hc31), (app_ok_S hg ht (dlen_S hg ht _) (dsub_S hg ht _ _ _) hc32)⟩ ?_
              cbv
              obtain ⟨l18, hl18, h_1⟩ := of_lP h_1
              try dsimp only at h_1
              refine ANew.mk (d_S l18) (dlen (d_S l18)) (by rw [← hl18]; exact app_S hg ht (dlen_S hg ht _) (dsub_S hg ht _ _ _)) (by rw [← hl18]; exact appl_S hg ht (dlen_S hg ht _) (dsub_S hg ht _ _ _)) ?_
              cbv
              obtain ⟨l19, hl19, h_1⟩ := of_lP h_1
              try dsimp only at h_1
              refine ANew.mk (d_S l19) (dlen (d_S l19)) (by rw [← hl19]; exact lit_S hg ht [x1_From]) (by rw [← hl19]; exact litn_S hg ht [x1_From]) ?_
              cbv
              obtain ⟨hc30, h_1⟩ := of_gd h_1
              refine AStep.mk ⟨⟨rfl, (dlen_S hg ht _)⟩, (app_ok_S hg ht (dlen_S hg ht _) rfl hc30)⟩ ?_
              cbv
              obtain ⟨l20, hl20, h_1⟩ := of_lP h_1
              try dsimp only at h_1
              refine ANew.mk (d_S l20) (dlen (d_S l20)) (by rw [← hl20]; exact app_S hg ht (dlen_S hg ht _) rfl) (by rw [← hl20]; exact appl_S hg ht (dlen_S hg ht _) rfl) ?_
              cbv
              obtain ⟨hc27, h_1⟩ := of_gd h_1
              refine AStep.mk hc27 ?_
              cbv
              obtain ⟨hc28, h_1⟩ := of_gd h_1
              obtain ⟨hc29, h_1⟩ := of_gd h_1
              refine AStep.mk ⟨(subp_ok_S hg ht hc28), (app_ok_S hg ht (dlen_S hg ht _) (dsub_S hg ht _ _ _) hc29)⟩ ?_
              cbv
              obtain ⟨l21, hl21, h_1⟩ := of_lP h_1
              try dsimp only at h_1
              refine ANew.mk (d_S l21) (dlen (d_S l21)) (by rw [← hl21]; exact app_S hg ht (dlen_S hg ht _) (dsub_S hg ht _ _ _)) (by rw [← hl21]; exact appl_S hg ht (dlen_S hg ht _) (dsub_S hg ht _ _ _)) ?_
              cbv
              try rw [hg] at h_1
              try rw [ht] at h_1
              refine ⟨⟨(n1, (wrap .i64 (add v1 1)), l21), hs1.1, hs1.2, h_1⟩, Wk.of [(0, some 0), (1, some 370)] rfl rfl ?_ ?_, Nat.lt_succ_self _⟩
              · cbv
                all_goals exact ⟨⟨_, rfl, rfl⟩, ⟨_, rfl, rfl⟩, ⟨_, rfl, rfl⟩, trivial⟩
              · cbv
                all_goals exact ⟨⟨_, rfl, _, rfl, rfl, rfl, rfl, trivial⟩, ⟨_, rfl, rfl⟩, trivial⟩
  · rintro y3 hy1
    replace hy1 := hy1.symm
    subst hy1
    try dsimp only [lr, lrL, lrp, lrpL] at h
    cbv
    obtain rfl := Option.some.inj h
    exact ARet.mk ⟨rfl, (dlen_S hg ht _)⟩ hX.symm
end Go.Vs
namespace Go.Vs
set_option maxRecDepth 100000
def ir55 : J :=
  .seq (.reg none [⟨(some 4), none, .mv (.k (V.b false))⟩] [0, 1])
  (.seq (.seq (.reg none [⟨(some 5), none, .mv (.k (V.i 0))⟩] [0, 1, 5])
   (.bl 0 (.seq (.seq (.reg none [⟨(some 6), none, .mv (.t 5)⟩,
        ⟨(some 7), none, .mv (.t 0)⟩,
        ⟨(some 8), none, .len false (.t 7)⟩,
        ⟨(some 9), none, .bin .lss .i (.t 6) (.t 8)⟩] [0, 1, 5, 9])
     (.cond (.t 9)
      (.skip)
      (.exit 0)))
    (.seq (.block 1 (.seq (.reg none [⟨(some 12), none, .mv (.t 0)⟩,
         ⟨(some 13), none, .mv (.t 5)⟩,
         ⟨(some 14), none, .ia 1 (.t 12) (.t 13)⟩,
         ⟨(some 15), none, .ld false 1 (.t 14)⟩,
         ⟨(some 16), none, .mv (.t 1)⟩,
         ⟨(some 17), none, .bin .eql .i (.t 15) (.t 16)⟩] [0, 1, 5, 17])
      (.cond (.t 17)
       (.seq (.reg none [⟨(some 4), none, .mv (.k (V.b true))⟩] [4])
        (.ret))
       (.skip))))
    (.reg none [⟨(some 10), none, .mv (.t 5)⟩,
      ⟨(some 11), none, .bin .add .i (.t 10) (.k (V.i 1))⟩,
      ⟨(some 5), none, .mv (.t 11)⟩] [0, 1, 5])))))
  (.seq (.reg none [⟨(some 4), none, .mv (.k (V.b false))⟩] [4])
  (.ret)))
def rv55 : List RV := [.t 4]
open Go.Proofs Go.IntWalk
set_option linter.unusedVariables false
set_option maxRecDepth 100000
set_option maxHeartbeats 4000000
def S_l1Has_l1 (g : G) (t : TE) (a1 : Int) : List Int → LR Bool Unit
  | [] =>
    (LR.out ())
  | z1 :: ls1 =>
    br (g.eq z1 a1)
    (
     (LR.ret true))
    (
     S_l1Has_l1 g t a1 ls1)
def S_l1Has (g : G) (t : TE) (a0 : List Int) (a1 : Int) : Bool :=
  lP (S_l1Has_l1 g t a1 a0) fun o1 => lrp o1 fun y1 =>
  false
theorem fit55 : codeFit Try.prog Try.f55.ntmps (Try.f55.body.getD .skip) ir55 = true := by kernel_rfl
theorem c_S_l1Has {g : G} {t : TE} {a0 : List Int} {a1 : Int} {r : Bool} (hg : g = G.real) (ht : t = TE.real) (h : S_l1Has g t a0 a1 = r) : Fn Try.prog 55 [.c (.s 1 (t.r_I64 a0)), .c (.v (.int .i64 a1))] (.c (.r (.v (.bool r)))) := by
  obtain ⟨X, hX⟩ := hide (.c (.r (.v (.bool r))) : X)
  rw [← hX]
  refine fn_of (rvs := rv55) (j := ir55) Try.func55 rfl fit55 (Nat.le_of_ble_eq_true rfl) (by kernel_rfl) prog_mixed ?_
  intro g2 F hg2 hF
  obtain rfl : g2 = g := hg2.unique.trans hg.symm
  clear hg2
  obtain ⟨wrap, lt, le, eq, quo, rem, band, bor, bxor, shl, shr, nat, int, add, sub, mul, cat, seq, slt, sub3, byte, llen, nadd, nsub, dlen, dapp, dset, drep, rd, rda, up, rsub, dsub, all, sle, slen, hasI, putI, hasS, putS, imin, imax, fzc, bstr⟩ := g2
  obtain ⟨r_Leg, d_Leg, r_I64, d_I64, r_S, d_S⟩ := t
  unfold S_l1Has at h
  try dsimp only at h
  cbv
  obtain ⟨o1, ho1, h⟩ := of_lP h
  try dsimp only at h
  try rw [hg] at ho1
  try rw [ht] at ho1
  refine ABL.mk { p : Nat × Int // p.1 ≤ a0.length ∧ p.2 = ((p.1 : Nat) : Int) ∧ S_l1Has_l1 G.real TE.real a1 (List.drop p.1 a0) = o1 } (fun ⟨⟨k1, v1⟩, _⟩ => ({ sl := [(0, .c (.r (.s 1 (r_I64 a0)))), (1, .c (.r (.v (.int .i64 a1)))), (5, .c (.r (.v (.int .i64 v1))))], tab := [] } : St)) 0 (fun p => a0.length - p.1.1) ⟨(0, 0), Nat.zero_le _, rfl, ho1⟩ (Unit) (fun _ => ({ sl := [], tab := [] } : St)) 0 (fun y => o1 = LR.out y) ?_ ?_ ?_
  · refine Wk.of [] rfl rfl ?_ ?_
    · cbv
      all_goals exact ⟨⟨_, rfl, rfl⟩, ⟨_, rfl, rfl⟩, ⟨_, rfl, rfl⟩, trivial⟩
    · cbv
      all_goals exact trivial
  · rintro ⟨⟨k1, v1⟩, hk1, hi1, h_1⟩ hq1
    have hm1 := (hq1.1 0 _ _ rfl)
    try dsimp only at hk1 hi1 h_1
    clear hq1
    cbv
    by_cases hc1_ : k1 < a0.length
    · have hb1 : lt v1 (llen (r_I64 a0)) = true := ltL_true_I64 hg ht hi1 hc1_
      have hs1 := stepL_I64 hg ht hi1 hc1_ hm1
      obtain ⟨z1, hz1⟩ := some_of_lt hc1_
      rw [drop_of_some hz1] at h_1
      rw [S_l1Has_l1] at h_1
      try rw [← hg] at h_1
      try rw [← ht] at h_1
      try dsimp only at h_1
      rw [hb1]
      cbv
      refine AStep.mk (nn_L hi1) ?_
      cbv
      refine AGet.mk _ (r_getL_I64 hg ht hi1 hz1) ?_
      cbv
      cases hb2 : (eq z1 a1) with
      | true =>
        rw [br_true hb2] at h_1
        cbv
        subst h_1
        try dsimp only [lr, lrL, lrp, lrpL] at h
        subst h
        exact ARet.mk trivial hX.symm
      | false =>
        rw [br_false hb2] at h_1
        cbv
        try rw [hg] at h_1
        try rw [ht] at h_1
        refine ⟨⟨(k1 + 1, (wrap .i64 (add v1 1))), hc1_, hs1, h_1⟩, Wk.of [] rfl rfl ?_ ?_, meas_L hc1_⟩
        · cbv
          all_goals exact ⟨⟨_, rfl, rfl⟩, ⟨_, rfl, rfl⟩, ⟨_, rfl, rfl⟩, trivial⟩
        · cbv
          all_goals exact trivial
    · have hb1 : lt v1 (llen (r_I64 a0)) = false := ltL_false_I64 hg ht hi1 hc1_
      rw [List.drop_of_length_le (Nat.le_of_not_lt hc1_)] at h_1
      rw [S_l1Has_l1] at h_1
      try rw [← hg] at h_1
      try rw [← ht] at h_1
      try dsimp only at h_1
      rw [hb1]
      cbv
      refine ⟨(), Wk.of [] rfl rfl ?_ ?_, h_1.symm⟩
      · cbv
        all_goals exact trivial
      · cbv
        all_goals exact trivial
  · rintro _ hy1
    replace hy1 := hy1.symm
    subst hy1
    try dsimp only [lr, lrL, lrp, lrpL] at h
    cbv
    subst h
    exact ARet.mk trivial hX.symm
end Go.Vs
namespace Go.Vs
set_option maxRecDepth 100000
def ir51 : J :=
  .seq (.reg none [⟨(some 3), none, .box (.t 0)⟩,
     ⟨(some 6), none, .mv (.k (V.b false))⟩] [1, 2, 3])
  (.seq (.reg none [⟨(some 7), none, .mv (.t 1)⟩,
     ⟨(some 8), none, .fa 0 (.t 3)⟩,
     ⟨(some 9), none, .ld false 1 (.t 8)⟩,
     ⟨(some 10), none, .len false (.t 9)⟩,
     ⟨(some 11), none, .bin .sub .i (.t 10) (.k (V.i 1))⟩,
     ⟨(some 12), none, .call 24 true [(.t 7), (.k (V.i 0)), (.t 11)]⟩,
     ⟨(some 13), none, .mv (.t 12)⟩,
     ⟨(some 14), (some (13, true)), .mv (.t 2)⟩,
     ⟨(some 15), (some (13, true)), .call 24 true [(.t 14), (.k (V.i 0)), (.k (V.i 60))]⟩,
     ⟨(some 16), none, .pick (.t 13) (.t 15) (.k (V.b false))⟩,
     ⟨(some 17), none, .mv (.t 16)⟩,
     ⟨(some 18), (some (17, true)), .fa 0 (.t 3)⟩,
     ⟨(some 19), (some (17, true)), .ld false 1 (.t 18)⟩,
     ⟨(some 20), (some (17, true)), .mv (.t 1)⟩,
     ⟨(some 21), (some (17, true)), .ia 6 (.t 19) (.t 20)⟩,
     ⟨(some 22), (some (17, true)), .fa 4 (.t 21)⟩,
     ⟨(some 23), (some (17, true)), .ld false 1 (.t 22)⟩,
     ⟨(some 24), (some (17, true)), .mv (.t 2)⟩,
     ⟨(some 25), (some (17, true)), .bin .rem .i (.t 24) (.k (V.i 7))⟩,
     ⟨(some 26), (some (17, true)), .bin .shr .i (.t 23) (.t 25)⟩,
     ⟨(some 27), (some (17, true)), .bin .and .i (.t 26) (.k (V.i 1))⟩,
     ⟨(some 28), (some (17, true)), .bin .eql .i (.t 27) (.k (V.i 1))⟩,
     ⟨(some 29), none, .pick (.t 17) (.t 28) (.k (V.b false))⟩,
     ⟨(some 30), none, .mv (.t 29)⟩,
     ⟨(some 31), (some (30, true)), .fa 1 (.t 3)⟩,
     ⟨(some 32), (some (30, true)), .ld false 1 (.t 31)⟩,
     ⟨(some 33), (some (30, true)), .mv (.t 2)⟩,
     ⟨(some 34), (some (30, true)), .call 55 true [(.t 32), (.t 33)]⟩,
     ⟨(some 35), (some (30, true)), .not (.t 34)⟩,
     ⟨(some 36), none, .pick (.t 30) (.t 35) (.k (V.b false))⟩,
     ⟨(some 6), none, .mv (.t 36)⟩] [6])
  (.ret))
def rv51 : List RV := [.t 6]
open Go.Proofs Go.IntWalk
set_option linter.unusedVariables false
set_option maxRecDepth 100000
set_option maxHeartbeats 4000000
def S_l3Runs (g : G) (t : TE) (a0 : Network) (a1 : Int) (a2 : Int) : Option Bool :=
  lP (S_l1In g t a1 0 (g.wrap .i64 (g.sub (g.llen (t.r_Leg a0.Legs)) 1))) fun x1 =>
  br x1
  (
   lP (S_l1In g t a2 0 60) fun x2 =>
   br x2
   (
    gd (((0 : Int) ≤ a1)) <|
    gt a0.Legs (g.nat a1) fun x3 =>
    gd (((0 : Int) ≤ (g.rem a2 7))) <|
    br (g.eq (g.band .i64 (g.shr .i64 x3.Days (g.rem a2 7)) 1) 1)
    (
     lP (S_l1Has g t a0.Off a2) fun x4 =>
     some (!x4))
    (
     some false))
   (
    some false))
  (
   some false)
theorem fit51 : codeFit Try.prog Try.f51.ntmps (Try.f51.body.getD .skip) ir51 = true := by kernel_rfl
theorem c_S_l3Runs {g : G} {t : TE} {a0 : Network} {a1 : Int} {a2 : Int} {r : Bool} (hg : g = G.real) (ht : t = TE.real) (h : S_l3Runs g t a0 a1 a2 = some r) : Fn Try.prog 51 [.g (Network.rs t a0), .c (.v (.int .i64 a1)), .c (.v (.int .i64 a2))] (.c (.r (.v (.bool r)))) := by
  obtain ⟨X, hX⟩ := hide (.c (.r (.v (.bool r))) : X)
  rw [← hX]
  refine fn_of (rvs := rv51) (j := ir51) Try.func51 rfl fit51 (Nat.le_of_ble_eq_true rfl) (by kernel_rfl) prog_mixed ?_
  intro g2 F hg2 hF
  obtain rfl : g2 = g := hg2.unique.trans hg.symm
  clear hg2
  obtain ⟨wrap, lt, le, eq, quo, rem, band, bor, bxor, shl, shr, nat, int, add, sub, mul, cat, seq, slt, sub3, byte, llen, nadd, nsub, dlen, dapp, dset, drep, rd, rda, up, rsub, dsub, all, sle, slen, hasI, putI, hasS, putS, imin, imax, fzc, bstr⟩ := g2
  obtain ⟨r_Leg, d_Leg, r_I64, d_I64, r_S, d_S⟩ := t
  obtain ⟨a0_Legs, a0_Off, a0_Change⟩ := a0
  unfold S_l3Runs at h
  try dsimp only at h
  cbv
  obtain ⟨x1, hx1, h⟩ := of_lP h
  try dsimp only at h
  refine ACall.mk _ _ rfl (hF _ _ _ (c_S_l1In hg ht hx1)) (.inl rfl) (Nat.le_of_ble_eq_true rfl) ?_
  cbv
  cases hb1 : x1 with
  | true =>
    rw [br_true hb1] at h
    cbv
    try (rw [hb1]; cbv)
    obtain ⟨x2, hx2, h⟩ := of_lP h
    try dsimp only at h
    refine ACall.mk _ _ rfl (hF _ _ _ (c_S_l1In hg ht hx2)) (.inl rfl) (Nat.le_of_ble_eq_true rfl) ?_
    cbv
    try (rw [hb1]; cbv)
    cases hb2 : x2 with
    | true =>
      rw [br_true hb2] at h
      cbv
      try (rw [hb2]; cbv)
      try (rw [hb2]; cbv)
      try (rw [hb2]; cbv)
      obtain ⟨hc1, h⟩ := of_gd h
      refine AStep.mk hc1 ?_
      cbv
      obtain ⟨x3, hx3, h⟩ := of_gt h
      obtain ⟨x3_From, x3_To, x3_Start, x3_Takes, x3_Days, x3_Room⟩ := x3
      try dsimp only at h
      refine AGet.mk _ (r_get_Leg hg ht hx3) ?_
      cbv
      try (rw [hb2]; cbv)
      try (rw [hb2]; cbv)
      try (rw [hb2]; cbv)
      try (rw [hb2]; cbv)
      refine AStep.mk (by decide) ?_
      cbv
      try (rw [hb2]; cbv)
      obtain ⟨hc2, h⟩ := of_gd h
      refine AStep.mk hc2 ?_
      cbv
      try (rw [hb2]; cbv)
      try (rw [hb2]; cbv)
      try (rw [hb2]; cbv)
      cases hb3 : (eq (band .i64 (shr .i64 x3_Days (rem a2 7)) 1) 1) with
      | true =>
        rw [br_true hb3] at h
        cbv
        try (rw [hb3]; cbv)
        try (rw [hb3]; cbv)
        try (rw [hb3]; cbv)
        obtain ⟨x4, hx4, h⟩ := of_lP h
        try dsimp only at h
        refine ACall.mk _ _ rfl (hF _ _ _ (c_S_l1Has hg ht hx4)) (.inl rfl) (Nat.le_of_ble_eq_true rfl) ?_
        cbv
        try (rw [hb3]; cbv)
        try (rw [hb3]; cbv)
        obtain rfl := Option.some.inj h
        exact ARet.mk trivial hX.symm
      | false =>
        rw [br_false hb3] at h
        cbv
        try (rw [hb3]; cbv)
        try (rw [hb3]; cbv)
        try (rw [hb3]; cbv)
        try (rw [hb3]; cbv)
        try (rw [hb3]; cbv)
        obtain rfl := Option.some.inj h
        exact ARet.mk trivial hX.symm
    | false =>
      rw [br_false hb2] at h
      cbv
      try (rw [hb2]; cbv)
      try (rw [hb2]; cbv)
      try (rw [hb2]; cbv)
      try (rw [hb2]; cbv)
      try (rw [hb2]; cbv)
      try (rw [hb2]; cbv)
      try (rw [hb2]; cbv)
      try (rw [hb2]; cbv)
      try (rw [hb2]; cbv)
      try (rw [hb2]; cbv)
      try (rw [hb2]; cbv)
      obtain rfl := Option.some.inj h
      exact ARet.mk trivial hX.symm
  | false =>
    rw [br_false hb1] at h
    cbv
    try (rw [hb1]; cbv)
    try (rw [hb1]; cbv)
    obtain rfl := Option.some.inj h
    exact ARet.mk trivial hX.symm
end Go.Vs
namespace Go.Vs
set_option maxRecDepth 100000
def ir44 : J :=
  .seq (.reg none [⟨(some 3), none, .box (.t 0)⟩,
     ⟨(some 6), none, .mv (.k (V.b false))⟩] [1, 2, 3])
  (.seq (.reg none [⟨(some 7), none, .ld true 3 (.t 3)⟩,
     ⟨(some 8), none, .call 23 true [(.t 7)]⟩,
     ⟨(some 9), none, .mv (.t 8)⟩,
     ⟨(some 10), (some (9, true)), .ld true 3 (.t 3)⟩,
     ⟨(some 11), (some (9, true)), .mv (.t 1)⟩,
     ⟨(some 12), (some (9, true)), .mv (.t 2)⟩,
     ⟨(some 13), (some (9, true)), .call 51 true [(.t 10), (.t 11), (.t 12)]⟩,
     ⟨(some 14), none, .pick (.t 9) (.t 13) (.k (V.b false))⟩,
     ⟨(some 6), none, .mv (.t 14)⟩] [6])
  (.ret))
def rv44 : List RV := [.t 6]
open Go.Proofs Go.IntWalk
set_option linter.unusedVariables false
set_option maxRecDepth 100000
set_option maxHeartbeats 4000000
def S_RunsOn (g : G) (t : TE) (a0 : Network) (a1 : Int) (a2 : Int) : Option Bool :=
  cl (S_IsNetwork g t a0) fun x1 =>
  br x1
  (
   cl (S_l3Runs g t a0 a1 a2) fun x2 =>
   some x2)
  (
   some false)
theorem fit44 : codeFit Try.prog Try.f44.ntmps (Try.f44.body.getD .skip) ir44 = true := by kernel_rfl
theorem c_S_RunsOn {g : G} {t : TE} {a0 : Network} {a1 : Int} {a2 : Int} {r : Bool} (hg : g = G.real) (ht : t = TE.real) (h : S_RunsOn g t a0 a1 a2 = some r) : Fn Try.prog 44 [.g (Network.rs t a0), .c (.v (.int .i64 a1)), .c (.v (.int .i64 a2))] (.c (.r (.v (.bool r)))) := by
  obtain ⟨X, hX⟩ := hide (.c (.r (.v (.bool r))) : X)
  rw [← hX]
  refine fn_of (rvs := rv44) (j := ir44) Try.func44 rfl fit44 (Nat.le_of_ble_eq_true rfl) (by kernel_rfl) prog_mixed ?_
  intro g2 F hg2 hF
  obtain rfl : g2 = g := hg2.unique.trans hg.symm
  clear hg2
  obtain ⟨wrap, lt, le, eq, quo, rem, band, bor, bxor, shl, shr, nat, int, add, sub, mul, cat, seq, slt, sub3, byte, llen, nadd, nsub, dlen, dapp, dset, drep, rd, rda, up, rsub, dsub, all, sle, slen, hasI, putI, hasS, putS, imin, imax, fzc, bstr⟩ := g2
  obtain ⟨r_Leg, d_Leg, r_I64, d_I64, r_S, d_S⟩ := t
  obtain ⟨a0_Legs, a0_Off, a0_Change⟩ := a0
  unfold S_RunsOn at h
  try dsimp only at h
  cbv
  obtain ⟨x1, hx1, h⟩ := of_cl h
  try dsimp only at h
  refine ACall.mk _ _ rfl (hF _ _ _ (c_S_IsNetwork hg ht hx1)) (.inl rfl) (Nat.le_of_ble_eq_true rfl) ?_
  cbv
  cases hb1 : x1 with
  | true =>
    rw [br_true hb1] at h
    cbv
    try (rw [hb1]; cbv)
    try (rw [hb1]; cbv)
    try (rw [hb1]; cbv)
    obtain ⟨x2, hx2, h⟩ := of_cl h
    try dsimp only at h
    refine ACall.mk _ _ rfl (hF _ _ _ (c_S_l3Runs hg ht hx2)) (.inl rfl) (Nat.le_of_ble_eq_true rfl) ?_
    cbv
    try (rw [hb1]; cbv)
    obtain rfl := Option.some.inj h
    exact ARet.mk trivial hX.symm
  | false =>
    rw [br_false hb1] at h
    cbv
    try (rw [hb1]; cbv)
    try (rw [hb1]; cbv)
    try (rw [hb1]; cbv)
    try (rw [hb1]; cbv)
    obtain rfl := Option.some.inj h
    exact ARet.mk trivial hX.symm
end Go.Vs
namespace Go.Vs
set_option maxRecDepth 100000
def ir27 : J :=
  .seq (.reg none [⟨(some 2), none, .box (.t 0)⟩,
     ⟨(some 3), none, .box (.t 1)⟩,
     ⟨(some 4), none, .mv (.k (V.b false))⟩] [2, 3])
  (.seq (.reg none [⟨(some 5), none, .ld true 3 (.t 2)⟩,
     ⟨(some 6), none, .fa 0 (.t 3)⟩,
     ⟨(some 7), none, .ld false 1 (.t 6)⟩,
     ⟨(some 8), none, .fa 1 (.t 3)⟩,
     ⟨(some 9), none, .ld false 1 (.t 8)⟩,
     ⟨(some 10), none, .call 44 true [(.t 5), (.t 7), (.t 9)]⟩,
     ⟨(some 4), none, .mv (.t 10)⟩] [4])
  (.ret))
def rv27 : List RV := [.t 4]
open Go.Proofs Go.IntWalk
set_option linter.unusedVariables false
set_option maxRecDepth 100000
set_option maxHeartbeats 4000000
def S_IsTrip (g : G) (t : TE) (a0 : Network) (a1 : Trip) : Option Bool :=
  cl (S_RunsOn g t a0 a1.Leg a1.Day) fun x1 =>
  some x1
theorem fit27 : codeFit Try.prog Try.f27.ntmps (Try.f27.body.getD .skip) ir27 = true := by kernel_rfl
theorem c_S_IsTrip {g : G} {t : TE} {a0 : Network} {a1 : Trip} {r : Bool} (hg : g = G.real) (ht : t = TE.real) (h : S_IsTrip g t a0 a1 = some r) : Fn Try.prog 27 [.g (Network.rs t a0), .g (Trip.rs t a1)] (.c (.r (.v (.bool r)))) := by
  obtain ⟨X, hX⟩ := hide (.c (.r (.v (.bool r))) : X)
  rw [← hX]
  refine fn_of (rvs := rv27) (j := ir27) Try.func27 rfl fit27 (Nat.le_of_ble_eq_true rfl) (by kernel_rfl) prog_mixed ?_
  intro g2 F hg2 hF
  obtain rfl : g2 = g := hg2.unique.trans hg.symm
  clear hg2
  obtain ⟨wrap, lt, le, eq, quo, rem, band, bor, bxor, shl, shr, nat, int, add, sub, mul, cat, seq, slt, sub3, byte, llen, nadd, nsub, dlen, dapp, dset, drep, rd, rda, up, rsub, dsub, all, sle, slen, hasI, putI, hasS, putS, imin, imax, fzc, bstr⟩ := g2
  obtain ⟨r_Leg, d_Leg, r_I64, d_I64, r_S, d_S⟩ := t
  obtain ⟨a0_Legs, a0_Off, a0_Change⟩ := a0
  obtain ⟨a1_Leg, a1_Day⟩ := a1
  unfold S_IsTrip at h
  try dsimp only at h
  cbv
  obtain ⟨x1, hx1, h⟩ := of_cl h
  try dsimp only at h
  refine ACall.mk _ _ rfl (hF _ _ _ (c_S_RunsOn hg ht hx1)) (.inl rfl) (Nat.le_of_ble_eq_true rfl) ?_
  cbv
  obtain rfl := Option.some.inj h
  exact ARet.mk trivial hX.symm
end Go.Vs
namespace Go.Vs
set_option maxRecDepth 100000
def ir28 : J :=
  .seq (.reg none [⟨(some 2), none, .box (.t 0)⟩,
     ⟨(some 3), none, .box (.t 1)⟩,
     ⟨(some 4), none, .mv (.k (V.i 0))⟩] [2, 3])
  (.seq (.reg (some [[], [0], [0, 1], [], [3], [], [5], [3, 4, 5, 6], [3, 4, 5, 6, 7], [3, 4, 5, 6, 7, 8], [0, 1, 2, 3, 4, 5, 6, 7, 8, 9], [0, 1, 2, 3, 4, 5, 6, 7, 8, 9, 10]]) [⟨(some 5), none, .fa 1 (.t 3)⟩,
     ⟨(some 6), none, .ld false 1 (.t 5)⟩,
     ⟨(some 7), none, .bin .mul .i (.t 6) (.k (V.i 1440))⟩,
     ⟨(some 8), none, .fa 0 (.t 2)⟩,
     ⟨(some 9), none, .ld false 1 (.t 8)⟩,
     ⟨(some 10), none, .fa 0 (.t 3)⟩,
     ⟨(some 11), none, .ld false 1 (.t 10)⟩,
     ⟨(some 12), none, .ia 6 (.t 9) (.t 11)⟩,
     ⟨(some 13), none, .fa 2 (.t 12)⟩,
     ⟨(some 14), none, .ld false 1 (.t 13)⟩,
     ⟨(some 15), none, .bin .add .i (.t 7) (.t 14)⟩,
     ⟨(some 4), none, .mv (.t 15)⟩] [4])
  (.ret))
def rv28 : List RV := [.t 4]
open Go.Proofs Go.IntWalk
set_option linter.unusedVariables false
set_option maxRecDepth 100000
set_option maxHeartbeats 4000000
def S_l3Starts (g : G) (t : TE) (a0 : Network) (a1 : Trip) : Option Int :=
  gd (((0 : Int) ≤ a1.Leg)) <|
  gt a0.Legs (g.nat a1.Leg) fun x1 =>
  some (g.wrap .i64 (g.add (g.wrap .i64 (g.mul a1.Day 1440)) x1.Start))
theorem fit28 : codeFit Try.prog Try.f28.ntmps (Try.f28.body.getD .skip) ir28 = true := by kernel_rfl
theorem c_S_l3Starts {g : G} {t : TE} {a0 : Network} {a1 : Trip} {r : Int} (hg : g = G.real) (ht : t = TE.real) (h : S_l3Starts g t a0 a1 = some r) : Fn Try.prog 28 [.g (Network.rs t a0), .g (Trip.rs t a1)] (.c (.r (.v (.int .i64 r)))) := by
  obtain ⟨X, hX⟩ := hide (.c (.r (.v (.int .i64 r))) : X)
  rw [← hX]
  refine fn_of (rvs := rv28) (j := ir28) Try.func28 rfl fit28 (Nat.le_of_ble_eq_true rfl) (by kernel_rfl) prog_mixed ?_
  intro g2 F hg2 hF
  obtain rfl : g2 = g := hg2.unique.trans hg.symm
  clear hg2
  obtain ⟨wrap, lt, le, eq, quo, rem, band, bor, bxor, shl, shr, nat, int, add, sub, mul, cat, seq, slt, sub3, byte, llen, nadd, nsub, dlen, dapp, dset, drep, rd, rda, up, rsub, dsub, all, sle, slen, hasI, putI, hasS, putS, imin, imax, fzc, bstr⟩ := g2
  obtain ⟨r_Leg, d_Leg, r_I64, d_I64, r_S, d_S⟩ := t
  obtain ⟨a0_Legs, a0_Off, a0_Change⟩ := a0
  obtain ⟨a1_Leg, a1_Day⟩ := a1
  unfold S_l3Starts at h
  try dsimp only at h
  cbv
  obtain ⟨hc1, h⟩ := of_gd h
  refine AStep.mk hc1 ?_
  cbv
  obtain ⟨x1, hx1, h⟩ := of_gt h
  obtain ⟨x1_From, x1_To, x1_Start, x1_Takes, x1_Days, x1_Room⟩ := x1
  try dsimp only at h
  refine AGet.mk _ (r_get_Leg hg ht hx1) ?_
  cbv
  obtain rfl := Option.some.inj h
  exact ARet.mk trivial hX.symm
end Go.Vs
namespace Go.Vs
set_option maxRecDepth 100000
def ir29 : J :=
  .seq (.reg none [⟨(some 2), none, .box (.t 0)⟩,
     ⟨(some 3), none, .box (.t 1)⟩,
     ⟨(some 4), none, .mv (.k (V.i 0))⟩] [2, 3])
  (.seq (.reg (some [[], [], [0, 1], [], [3], [], [5], [3, 4, 5, 6], [3, 4, 5, 6, 7], [3, 4, 5, 6, 7, 8], [0, 1, 2, 3, 4, 5, 6, 7, 8, 9], [0, 1, 2, 3, 4, 5, 6, 7, 8, 9, 10]]) [⟨(some 5), none, .ld true 3 (.t 2)⟩,
     ⟨(some 6), none, .ld true 2 (.t 3)⟩,
     ⟨(some 7), none, .call 28 true [(.t 5), (.t 6)]⟩,
     ⟨(some 8), none, .fa 0 (.t 2)⟩,
     ⟨(some 9), none, .ld false 1 (.t 8)⟩,
     ⟨(some 10), none, .fa 0 (.t 3)⟩,
     ⟨(some 11), none, .ld false 1 (.t 10)⟩,
     ⟨(some 12), none, .ia 6 (.t 9) (.t 11)⟩,
     ⟨(some 13), none, .fa 3 (.t 12)⟩,
     ⟨(some 14), none, .ld false 1 (.t 13)⟩,
     ⟨(some 15), none, .bin .add .i (.t 7) (.t 14)⟩,
     ⟨(some 4), none, .mv (.t 15)⟩] [4])
  (.ret))
def rv29 : List RV := [.t 4]
open Go.Proofs Go.IntWalk
set_option linter.unusedVariables false
set_option maxRecDepth 100000
set_option maxHeartbeats 4000000
def S_l3Ends (g : G) (t : TE) (a0 : Network) (a1 : Trip) : Option Int :=
  cl (S_l3Starts g t a0 a1) fun x1 =>
  gd (((0 : Int) ≤ a1.Leg)) <|
  gt a0.Legs (g.nat a1.Leg) fun x2 =>
  some (g.wrap .i64 (g.add x1 x2.Takes))
theorem fit29 : codeFit Try.prog Try.f29.ntmps (Try.f29.body.getD .skip) ir29 = true := by kernel_rfl
theorem c_S_l3Ends {g : G} {t : TE} {a0 : Network} {a1 : Trip} {r : Int} (hg : g = G.real) (ht : t = TE.real) (h : S_l3Ends g t a0 a1 = some r) : Fn Try.prog 29 [.g (Network.rs t a0), .g (Trip.rs t a1)] (.c (.r (.v (.int .i64 r)))) := by
  obtain ⟨X, hX⟩ := hide (.c (.r (.v (.int .i64 r))) : X)
  rw [← hX]
  refine fn_of (rvs := rv29) (j := ir29) Try.func29 rfl fit29 (Nat.le_of_ble_eq_true rfl) (by kernel_rfl) prog_mixed ?_
  intro g2 F hg2 hF
  obtain rfl : g2 = g := hg2.unique.trans hg.symm
  clear hg2
  obtain ⟨wrap, lt, le, eq, quo, rem, band, bor, bxor, shl, shr, nat, int, add, sub, mul, cat, seq, slt, sub3, byte, llen, nadd, nsub, dlen, dapp, dset, drep, rd, rda, up, rsub, dsub, all, sle, slen, hasI, putI, hasS, putS, imin, imax, fzc, bstr⟩ := g2
  obtain ⟨r_Leg, d_Leg, r_I64, d_I64, r_S, d_S⟩ := t
  obtain ⟨a0_Legs, a0_Off, a0_Change⟩ := a0
  obtain ⟨a1_Leg, a1_Day⟩ := a1
  unfold S_l3Ends at h
  try dsimp only at h
  cbv
  obtain ⟨x1, hx1, h⟩ := of_cl h
  try dsimp only at h
  refine ACall.mk _ _ rfl (hF _ _ _ (c_S_l3Starts hg ht hx1)) (.inl rfl) (Nat.le_of_ble_eq_true rfl) ?_
  cbv
  obtain ⟨hc1, h⟩ := of_gd h
  refine AStep.mk hc1 ?_
  cbv
  obtain ⟨x2, hx2, h⟩ := of_gt h
  obtain ⟨x2_From, x2_To, x2_Start, x2_Takes, x2_Days, x2_Room⟩ := x2
  try dsimp only at h
  refine AGet.mk _ (r_get_Leg hg ht hx2) ?_
  cbv
  obtain rfl := Option.some.inj h
  exact ARet.mk trivial hX.symm
end Go.Vs
namespace Go.Vs
set_option maxRecDepth 100000
def ir9 (s_k0 : ByteArray) : J :=
  .seq (.reg none [⟨(some 2), none, .box (.t 0)⟩,
     ⟨(some 3), none, .box (.t 1)⟩,
     ⟨(some 4), none, .mv (.k (V.b false))⟩] [2, 3])
  (.seq (.seq (.reg none [⟨(some 5), none, .ld true 3 (.t 2)⟩,
      ⟨(some 6), none, .call 23 true [(.t 5)]⟩,
      ⟨(some 7), none, .not (.t 6)⟩,
      ⟨(some 8), none, .mv (.t 7)⟩,
      ⟨(some 9), (some (8, false)), .fa 0 (.t 3)⟩,
      ⟨(some 10), (some (8, false)), .ld false 1 (.t 9)⟩,
      ⟨(some 11), (some (8, false)), .call 24 true [(.t 10), (.k (V.i 1)), (.k (V.i 9999))]⟩,
      ⟨(some 12), (some (8, false)), .not (.t 11)⟩,
      ⟨(some 13), none, .pick (.t 8) (.k (V.b true)) (.t 12)⟩,
      ⟨(some 14), none, .mv (.t 13)⟩,
      ⟨(some 15), (some (14, false)), .fa 1 (.t 3)⟩,
      ⟨(some 16), (some (14, false)), .ld false 1 (.t 15)⟩,
      ⟨(some 17), (some (14, false)), .call 24 true [(.t 16), (.k (V.i 0)), (.k (V.i 100000))]⟩,
      ⟨(some 18), (some (14, false)), .not (.t 17)⟩,
      ⟨(some 19), none, .pick (.t 14) (.k (V.b true)) (.t 18)⟩] [2, 3, 19])
   (.cond (.t 19)
    (.seq (.reg none [⟨(some 4), none, .mv (.k (V.b false))⟩] [4])
     (.ret))
    (.skip)))
  (.seq (.seq (.reg none [⟨(some 20), none, .fa 2 (.t 3)⟩,
      ⟨(some 21), none, .ld false 1 (.t 20)⟩] [2, 3, 21])
   (.block 0 (.seq (.seq (.reg none [⟨(some 23), none, .bin .eql .i (.t 21) (.k (V.i 1))⟩,
        ⟨(some 22), none, .mv (.t 23)⟩] [2, 3, 21, 22])
     (.cond (.t 22)
      (.skip)
      (.reg none [⟨(some 24), none, .bin .eql .i (.t 21) (.k (V.i 4))⟩,
         ⟨(some 22), none, .mv (.t 24)⟩] [2, 3, 21, 22])))
    (.cond (.t 22)
     (.seq (.reg (some [[], [0], [], [2], [0, 1, 2, 3], [0, 1, 2, 3, 4], [0, 1, 2, 3, 4, 5], [0, 1, 2, 3, 4, 5, 6], [0, 1, 2, 3, 4, 5, 6, 7], [0, 1, 2, 3, 4, 5, 6], [0, 1, 2, 3, 4, 5, 6, 7, 8, 9], [0, 1, 2, 3, 4, 5, 6, 7, 8, 9, 10], [0, 1, 2, 3, 4, 5, 6, 7, 8, 9, 10, 11]]) [⟨(some 25), none, .ld true 3 (.t 2)⟩,
         ⟨(some 26), none, .call 26 true [(.t 25)]⟩,
         ⟨(some 27), none, .fa 3 (.t 3)⟩,
         ⟨(some 28), none, .ld false 1 (.t 27)⟩,
         ⟨(some 29), none, .call 25 true [(.t 26), (.t 28)]⟩,
         ⟨(some 30), none, .bin .geq .i (.t 29) (.k (V.i 0))⟩,
         ⟨(some 31), none, .mv (.t 30)⟩,
         ⟨(some 32), (some (31, true)), .fa 4 (.t 3)⟩,
         ⟨(some 33), (some (31, true)), .ld true 2 (.t 32)⟩,
         ⟨(some 34), (some (31, true)), .bld [.r (.v (.int .i64 0)), .r (.v (.int .i64 0))] []⟩,
         ⟨(some 35), (some (31, true)), .eqs false [.i, .i] (.t 33) (.t 34)⟩,
         ⟨(some 36), none, .pick (.t 31) (.t 35) (.k (V.b false))⟩,
         ⟨(some 4), none, .mv (.t 36)⟩] [4])
      (.ret))
     (.seq (.reg none [⟨(some 38), none, .bin .eql .i (.t 21) (.k (V.i 3))⟩,
         ⟨(some 37), none, .mv (.t 38)⟩] [2, 3, 21, 37])
      (.cond (.t 37)
       (.seq (.reg (some [[], [0], [0, 1], [0, 1, 2], [0, 1, 2, 3], [0, 1, 2, 3], [0, 1, 2, 3, 5], [0, 1, 2, 3, 4, 5, 6], [0, 1, 2, 3, 4, 5, 6, 7], [0, 1, 2, 3, 4, 5, 6, 7, 8], [0, 1, 2, 3, 4, 5, 6, 7, 8, 9], [0, 1, 2, 3, 4, 5, 6, 7, 8, 9, 10], [0, 1, 2, 3, 4, 5, 6, 7, 8, 9], [0, 1, 2, 3, 4, 5, 6, 7, 8, 9], [0, 1, 2, 3, 4, 5, 6, 7, 8, 9, 13], [0, 1, 2, 3, 4, 5, 6, 7, 8, 9, 12, 13, 14], [0, 1, 2, 3, 4, 5, 6, 7, 8, 9, 10, 11, 12, 13, 14, 15], [0, 1, 2, 3, 4, 5, 6, 7, 8, 9, 10, 11, 12, 13, 14, 15, 16], [0, 1, 2, 3, 4, 5, 6, 7, 8, 9, 10, 11, 12, 13, 14, 15, 16, 17]]) [⟨(some 39), none, .fa 3 (.t 3)⟩,
           ⟨(some 40), none, .ld false 1 (.t 39)⟩,
           ⟨(some 41), none, .bin .eql .s (.t 40) (.k (.c (.r (.v (.string s_k0)))))⟩,
           ⟨(some 42), none, .mv (.t 41)⟩,
           ⟨(some 43), (some (42, true)), .ld true 3 (.t 2)⟩,
           ⟨(some 44), (some (42, true)), .fa 4 (.t 3)⟩,
           ⟨(some 45), (some (42, true)), .ld true 2 (.t 44)⟩,
           ⟨(some 46), (some (42, true)), .call 27 true [(.t 43), (.t 45)]⟩,
           ⟨(some 47), none, .pick (.t 42) (.t 46) (.k (V.b false))⟩,
           ⟨(some 48), none, .mv (.t 47)⟩,
           ⟨(some 49), (some (48, true)), .fa 1 (.t 3)⟩,
           ⟨(some 50), (some (48, true)), .ld false 1 (.t 49)⟩,
           ⟨(some 51), (some (48, true)), .ld true 3 (.t 2)⟩,
           ⟨(some 52), (some (48, true)), .fa 4 (.t 3)⟩,
           ⟨(some 53), (some (48, true)), .ld true 2 (.t 52)⟩,
           ⟨(some 54), (some (48, true)), .call 28 true [(.t 51), (.t 53)]⟩,
           ⟨(some 55), (some (48, true)), .bin .leq .i (.t 50) (.t 54)⟩,
           ⟨(some 56), none, .pick (.t 48) (.t 55) (.k (V.b false))⟩,
           ⟨(some 4), none, .mv (.t 56)⟩] [4])
        (.ret))
       (.seq (.reg none [⟨(some 58), none, .bin .eql .i (.t 21) (.k (V.i 2))⟩,
           ⟨(some 57), none, .mv (.t 58)⟩] [2, 3, 57])
        (.cond (.t 57)
         (.seq (.reg (some [[], [0], [0, 1], [0, 1, 2], [0, 1, 2, 3], [0, 1, 2, 3], [0, 1, 2, 3, 5], [0, 1, 2, 3, 4, 5, 6], [0, 1, 2, 3, 4, 5, 6, 7], [0, 1, 2, 3, 4, 5, 6, 7, 8], [0, 1, 2, 3, 4, 5, 6, 7, 8, 9], [0, 1, 2, 3, 4, 5, 6, 7, 8, 9, 10], [0, 1, 2, 3, 4, 5, 6, 7, 8, 9], [0, 1, 2, 3, 4, 5, 6, 7, 8, 9], [0, 1, 2, 3, 4, 5, 6, 7, 8, 9, 13], [0, 1, 2, 3, 4, 5, 6, 7, 8, 9, 12, 13, 14], [0, 1, 2, 3, 4, 5, 6, 7, 8, 9, 10, 11, 12, 13, 14, 15], [0, 1, 2, 3, 4, 5, 6, 7, 8, 9, 10, 11, 12, 13, 14, 15, 16], [0, 1, 2, 3, 4, 5, 6, 7, 8, 9, 10, 11, 12, 13, 14, 15, 16, 17]]) [⟨(some 59), none, .fa 3 (.t 3)⟩,
             ⟨(some 60), none, .ld false 1 (.t 59)⟩,
             ⟨(some 61), none, .bin .eql .s (.t 60) (.k (.c (.r (.v (.string s_k0)))))⟩,
             ⟨(some 62), none, .mv (.t 61)⟩,
             ⟨(some 63), (some (62, true)), .ld true 3 (.t 2)⟩,
             ⟨(some 64), (some (62, true)), .fa 4 (.t 3)⟩,
             ⟨(some 65), (some (62, true)), .ld true 2 (.t 64)⟩,
             ⟨(some 66), (some (62, true)), .call 27 true [(.t 63), (.t 65)]⟩,
             ⟨(some 67), none, .pick (.t 62) (.t 66) (.k (V.b false))⟩,
             ⟨(some 68), none, .mv (.t 67)⟩,
             ⟨(some 69), (some (68, true)), .fa 1 (.t 3)⟩,
             ⟨(some 70), (some (68, true)), .ld false 1 (.t 69)⟩,
             ⟨(some 71), (some (68, true)), .ld true 3 (.t 2)⟩,
             ⟨(some 72), (some (68, true)), .fa 4 (.t 3)⟩,
             ⟨(some 73), (some (68, true)), .ld true 2 (.t 72)⟩,
             ⟨(some 74), (some (68, true)), .call 29 true [(.t 71), (.t 73)]⟩,
             ⟨(some 75), (some (68, true)), .bin .geq .i (.t 70) (.t 74)⟩,
             ⟨(some 76), none, .pick (.t 68) (.t 75) (.k (V.b false))⟩,
             ⟨(some 4), none, .mv (.t 76)⟩] [4])
          (.ret))
         (.skip)))))))))
  (.seq (.reg none [⟨(some 4), none, .mv (.k (V.b false))⟩] [4])
  (.ret))))
def rv9 : List RV := [.t 4]
open Go.Proofs Go.IntWalk
set_option linter.unusedVariables false
set_option maxRecDepth 100000
set_option maxHeartbeats 4000000
def S_IsScan (g : G) (t : TE) (a0 : Network) (a1 : Scan) : Option Bool :=
  cl (S_IsNetwork g t a0) fun x1 =>
  br x1
  (
   lP (S_l1In g t a1.Thing 1 9999) fun x2 =>
   br x2
   (
    lP (S_l1In g t a1.At 0 100000) fun x3 =>
    br x3
    (
     br (g.eq a1.Kind 1)
     (
      cl (S_PlacesOf g t a0) fun x4 =>
      lP (S_l4Index g t x4 a1.Place) fun x5 =>
      br (g.le 0 x5)
      (
       some (g.all [(g.eq a1.Trip.Leg 0), (g.eq a1.Trip.Day 0)]))
      (
       some false))
     (
      br (g.eq a1.Kind 4)
      (
       cl (S_PlacesOf g t a0) fun x6 =>
       lP (S_l4Index g t x6 a1.Place) fun x7 =>
       br (g.le 0 x7)
       (
        some (g.all [(g.eq a1.Trip.Leg 0), (g.eq a1.Trip.Day 0)]))
       (
        some false))
      (
       br (g.eq a1.Kind 3)
       (
        br (g.seq a1.Place str_k0)
        (
         cl (S_IsTrip g t a0 (Trip.mk a1.Trip.Leg a1.Trip.Day)) fun x8 =>
         br x8
         (
          cl (S_l3Starts g t a0 (Trip.mk a1.Trip.Leg a1.Trip.Day)) fun x9 =>
          some (g.le a1.At x9))
         (
          some false))
        (
         some false))
       (
        br (g.eq a1.Kind 2)
        (
         br (g.seq a1.Place str_k0)
         (
          cl (S_IsTrip g t a0 (Trip.mk a1.Trip.Leg a1.Trip.Day)) fun x10 =>
          br x10
          (
           cl (S_l3Ends g t a0 (Trip.mk a1.Trip.Leg a1.Trip.Day)) fun x11 =>
           some (g.le x11 a1.At))
          (
           some false))
         (
          some false))
        (
         some false)))))
    (
     some false))
   (
    some false))
  (
   some false)
theorem fit9 : codeFit Try.prog Try.f9.ntmps (Try.f9.body.getD .skip) (ir9 str_k0) = true := by kernel_rfl
theorem c_S_IsScan {g : G} {t : TE} {a0 : Network} {a1 : Scan} {r : Bool} (hg : g = G.real) (ht : t = TE.real) (h : S_IsScan g t a0 a1 = some r) : Fn Try.prog 9 [.g (Network.rs t a0), .g (Scan.rs t a1)] (.c (.r (.v (.bool r)))) := by
  obtain ⟨X, hX⟩ := hide (.c (.r (.v (.bool r))) : X)
  rw [← hX]
  refine fn_of (rvs := rv9) (j := (ir9 str_k0)) Try.func9 rfl fit9 (Nat.le_of_ble_eq_true rfl) (by kernel_rfl) prog_mixed ?_
  intro g2 F hg2 hF
  obtain rfl : g2 = g := hg2.unique.trans hg.symm
  clear hg2
  obtain ⟨wrap, lt, le, eq, quo, rem, band, bor, bxor, shl, shr, nat, int, add, sub, mul, cat, seq, slt, sub3, byte, llen, nadd, nsub, dlen, dapp, dset, drep, rd, rda, up, rsub, dsub, all, sle, slen, hasI, putI, hasS, putS, imin, imax, fzc, bstr⟩ := g2
  obtain ⟨r_Leg, d_Leg, r_I64, d_I64, r_S, d_S⟩ := t
  obtain ⟨a0_Legs, a0_Off, a0_Change⟩ := a0
  obtain ⟨a1_Thing, a1_At, a1_Kind, a1_Place, ⟨a1_Trip_Leg, a1_Trip_Day⟩⟩ := a1
  unfold S_IsScan at h
  try dsimp only at h
  obtain ⟨s_k0, hs_k0⟩ : ∃ s, str_k0 = s := ⟨_, rfl⟩
  try rw [hs_k0] at h
  rw [hs_k0]
  cbv
  obtain ⟨x1, hx1, h⟩ := of_cl h
  try dsimp only at h
  refine ACall.mk _ _ rfl (hF _ _ _ (c_S_IsNetwork hg ht hx1)) (.inl rfl) (Nat.le_of_ble_eq_true rfl) ?_
  cbv
  cases hb1 : x1 with
  | true =>
    rw [br_true hb1] at h
    cbv
    try (rw [hb1]; cbv)
    try (rw [hb1]; cbv)
    obtain ⟨x2, hx2, h⟩ := of_lP h
    try dsimp only at h
    refine ACall.mk _ _ rfl (hF _ _ _ (c_S_l1In hg ht hx2)) (.inl rfl) (Nat.le_of_ble_eq_true rfl) ?_
    cbv
    try (rw [hb1]; cbv)
    try (rw [hb1]; cbv)
    cases hb2 : x2 with
    | true =>
      rw [br_true hb2] at h
      cbv
      try (rw [hb2]; cbv)
      try (rw [hb2]; cbv)
      obtain ⟨x3, hx3, h⟩ := of_lP h
      try dsimp only at h
      refine ACall.mk _ _ rfl (hF _ _ _ (c_S_l1In hg ht hx3)) (.inl rfl) (Nat.le_of_ble_eq_true rfl) ?_
      cbv
      try (rw [hb2]; cbv)
      try (rw [hb2]; cbv)
      cases hb3 : x3 with
      | true =>
        rw [br_true hb3] at h
        cbv
        cases hb4 : (eq a1_Kind 1) with
        | true =>
          rw [br_true hb4] at h
          cbv
          try (rw [hb4]; cbv)
          obtain ⟨x4, hx4, h⟩ := of_cl h
          try dsimp only at h
          refine ACall.mk _ _ rfl (hF _ _ _ (c_S_PlacesOf hg ht hx4)) (.inl rfl) (Nat.le_of_ble_eq_true rfl) ?_
          cbv
          refine AStep.mk (lend_S ht (dlen_S hg ht _)) ?_
          cbv
          obtain ⟨x5, hx5, h⟩ := of_lP h
          try dsimp only at h
          refine ACall.mk _ _ (by rw [show rd (d_S x4) 0 (dlen (d_S x4)) = r_S x4 from rdw_S hg ht (dlen_S hg ht _)]; try rfl) (hF _ _ _ (c_S_l4Index hg ht hx5)) (.inr rfl) (Nat.le_of_ble_eq_true rfl) ?_
          cbv
          cases hb5 : (le 0 x5) with
          | true =>
            rw [br_true hb5] at h
            cbv
            try (rw [hb5]; cbv)
            try (rw [hb5]; cbv)
            try (rw [hb5]; cbv)
            try (rw [hb5]; cbv)
            obtain rfl := Option.some.inj h
            exact ARet.mk trivial hX.symm
          | false =>
            rw [br_false hb5] at h
            cbv
            try (rw [hb5]; cbv)
            try (rw [hb5]; cbv)
            try (rw [hb5]; cbv)
            try (rw [hb5]; cbv)
            obtain rfl := Option.some.inj h
            exact ARet.mk trivial hX.symm
        | false =>
          rw [br_false hb4] at h
          cbv
          cases hb6 : (eq a1_Kind 4) with
          | true =>
            rw [br_true hb6] at h
            cbv
            obtain ⟨x6, hx6, h⟩ := of_cl h
            try dsimp only at h
            refine ACall.mk _ _ rfl (hF _ _ _ (c_S_PlacesOf hg ht hx6)) (.inl rfl) (Nat.le_of_ble_eq_true rfl) ?_
            cbv
            refine AStep.mk (lend_S ht (dlen_S hg ht _)) ?_
            cbv
            obtain ⟨x7, hx7, h⟩ := of_lP h
            try dsimp only at h
            refine ACall.mk _ _ (by rw [show rd (d_S x6) 0 (dlen (d_S x6)) = r_S x6 from rdw_S hg ht (dlen_S hg ht _)]; try rfl) (hF _ _ _ (c_S_l4Index hg ht hx7)) (.inr rfl) (Nat.le_of_ble_eq_true rfl) ?_
            cbv
            cases hb7 : (le 0 x7) with
            | true =>
              rw [br_true hb7] at h
              cbv
              try (rw [hb7]; cbv)
              try (rw [hb7]; cbv)
              try (rw [hb7]; cbv)
              try (rw [hb7]; cbv)
              obtain rfl := Option.some.inj h
              exact ARet.mk trivial hX.symm
            | false =>
              rw [br_false hb7] at h
              cbv
              try (rw [hb7]; cbv)
              try (rw [hb7]; cbv)
              try (rw [hb7]; cbv)
              try (rw [hb7]; cbv)
              obtain rfl := Option.some.inj h
              exact ARet.mk trivial hX.symm
          | false =>
            rw [br_false hb6] at h
            cbv
            cases hb8 : (eq a1_Kind 3) with
            | true =>
              rw [br_true hb8] at h
              cbv
              cases hb9 : (seq a1_Place s_k0) with
              | true =>
                rw [br_true hb9] at h
                cbv
                try (rw [hb9]; cbv)
                try (rw [hb9]; cbv)
                try (rw [hb9]; cbv)
                obtain ⟨x8, hx8, h⟩ := of_cl h
                try dsimp only at h
                refine ACall.mk _ _ rfl (hF _ _ _ (c_S_IsTrip hg ht hx8)) (.inl rfl) (Nat.le_of_ble_eq_true rfl) ?_
                cbv
                try (rw [hb9]; cbv)
                cases hb10 : x8 with
                | true =>
                  rw [br_true hb10] at h
                  cbv
                  try (rw [hb10]; cbv)
                  try (rw [hb10]; cbv)
                  try (rw [hb10]; cbv)
                  try (rw [hb10]; cbv)
                  try (rw [hb10]; cbv)
                  obtain ⟨x9, hx9, h⟩ := of_cl h
                  try dsimp only at h
                  refine ACall.mk _ _ rfl (hF _ _ _ (c_S_l3Starts hg ht hx9)) (.inl rfl) (Nat.le_of_ble_eq_true rfl) ?_
                  cbv
                  try (rw [hb10]; cbv)
                  try (rw [hb10]; cbv)
                  obtain rfl := Option.some.inj h
                  exact ARet.mk trivial hX.symm
                | false =>
                  rw [br_false hb10] at h
                  cbv
                  try (rw [hb10]; cbv)
                  try (rw [hb10]; cbv)
                  try (rw [hb10]; cbv)
                  try (rw [hb10]; cbv)
                  try (rw [hb10]; cbv)
                  try (rw [hb10]; cbv)
                  try (rw [hb10]; cbv)
                  obtain rfl := Option.some.inj h
                  exact ARet.mk trivial hX.symm
              | false =>
                rw [br_false hb9] at h
                cbv
                try (rw [hb9]; cbv)
                try (rw [hb9]; cbv)
                try (rw [hb9]; cbv)
                try (rw [hb9]; cbv)
                obtain rfl := Option.some.inj h
                exact ARet.mk trivial hX.symm
            | false =>
              rw [br_false hb8] at h
              cbv
              cases hb11 : (eq a1_Kind 2) with
              | true =>
                rw [br_true hb11] at h
                cbv
                cases hb12 : (seq a1_Place s_k0) with
                | true =>
                  rw [br_true hb12] at h
                  cbv
                  try (rw [hb12]; cbv)
                  try (rw [hb12]; cbv)
                  try (rw [hb12]; cbv)
                  obtain ⟨x10, hx10, h⟩ := of_cl h
                  try dsimp only at h
                  refine ACall.mk _ _ rfl (hF _ _ _ (c_S_IsTrip hg ht hx10)) (.inl rfl) (Nat.le_of_ble_eq_true rfl) ?_
                  cbv
                  try (rw [hb12]; cbv)
                  cases hb13 : x10 with
                  | true =>
                    rw [br_true hb13] at h
                    cbv
                    try (rw [hb13]; cbv)
                    try (rw [hb13]; cbv)
                    try (rw [hb13]; cbv)
                    try (rw [hb13]; cbv)
                    try (rw [hb13]; cbv)
                    obtain ⟨x11, hx11, h⟩ := of_cl h
                    try dsimp only at h
                    refine ACall.mk _ _ rfl (hF _ _ _ (c_S_l3Ends hg ht hx11)) (.inl rfl) (Nat.le_of_ble_eq_true rfl) ?_
                    cbv
                    try (rw [hb13]; cbv)
                    try (rw [hb13]; cbv)
                    obtain rfl := Option.some.inj h
                    exact ARet.mk trivial hX.symm
                  | false =>
                    rw [br_false hb13] at h
                    cbv
                    try (rw [hb13]; cbv)
                    try (rw [hb13]; cbv)
                    try (rw [hb13]; cbv)
                    try (rw [hb13]; cbv)
                    try (rw [hb13]; cbv)
                    try (rw [hb13]; cbv)
                    try (rw [hb13]; cbv)
                    obtain rfl := Option.some.inj h
                    exact ARet.mk trivial hX.symm
                | false =>
                  rw [br_false hb12] at h
                  cbv
                  try (rw [hb12]; cbv)
                  try (rw [hb12]; cbv)
                  try (rw [hb12]; cbv)
                  try (rw [hb12]; cbv)
                  obtain rfl := Option.some.inj h
                  exact ARet.mk trivial hX.symm
              | false =>
                rw [br_false hb11] at h
                cbv
                obtain rfl := Option.some.inj h
                exact ARet.mk trivial hX.symm
      | false =>
        rw [br_false hb3] at h
        cbv
        obtain rfl := Option.some.inj h
        exact ARet.mk trivial hX.symm
    | false =>
      rw [br_false hb2] at h
      cbv
      try (rw [hb2]; cbv)
      try (rw [hb2]; cbv)
      try (rw [hb2]; cbv)
      try (rw [hb2]; cbv)
      obtain rfl := Option.some.inj h
      exact ARet.mk trivial hX.symm
  | false =>
    rw [br_false hb1] at h
    cbv
    try (rw [hb1]; cbv)
    try (rw [hb1]; cbv)
    try (rw [hb1]; cbv)
    try (rw [hb1]; cbv)
    obtain rfl := Option.some.inj h
    exact ARet.mk trivial hX.symm
end Go.Vs
namespace Go.Vs
set_option maxRecDepth 100000
def ir45 : J :=
  .seq (.reg none [⟨(some 1), none, .box (.t 0)⟩,
     ⟨(some 2), none, .alloc [.r (.v (.string .empty)), .r (.v (.string .empty)), .r (.v (.int .i64 0)), .r (.v (.int .i64 0)), .r (.v (.int .i64 0)), .r (.v (.int .i64 0))]⟩] [1, 2])
  (.seq (.reg none [⟨(some 3), none, .alloc [.r (.v (.string .empty)), .r (.v (.string .empty)), .r (.v (.int .i64 0)), .r (.v (.int .i64 0)), .r (.v (.int .i64 0)), .r (.v (.int .i64 0))]⟩] [1, 2, 3])
  (.seq (.reg none [⟨(some 4), none, .fa 0 (.t 1)⟩,
     ⟨(some 5), none, .ld false 1 (.t 4)⟩,
     ⟨(some 6), none, .fa 0 (.t 3)⟩,
     ⟨none, none, .st 1 (.t 6) (.t 5)⟩] [1, 2, 3])
  (.seq (.reg none [⟨(some 7), none, .fa 1 (.t 1)⟩,
     ⟨(some 8), none, .ld false 1 (.t 7)⟩,
     ⟨(some 9), none, .fa 1 (.t 3)⟩,
     ⟨none, none, .st 1 (.t 9) (.t 8)⟩] [1, 2, 3])
  (.seq (.reg none [⟨(some 10), none, .fa 2 (.t 1)⟩,
     ⟨(some 11), none, .ld false 1 (.t 10)⟩,
     ⟨(some 12), none, .fa 2 (.t 3)⟩,
     ⟨none, none, .st 1 (.t 12) (.t 11)⟩] [1, 2, 3])
  (.seq (.reg none [⟨(some 13), none, .fa 3 (.t 1)⟩,
     ⟨(some 14), none, .ld false 1 (.t 13)⟩,
     ⟨(some 15), none, .fa 3 (.t 3)⟩,
     ⟨none, none, .st 1 (.t 15) (.t 14)⟩] [1, 2, 3])
  (.seq (.reg none [⟨(some 16), none, .fa 4 (.t 1)⟩,
     ⟨(some 17), none, .ld false 1 (.t 16)⟩,
     ⟨(some 18), none, .fa 4 (.t 3)⟩,
     ⟨none, none, .st 1 (.t 18) (.t 17)⟩] [1, 2, 3])
  (.seq (.reg none [⟨(some 19), none, .fa 5 (.t 1)⟩,
     ⟨(some 20), none, .ld false 1 (.t 19)⟩,
     ⟨(some 21), none, .fa 5 (.t 3)⟩,
     ⟨none, none, .st 1 (.t 21) (.t 20)⟩] [2, 3])
  (.seq (.reg none [⟨(some 22), none, .ld true 6 (.t 3)⟩,
     ⟨none, none, .st 6 (.t 2) (.t 22)⟩] [2])
  (.ret)))))))))
def rv45 : List RV := [.c 2 true 6]
open Go.Proofs Go.IntWalk
set_option linter.unusedVariables false
set_option maxRecDepth 100000
set_option maxHeartbeats 4000000
def L_toLeg (g : G) (t : TE) (a0 : Leg) : Leg :=
  a0
theorem fit45 : codeFit Try.prog Try.f45.ntmps (Try.f45.body.getD .skip) ir45 = true := by kernel_rfl
theorem c_L_toLeg {g : G} {t : TE} {a0 : Leg} {r : Leg} (hg : g = G.real) (ht : t = TE.real) (h : L_toLeg g t a0 = r) : Fn Try.prog 45 [.g (Leg.rs t a0)] (.g (Leg.ds t r)) := by
  obtain ⟨X, hX⟩ := hide (.g (Leg.ds t r) : X)
  rw [← hX]
  refine fn_of (rvs := rv45) (j := ir45) Try.func45 rfl fit45 (Nat.le_of_ble_eq_true rfl) (by kernel_rfl) prog_mixed ?_
  intro g2 F hg2 hF
  obtain rfl : g2 = g := hg2.unique.trans hg.symm
  clear hg2
  obtain ⟨wrap, lt, le, eq, quo, rem, band, bor, bxor, shl, shr, nat, int, add, sub, mul, cat, seq, slt, sub3, byte, llen, nadd, nsub, dlen, dapp, dset, drep, rd, rda, up, rsub, dsub, all, sle, slen, hasI, putI, hasS, putS, imin, imax, fzc, bstr⟩ := g2
  obtain ⟨r_Leg, d_Leg, r_I64, d_I64, r_S, d_S⟩ := t
  obtain ⟨a0_From, a0_To, a0_Start, a0_Takes, a0_Days, a0_Room⟩ := a0
  unfold L_toLeg at h
  try dsimp only at h
  cbv
  subst h
  exact ARet.mk trivial hX.symm
end Go.Vs
namespace Go.Vs
set_option maxRecDepth 100000
def ir30 : J :=
  .seq (.reg none [⟨(some 2), none, .mv (.k (.c (.n 6)))⟩] [0])
  (.seq (.reg none [⟨(some 5), none, .mv (.t 0)⟩,
     ⟨(some 6), none, .len false (.t 5)⟩,
     ⟨(some 7), none, .mk 6 64 [.r (.v (.string .empty)), .r (.v (.string .empty)), .r (.v (.int .i64 0)), .r (.v (.int .i64 0)), .r (.v (.int .i64 0)), .r (.v (.int .i64 0))] (.t 6)⟩,
     ⟨(some 3), none, .mv (.t 7)⟩] [0, 3])
  (.seq (.seq (.reg none [⟨(some 4), none, .mv (.k (V.i 0))⟩] [0, 3, 4])
   (.bl 0 (.seq (.seq (.reg none [⟨(some 8), none, .mv (.t 4)⟩,
        ⟨(some 9), none, .mv (.t 0)⟩,
        ⟨(some 10), none, .len false (.t 9)⟩,
        ⟨(some 11), none, .bin .lss .i (.t 8) (.t 10)⟩] [0, 3, 4, 11])
     (.cond (.t 11)
      (.skip)
      (.exit 0)))
    (.seq (.block 1 (.reg none [⟨(some 14), none, .mv (.t 3)⟩,
        ⟨(some 15), none, .mv (.t 4)⟩,
        ⟨(some 16), none, .mv (.t 0)⟩,
        ⟨(some 17), none, .mv (.t 4)⟩,
        ⟨(some 18), none, .ia 6 (.t 16) (.t 17)⟩,
        ⟨(some 19), none, .ld true 6 (.t 18)⟩,
        ⟨(some 20), none, .call 45 true [(.t 19)]⟩,
        ⟨(some 21), none, .ia 6 (.t 14) (.t 15)⟩,
        ⟨none, none, .st 6 (.t 21) (.t 20)⟩] [0, 3, 4]))
    (.reg none [⟨(some 12), none, .mv (.t 4)⟩,
      ⟨(some 13), none, .bin .add .i (.t 12) (.k (V.i 1))⟩,
      ⟨(some 4), none, .mv (.t 13)⟩] [0, 3, 4])))))
  (.seq (.reg none [⟨(some 22), none, .mv (.t 3)⟩,
     ⟨(some 2), none, .mv (.t 22)⟩] [2])
  (.ret))))
def rv30 : List RV := [.t 2]
open Go.Proofs Go.IntWalk
set_option linter.unusedVariables false
set_option maxRecDepth 100000
set_option maxHeartbeats 4000000
def L_toLegS_l1 (g : G) (t : TE) : List Leg → Int → List Leg → Option (List Leg)
  | [], v1, w1 =>
    some w1
  | z1 :: ls1, v1, w1 =>
    lP (L_toLeg g t z1) fun x1 =>
    gd (((0 : Int) ≤ v1 ∧ v1 < (((g.dlen (t.d_Leg w1)) : Nat) : Int))) <|
    gt w1 (g.nat v1) fun x2 =>
    lP (List.set w1 (g.nat v1) (Leg.mk x1.From x1.To x1.Start x1.Takes x1.Days x1.Room)) fun (l2 : List Leg) =>
    L_toLegS_l1 g t ls1 (g.wrap .i64 (g.add v1 1)) l2
def L_toLegS (g : G) (t : TE) (a0 : List Leg) : Option (List Leg) :=
  gd (((0 : Int) ≤ (g.llen (t.r_Leg a0)) ∧ 64 * (g.llen (t.r_Leg a0)) ≤ 70368744177664 ∧ (g.llen (t.r_Leg a0)) ≤ 4611686018427387904)) <|
  lP (List.replicate (g.nat (g.llen (t.r_Leg a0))) (Leg.mk ByteArray.empty ByteArray.empty 0 0 0 0)) fun (l1 : List Leg) =>
  cl (L_toLegS_l1 g t a0 0 l1) fun y1 =>
  some y1
theorem fit30 : codeFit Try.prog Try.f30.ntmps (Try.f30.body.getD .skip) ir30 = true := by kernel_rfl
theorem c_L_toLegS {g : G} {t : TE} {a0 : List Leg} {r : List Leg} (hg : g = G.real) (ht : t = TE.real) (h : L_toLegS g t a0 = some r) : Fn Try.prog 30 [.c (.s 6 (t.r_Leg a0))] (.c (.o 6 (t.d_Leg r))) := by
  obtain ⟨X, hX⟩ := hide (.c (.o 6 (t.d_Leg r)) : X)
  rw [← hX]
  refine fn_of (rvs := rv30) (j := ir30) Try.func30 rfl fit30 (Nat.le_of_ble_eq_true rfl) (by kernel_rfl) prog_mixed ?_
  intro g2 F hg2 hF
  obtain rfl : g2 = g := hg2.unique.trans hg.symm
  clear hg2
  obtain ⟨wrap, lt, le, eq, quo, rem, band, bor, bxor, shl, shr, nat, int, add, sub, mul, cat, seq, slt, sub3, byte, llen, nadd, nsub, dlen, dapp, dset, drep, rd, rda, up, rsub, dsub, all, sle, slen, hasI, putI, hasS, putS, imin, imax, fzc, bstr⟩ := g2
  obtain ⟨r_Leg, d_Leg, r_I64, d_I64, r_S, d_S⟩ := t
  unfold L_toLegS at h
  try dsimp only at h
  cbv
  obtain ⟨hc2, h⟩ := of_gd h
  refine AStep.mk (mk_ok hc2) ?_
  cbv
  obtain ⟨l1, hl1, h⟩ := of_lP h
  try dsimp only at h
  refine ANew.mk (d_Leg l1) (dlen (d_Leg l1)) (by rw [← hl1]; exact drep_Leg hg ht _ (Leg.mk ByteArray.empty ByteArray.empty 0 0 0 0)) (by rw [← hl1]; exact drepn_Leg hg ht _ (Leg.mk ByteArray.empty ByteArray.empty 0 0 0 0)) ?_
  cbv
  obtain ⟨o1, ho1, h⟩ := of_cl h
  try dsimp only at h
  try rw [hg] at ho1
  try rw [ht] at ho1
  refine ABL.mk { p : Nat × Int × List Leg // p.1 ≤ a0.length ∧ p.2.1 = ((p.1 : Nat) : Int) ∧ L_toLegS_l1 G.real TE.real (List.drop p.1 a0) p.2.1 p.2.2 = some o1 } (fun ⟨⟨k1, v1, w1⟩, _⟩ => ({ sl := [(0, .c (.r (.s 6 (r_Leg a0)))), (3, .c (.f 0 6 0 (dlen (d_Leg w1)))), (4, .c (.r (.v (.int .i64 v1))))], tab := [(0, some (.arr 6 (d_Leg w1)))] } : St)) 1 (fun p => a0.length - p.1.1) ⟨(0, 0, l1), Nat.zero_le _, rfl, ho1⟩ (List Leg) (fun y1 => ({ sl := [(3, .c (.f 0 6 0 (dlen (d_Leg y1))))], tab := [(0, some (.arr 6 (d_Leg y1)))] } : St)) 1 (fun y => o1 = y) ?_ ?_ ?_
  · refine Wk.of [(0, some 48)] rfl rfl ?_ ?_
    · cbv
      all_goals exact ⟨⟨_, rfl, rfl⟩, ⟨_, rfl, rfl⟩, ⟨_, rfl, rfl⟩, trivial⟩
    · cbv
      all_goals exact ⟨⟨_, rfl, rfl⟩, trivial⟩
  · rintro ⟨⟨k1, v1, w1⟩, hk1, hi1, h_1⟩ hq1
    have hm1 := (hq1.1 0 _ _ rfl)
    try dsimp only at hk1 hi1 h_1
    clear hq1
    cbv
    by_cases hc1_ : k1 < a0.length
    · have hb1 : lt v1 (llen (r_Leg a0)) = true := ltL_true_Leg hg ht hi1 hc1_
      have hs1 := stepL_Leg hg ht hi1 hc1_ hm1
      obtain ⟨z1, hz1⟩ := some_of_lt hc1_
      rw [drop_of_some hz1] at h_1
      rw [L_toLegS_l1] at h_1
      obtain ⟨z1_From, z1_To, z1_Start, z1_Takes, z1_Days, z1_Room⟩ := z1
      try rw [← hg] at h_1
      try rw [← ht] at h_1
      try dsimp only at h_1
      rw [hb1]
      cbv
      refine AStep.mk (nn_L hi1) ?_
      cbv
      refine AGet.mk _ (r_getL_Leg hg ht hi1 hz1) ?_
      cbv
      obtain ⟨x1, hx1, h_1⟩ := of_lP h_1
      obtain ⟨x1_From, x1_To, x1_Start, x1_Takes, x1_Days, x1_Room⟩ := x1
      try dsimp only at h_1
      refine ACall.mk _ _ rfl (hF _ _ _ (c_L_toLeg hg ht hx1)) (.inl rfl) (Nat.le_of_ble_eq_true rfl) ?_
      cbv
      obtain ⟨hc1, h_1⟩ := of_gd h_1
      refine AStep.mk hc1 ?_
      cbv
      obtain ⟨x2, hx2, h_1⟩ := of_gt h_1
      obtain ⟨x2_From, x2_To, x2_Start, x2_Takes, x2_Days, x2_Room⟩ := x2
      try dsimp only at h_1
      refine AGet.mk _ (d_get_Leg hg ht hx2) ?_
      cbv
      obtain ⟨l2, hl2, h_1⟩ := of_lP h_1
      try dsimp only at h_1
      refine ANew.mk (d_Leg l2) _ (by rw [← hl2]; exact dset_Leg hg ht _ _ (Leg.mk x1_From x1_To x1_Start x1_Takes x1_Days x1_Room)) rfl ?_
      have hnl2 : (dlen (d_Leg w1)) = (d_Leg l2).length := (by rw [← hl2, dsetl_Leg ht]; exact (dlen_Leg hg ht _))
      cbv
      try rw [hg] at h_1
      try rw [ht] at h_1
      refine ⟨⟨(k1 + 1, (wrap .i64 (add v1 1)), l2), hc1_, hs1, h_1⟩, Wk.of [(0, some 0)] rfl rfl ?_ ?_, meas_L hc1_⟩
      · cbv
        all_goals try rw [show (dlen (d_Leg w1)) = (dlen (d_Leg l2)) from (hnl2).trans (dlen_Leg hg ht _).symm]
        all_goals exact ⟨⟨_, rfl, rfl⟩, ⟨_, rfl, rfl⟩, ⟨_, rfl, rfl⟩, trivial⟩
      · cbv
        all_goals try rw [show (dlen (d_Leg w1)) = (dlen (d_Leg l2)) from (hnl2).trans (dlen_Leg hg ht _).symm]
        all_goals exact ⟨⟨_, rfl, rfl⟩, trivial⟩
    · have hb1 : lt v1 (llen (r_Leg a0)) = false := ltL_false_Leg hg ht hi1 hc1_
      rw [List.drop_of_length_le (Nat.le_of_not_lt hc1_)] at h_1
      rw [L_toLegS_l1] at h_1
      try rw [← hg] at h_1
      try rw [← ht] at h_1
      try dsimp only at h_1
      rw [hb1]
      cbv
      refine ⟨w1, Wk.of [(0, some 0)] rfl rfl ?_ ?_, (Option.some.inj h_1).symm⟩
      · cbv
        all_goals exact ⟨⟨_, rfl, rfl⟩, trivial⟩
      · cbv
        all_goals exact ⟨⟨_, rfl, rfl⟩, trivial⟩
  · rintro y1 hy1
    replace hy1 := hy1.symm
    subst hy1
    try dsimp only [lr, lrL, lrp, lrpL] at h
    cbv
    obtain rfl := Option.some.inj h
    exact ARet.mk ⟨rfl, (dlen_Leg hg ht _)⟩ hX.symm
end Go.Vs
namespace Go.Vs
set_option maxRecDepth 100000
def ir31 : J :=
  .seq (.reg none [⟨(some 2), none, .mv (.k (.c (.n 1)))⟩] [0])
  (.seq (.reg none [⟨(some 5), none, .mv (.t 0)⟩,
     ⟨(some 6), none, .len false (.t 5)⟩,
     ⟨(some 7), none, .mk 1 8 [.r (.v (.int .i64 0))] (.t 6)⟩,
     ⟨(some 3), none, .mv (.t 7)⟩] [0, 3])
  (.seq (.seq (.reg none [⟨(some 4), none, .mv (.k (V.i 0))⟩] [0, 3, 4])
   (.bl 0 (.seq (.seq (.reg none [⟨(some 8), none, .mv (.t 4)⟩,
        ⟨(some 9), none, .mv (.t 0)⟩,
        ⟨(some 10), none, .len false (.t 9)⟩,
        ⟨(some 11), none, .bin .lss .i (.t 8) (.t 10)⟩] [0, 3, 4, 11])
     (.cond (.t 11)
      (.skip)
      (.exit 0)))
    (.seq (.block 1 (.reg none [⟨(some 14), none, .mv (.t 3)⟩,
        ⟨(some 15), none, .mv (.t 4)⟩,
        ⟨(some 16), none, .mv (.t 0)⟩,
        ⟨(some 17), none, .mv (.t 4)⟩,
        ⟨(some 18), none, .ia 1 (.t 16) (.t 17)⟩,
        ⟨(some 19), none, .ld false 1 (.t 18)⟩,
        ⟨(some 20), none, .ia 1 (.t 14) (.t 15)⟩,
        ⟨none, none, .st 1 (.t 20) (.t 19)⟩] [0, 3, 4]))
    (.reg none [⟨(some 12), none, .mv (.t 4)⟩,
      ⟨(some 13), none, .bin .add .i (.t 12) (.k (V.i 1))⟩,
      ⟨(some 4), none, .mv (.t 13)⟩] [0, 3, 4])))))
  (.seq (.reg none [⟨(some 21), none, .mv (.t 3)⟩,
     ⟨(some 2), none, .mv (.t 21)⟩] [2])
  (.ret))))
def rv31 : List RV := [.t 2]
open Go.Proofs Go.IntWalk
set_option linter.unusedVariables false
set_option maxRecDepth 100000
set_option maxHeartbeats 4000000
def L_toIntS_l1 (g : G) (t : TE) : List Int → Int → List Int → Option (List Int)
  | [], v1, w1 =>
    some w1
  | z1 :: ls1, v1, w1 =>
    gd (((0 : Int) ≤ v1 ∧ v1 < (((g.dlen (t.d_I64 w1)) : Nat) : Int))) <|
    gt w1 (g.nat v1) fun x1 =>
    lP (List.set w1 (g.nat v1) z1) fun (l2 : List Int) =>
    L_toIntS_l1 g t ls1 (g.wrap .i64 (g.add v1 1)) l2
def L_toIntS (g : G) (t : TE) (a0 : List Int) : Option (List Int) :=
  gd (((0 : Int) ≤ (g.llen (t.r_I64 a0)) ∧ 8 * (g.llen (t.r_I64 a0)) ≤ 70368744177664 ∧ (g.llen (t.r_I64 a0)) ≤ 4611686018427387904)) <|
  lP (List.replicate (g.nat (g.llen (t.r_I64 a0))) 0) fun (l1 : List Int) =>
  cl (L_toIntS_l1 g t a0 0 l1) fun y1 =>
  some y1
theorem fit31 : codeFit Try.prog Try.f31.ntmps (Try.f31.body.getD .skip) ir31 = true := by kernel_rfl
theorem c_L_toIntS {g : G} {t : TE} {a0 : List Int} {r : List Int} (hg : g = G.real) (ht : t = TE.real) (h : L_toIntS g t a0 = some r) : Fn Try.prog 31 [.c (.s 1 (t.r_I64 a0))] (.c (.o 1 (t.d_I64 r))) := by
  obtain ⟨X, hX⟩ := hide (.c (.o 1 (t.d_I64 r)) : X)
  rw [← hX]
  refine fn_of (rvs := rv31) (j := ir31) Try.func31 rfl fit31 (Nat.le_of_ble_eq_true rfl) (by kernel_rfl) prog_mixed ?_
  intro g2 F hg2 hF
  obtain rfl : g2 = g := hg2.unique.trans hg.symm
  clear hg2
  obtain ⟨wrap, lt, le, eq, quo, rem, band, bor, bxor, shl, shr, nat, int, add, sub, mul, cat, seq, slt, sub3, byte, llen, nadd, nsub, dlen, dapp, dset, drep, rd, rda, up, rsub, dsub, all, sle, slen, hasI, putI, hasS, putS, imin, imax, fzc, bstr⟩ := g2
  obtain ⟨r_Leg, d_Leg, r_I64, d_I64, r_S, d_S⟩ := t
  unfold L_toIntS at h
  try dsimp only at h
  cbv
  obtain ⟨hc2, h⟩ := of_gd h
  refine AStep.mk (mk_ok hc2) ?_
  cbv
  obtain ⟨l1, hl1, h⟩ := of_lP h
  try dsimp only at h
  refine ANew.mk (d_I64 l1) (dlen (d_I64 l1)) (by rw [← hl1]; exact drep_I64 hg ht _ 0) (by rw [← hl1]; exact drepn_I64 hg ht _ 0) ?_
  cbv
  obtain ⟨o1, ho1, h⟩ := of_cl h
  try dsimp only at h
  try rw [hg] at ho1
  try rw [ht] at ho1
  refine ABL.mk { p : Nat × Int × List Int // p.1 ≤ a0.length ∧ p.2.1 = ((p.1 : Nat) : Int) ∧ L_toIntS_l1 G.real TE.real (List.drop p.1 a0) p.2.1 p.2.2 = some o1 } (fun ⟨⟨k1, v1, w1⟩, _⟩ => ({ sl := [(0, .c (.r (.s 1 (r_I64 a0)))), (3, .c (.f 0 1 0 (dlen (d_I64 w1)))), (4, .c (.r (.v (.int .i64 v1))))], tab := [(0, some (.arr 1 (d_I64 w1)))] } : St)) 1 (fun p => a0.length - p.1.1) ⟨(0, 0, l1), Nat.zero_le _, rfl, ho1⟩ (List Int) (fun y1 => ({ sl := [(3, .c (.f 0 1 0 (dlen (d_I64 y1))))], tab := [(0, some (.arr 1 (d_I64 y1)))] } : St)) 1 (fun y => o1 = y) ?_ ?_ ?_
  · refine Wk.of [(0, some 48)] rfl rfl ?_ ?_
    · cbv
      all_goals exact ⟨⟨_, rfl, rfl⟩, ⟨_, rfl, rfl⟩, ⟨_, rfl, rfl⟩, trivial⟩
    · cbv
      all_goals exact ⟨⟨_, rfl, rfl⟩, trivial⟩
  · rintro ⟨⟨k1, v1, w1⟩, hk1, hi1, h_1⟩ hq1
    have hm1 := (hq1.1 0 _ _ rfl)
    try dsimp only at hk1 hi1 h_1
    clear hq1
    cbv
    by_cases hc1_ : k1 < a0.length
    · have hb1 : lt v1 (llen (r_I64 a0)) = true := ltL_true_I64 hg ht hi1 hc1_
      have hs1 := stepL_I64 hg ht hi1 hc1_ hm1
      obtain ⟨z1, hz1⟩ := some_of_lt hc1_
      rw [drop_of_some hz1] at h_1
      rw [L_toIntS_l1] at h_1
      try rw [← hg] at h_1
      try rw [← ht] at h_1
      try dsimp only at h_1
      rw [hb1]
      cbv
      refine AStep.mk (nn_L hi1) ?_
      cbv
      refine AGet.mk _ (r_getL_I64 hg ht hi1 hz1) ?_
      cbv
      obtain ⟨hc1, h_1⟩ := of_gd h_1
      refine AStep.mk hc1 ?_
      cbv
      obtain ⟨x1, hx1, h_1⟩ := of_gt h_1
      try dsimp only at h_1
      refine AGet.mk _ (d_get_I64 hg ht hx1) ?_
      cbv
      obtain ⟨l2, hl2, h_1⟩ := of_lP h_1
      try dsimp only at h_1
      refine ANew.mk (d_I64 l2) _ (by rw [← hl2]; exact dset_I64 hg ht _ _ z1) rfl ?_
      have hnl2 : (dlen (d_I64 w1)) = (d_I64 l2).length := (by rw [← hl2, dsetl_I64 ht]; exact (dlen_I64 hg ht _))
      cbv
      try rw [hg] at h_1
      try rw [ht] at h_1
      refine ⟨⟨(k1 + 1, (wrap .i64 (add v1 1)), l2), hc1_, hs1, h_1⟩, Wk.of [(0, some 0)] rfl rfl ?_ ?_, meas_L hc1_⟩
      · cbv
        all_goals try rw [show (dlen (d_I64 w1)) = (dlen (d_I64 l2)) from (hnl2).trans (dlen_I64 hg ht _).symm]
        all_goals exact ⟨⟨_, rfl, rfl⟩, ⟨_, rfl, rfl⟩, ⟨_, rfl, rfl⟩, trivial⟩
      · cbv
        all_goals try rw [show (dlen (d_I64 w1)) = (dlen (d_I64 l2)) from (hnl2).trans (dlen_I64 hg ht _).symm]
        all_goals exact ⟨⟨_, rfl, rfl⟩, trivial⟩
    · have hb1 : lt v1 (llen (r_I64 a0)) = false := ltL_false_I64 hg ht hi1 hc1_
      rw [List.drop_of_length_le (Nat.le_of_not_lt hc1_)] at h_1
      rw [L_toIntS_l1] at h_1
      try rw [← hg] at h_1
      try rw [← ht] at h_1
      try dsimp only at h_1
      rw [hb1]
      cbv
      refine ⟨w1, Wk.of [(0, some 0)] rfl rfl ?_ ?_, (Option.some.inj h_1).symm⟩
      · cbv
        all_goals exact ⟨⟨_, rfl, rfl⟩, trivial⟩
      · cbv
        all_goals exact ⟨⟨_, rfl, rfl⟩, trivial⟩
  · rintro y1 hy1
    replace hy1 := hy1.symm
    subst hy1
    try dsimp only [lr, lrL, lrp, lrpL] at h
    cbv
    obtain rfl := Option.some.inj h
    exact ARet.mk ⟨rfl, (dlen_I64 hg ht _)⟩ hX.symm
end Go.Vs
