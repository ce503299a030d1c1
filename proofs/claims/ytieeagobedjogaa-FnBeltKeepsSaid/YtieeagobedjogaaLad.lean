/- Part of the proofs of this seat's laws: Lad. No condition. -/
import Derived.Test.YtieeagobedjogaaTy
import Derived.Test.YtieeagobedjogaaTIRall
import Derived.Test.YtieeagobedjogaaLaa
import Derived.Test.YtieeagobedjogaaLac
set_option linter.unusedVariables false
set_option linter.unusedSimpArgs false
set_option linter.unusedSectionVars false
namespace Go.Vs
set_option maxRecDepth 100000
def ir37 : J :=
  .seq (.reg none [⟨(some 4), none, .mv (.k (V.b false))⟩] [0, 1])
  (.seq (.seq (.reg none [⟨(some 6), none, .mv (.t 0)⟩,
      ⟨(some 7), none, .len false (.t 6)⟩,
      ⟨(some 8), none, .mv (.t 1)⟩,
      ⟨(some 9), none, .len false (.t 8)⟩,
      ⟨(some 10), none, .bin .neq .i (.t 7) (.t 9)⟩] [0, 1, 10])
   (.cond (.t 10)
    (.seq (.reg none [⟨(some 4), none, .mv (.k (V.b false))⟩] [4])
     (.ret))
    (.skip)))
  (.seq (.seq (.reg none [⟨(some 5), none, .mv (.k (V.i 0))⟩] [0, 1, 5])
   (.bl 0 (.seq (.seq (.reg none [⟨(some 11), none, .mv (.t 5)⟩,
        ⟨(some 12), none, .mv (.t 0)⟩,
        ⟨(some 13), none, .len false (.t 12)⟩,
        ⟨(some 14), none, .bin .lss .i (.t 11) (.t 13)⟩] [0, 1, 5, 14])
     (.cond (.t 14)
      (.skip)
      (.exit 0)))
    (.seq (.block 1 (.seq (.reg (some [[], [], [0, 1], [0, 1, 2], [], [], [4, 5], [4, 5, 6], [0, 1, 2, 3, 4, 5, 6, 7]]) [⟨(some 17), none, .mv (.t 0)⟩,
         ⟨(some 18), none, .mv (.t 5)⟩,
         ⟨(some 19), none, .ia 2 (.t 17) (.t 18)⟩,
         ⟨(some 20), none, .ld true 2 (.t 19)⟩,
         ⟨(some 21), none, .mv (.t 1)⟩,
         ⟨(some 22), none, .mv (.t 5)⟩,
         ⟨(some 23), none, .ia 2 (.t 21) (.t 22)⟩,
         ⟨(some 24), none, .ld true 2 (.t 23)⟩,
         ⟨(some 25), none, .eqs true [.i, .i] (.t 20) (.t 24)⟩] [0, 1, 5, 25])
      (.cond (.t 25)
       (.seq (.reg none [⟨(some 4), none, .mv (.k (V.b false))⟩] [4])
        (.ret))
       (.skip))))
    (.reg none [⟨(some 15), none, .mv (.t 5)⟩,
      ⟨(some 16), none, .bin .add .i (.t 15) (.k (V.i 1))⟩,
      ⟨(some 5), none, .mv (.t 16)⟩] [0, 1, 5])))))
  (.seq (.reg none [⟨(some 4), none, .mv (.k (V.b true))⟩] [4])
  (.ret))))
def rv37 : List RV := [.t 4]
open Go.Proofs Go.IntWalk
set_option linter.unusedVariables false
set_option maxRecDepth 100000
set_option maxHeartbeats 4000000
def L_items_l1 (g : G) (t : TE) (a1 : List Item) : List Item → Int → Option (LR Bool Unit)
  | [], v1 =>
    some (LR.out ())
  | z1 :: ls1, v1 =>
    gt a1 (g.nat v1) fun x1 =>
    br (g.all [(g.eq z1.Id x1.Id), (g.eq z1.Dest x1.Dest)])
    (
     L_items_l1 g t a1 ls1 (g.wrap .i64 (g.add v1 1)))
    (
     some (LR.ret false))
def L_items (g : G) (t : TE) (a0 : List Item) (a1 : List Item) : Option Bool :=
  br (g.eq (g.llen (t.r_Item a0)) (g.llen (t.r_Item a1)))
  (
   cl (L_items_l1 g t a1 a0 0) fun o1 => lr o1 fun y1 =>
   some true)
  (
   some false)
theorem fit37 : codeFit Try.prog Try.f37.ntmps (Try.f37.body.getD .skip) ir37 = true := by kernel_rfl
theorem c_L_items {g : G} {t : TE} {a0 : List Item} {a1 : List Item} {r : Bool} (hg : g = G.real) (ht : t = TE.real) (h : L_items g t a0 a1 = some r) : Fn Try.prog 37 [.c (.s 2 (t.r_Item a0)), .c (.s 2 (t.r_Item a1))] (.c (.r (.v (.bool r)))) := by
  obtain ⟨X, hX⟩ := hide (.c (.r (.v (.bool r))) : X)
  rw [← hX]
  refine fn_of (rvs := rv37) (j := ir37) Try.func37 rfl fit37 (Nat.le_of_ble_eq_true rfl) (by kernel_rfl) prog_mixed ?_
  intro g2 F hg2 hF
  obtain rfl : g2 = g := hg2.unique.trans hg.symm
  clear hg2
  obtain ⟨wrap, lt, le, eq, quo, rem, band, bor, bxor, shl, shr, nat, int, add, sub, mul, cat, seq, slt, sub3, byte, llen, nadd, nsub, dlen, dapp, dset, drep, rd, rda, up, rsub, dsub, all, sle, slen, hasI, putI, hasS, putS, imin, imax, fzc⟩ := g2
  obtain ⟨r_Item, d_Item, r_Chute, d_Chute, r_Inlet, d_Inlet, r_I64, d_I64, r_U8, d_U8, d_InletF⟩ := t
  unfold L_items at h
  try dsimp only at h
  cbv
  cases hb1 : (eq (llen (r_Item a0)) (llen (r_Item a1))) with
  | true =>
    rw [br_true hb1] at h
    cbv
    obtain ⟨o1, ho1, h⟩ := of_cl h
    try dsimp only at h
    try rw [hg] at ho1
    try rw [ht] at ho1
    refine ABL.mk { p : Nat × Int // p.1 ≤ a0.length ∧ p.2 = ((p.1 : Nat) : Int) ∧ L_items_l1 G.real TE.real a1 (List.drop p.1 a0) p.2 = some o1 } (fun ⟨⟨k1, v1⟩, _⟩ => ({ sl := [(0, .c (.r (.s 2 (r_Item a0)))), (1, .c (.r (.s 2 (r_Item a1)))), (5, .c (.r (.v (.int .i64 v1))))], tab := [] } : St)) 0 (fun p => a0.length - p.1.1) ⟨(0, 0), Nat.zero_le _, rfl, ho1⟩ (Unit) (fun _ => ({ sl := [], tab := [] } : St)) 0 (fun y => o1 = LR.out y) ?_ ?_ ?_
    · refine Wk.of [] rfl rfl ?_ ?_
      · cbv
        all_goals exact ⟨⟨_, rfl, rfl⟩, ⟨_, rfl, rfl⟩, ⟨_, rfl, rfl⟩, trivial⟩
      · cbv
        all_goals exact trivial
    · rintro ⟨⟨k1, v1⟩, hk1, hi1, h_1⟩ hq1
      have hm1 := (hq1.1 0 _ _ rfl)
      try dsimp only at hk1 hi1 h_1
      clear hq1
      cbv
      by_cases hc1_ : k1 < a0.length
      · have hb2 : lt v1 (llen (r_Item a0)) = true := ltL_true_Item hg ht hi1 hc1_
        have hs1 := stepL_Item hg ht hi1 hc1_ hm1
        obtain ⟨z1, hz1⟩ := some_of_lt hc1_
        rw [drop_of_some hz1] at h_1
        rw [L_items_l1] at h_1
        obtain ⟨z1_Id, z1_Dest⟩ := z1
        try rw [← hg] at h_1
        try rw [← ht] at h_1
        try dsimp only at h_1
        rw [hb2]
        cbv
        refine AStep.mk (nn_L hi1) ?_
        cbv
        refine AGet.mk _ (r_getL_Item hg ht hi1 hz1) ?_
        cbv
        refine AStep.mk (nn_L hi1) ?_
        cbv
        obtain ⟨x1, hx1, h_1⟩ := of_gt h_1
        obtain ⟨x1_Id, x1_Dest⟩ := x1
        try dsimp only at h_1
        refine AGet.mk _ (r_get_Item hg ht hx1) ?_
        cbv
        cases hb3 : (all [(eq z1_Id x1_Id), (eq z1_Dest x1_Dest)]) with
        | true =>
          rw [br_true hb3] at h_1
          cbv
          try rw [hg] at h_1
          try rw [ht] at h_1
          refine ⟨⟨(k1 + 1, (wrap .i64 (add v1 1))), hc1_, hs1, h_1⟩, Wk.of [] rfl rfl ?_ ?_, meas_L hc1_⟩
          · cbv
            all_goals exact ⟨⟨_, rfl, rfl⟩, ⟨_, rfl, rfl⟩, ⟨_, rfl, rfl⟩, trivial⟩
          · cbv
            all_goals exact trivial
        | false =>
          rw [br_false hb3] at h_1
          cbv
          obtain rfl := Option.some.inj h_1
          try dsimp only [lr, lrL, lrp, lrpL] at h
          obtain rfl := Option.some.inj h
          exact ARet.mk trivial hX.symm
      · have hb2 : lt v1 (llen (r_Item a0)) = false := ltL_false_Item hg ht hi1 hc1_
        rw [List.drop_of_length_le (Nat.le_of_not_lt hc1_)] at h_1
        rw [L_items_l1] at h_1
        try rw [← hg] at h_1
        try rw [← ht] at h_1
        try dsimp only at h_1
        rw [hb2]
        cbv
        refine ⟨(), Wk.of [] rfl rfl ?_ ?_, (Option.some.inj h_1).symm⟩
        · cbv
          all_goals exact trivial
        · cbv
          all_goals exact trivial
    · rintro _ hy1
      replace hy1 := hy1.symm
      subst hy1
      try dsimp only [lr, lrL, lrp, lrpL] at h
      cbv
      obtain rfl := Option.some.inj h
      exact ARet.mk trivial hX.symm
  | false =>
    rw [br_false hb1] at h
    cbv
    obtain rfl := Option.some.inj h
    exact ARet.mk trivial hX.symm
end Go.Vs
namespace Go.Vs
set_option maxRecDepth 100000
def ir39 : J :=
  .seq (.reg none [⟨(some 4), none, .mv (.k (V.i 0))⟩] [0, 1])
  (.seq (.seq (.reg none [⟨(some 5), none, .mv (.t 1)⟩,
      ⟨(some 6), none, .mv (.t 0)⟩,
      ⟨(some 7), none, .len false (.t 6)⟩,
      ⟨(some 8), none, .bin .geq .i (.t 5) (.t 7)⟩] [0, 1, 8])
   (.cond (.t 8)
    (.seq (.reg none [⟨(some 4), none, .mv (.k (V.i 0))⟩] [4])
     (.ret))
    (.skip)))
  (.seq (.reg none [⟨(some 9), none, .mv (.t 0)⟩,
     ⟨(some 10), none, .mv (.t 1)⟩,
     ⟨(some 11), none, .ia 1 (.t 9) (.t 10)⟩,
     ⟨(some 12), none, .ld false 1 (.t 11)⟩,
     ⟨(some 13), none, .cvt .i64 (.t 12)⟩,
     ⟨(some 4), none, .mv (.t 13)⟩] [4])
  (.ret)))
def rv39 : List RV := [.t 4]
open Go.Proofs Go.IntWalk
set_option linter.unusedVariables false
set_option maxRecDepth 100000
set_option maxHeartbeats 4000000
def L_at (g : G) (t : TE) (a0 : List Int) (a1 : Int) : Option Int :=
  br (g.le (g.llen (t.r_U8 a0)) a1)
  (
   some 0)
  (
   gd (((0 : Int) ≤ a1)) <|
   gt a0 (g.nat a1) fun x1 =>
   some (g.wrap .i64 x1))
theorem fit39 : codeFit Try.prog Try.f39.ntmps (Try.f39.body.getD .skip) ir39 = true := by kernel_rfl
theorem c_L_at {g : G} {t : TE} {a0 : List Int} {a1 : Int} {r : Int} (hg : g = G.real) (ht : t = TE.real) (h : L_at g t a0 a1 = some r) : Fn Try.prog 39 [.c (.s 1 (t.r_U8 a0)), .c (.v (.int .i64 a1))] (.c (.r (.v (.int .i64 r)))) := by
  obtain ⟨X, hX⟩ := hide (.c (.r (.v (.int .i64 r))) : X)
  rw [← hX]
  refine fn_of (rvs := rv39) (j := ir39) Try.func39 rfl fit39 (Nat.le_of_ble_eq_true rfl) (by kernel_rfl) prog_mixed ?_
  intro g2 F hg2 hF
  obtain rfl : g2 = g := hg2.unique.trans hg.symm
  clear hg2
  obtain ⟨wrap, lt, le, eq, quo, rem, band, bor, bxor, shl, shr, nat, int, add, sub, mul, cat, seq, slt, sub3, byte, llen, nadd, nsub, dlen, dapp, dset, drep, rd, rda, up, rsub, dsub, all, sle, slen, hasI, putI, hasS, putS, imin, imax, fzc⟩ := g2
  obtain ⟨r_Item, d_Item, r_Chute, d_Chute, r_Inlet, d_Inlet, r_I64, d_I64, r_U8, d_U8, d_InletF⟩ := t
  unfold L_at at h
  try dsimp only at h
  cbv
  cases hb1 : (le (llen (r_U8 a0)) a1) with
  | true =>
    rw [br_true hb1] at h
    cbv
    obtain rfl := Option.some.inj h
    exact ARet.mk trivial hX.symm
  | false =>
    rw [br_false hb1] at h
    cbv
    obtain ⟨hc1, h⟩ := of_gd h
    refine AStep.mk hc1 ?_
    cbv
    obtain ⟨x1, hx1, h⟩ := of_gt h
    try dsimp only at h
    refine AGet.mk _ (r_get_U8 hg ht hx1) ?_
    cbv
    obtain rfl := Option.some.inj h
    exact ARet.mk trivial hX.symm
end Go.Vs
namespace Go.Vs
set_option maxRecDepth 100000
def ir46 : J :=
  .seq (.reg none [⟨(some 10), none, .alloc [.n 2, .n 3, .n 2, .n 1, .r (.v (.int .i64 0))]⟩,
     ⟨(some 11), none, .mv (.k (V.b false))⟩] [0, 1, 2, 3, 4, 10])
  (.seq (.seq (.reg none [⟨(some 17), none, .mv (.t 0)⟩,
      ⟨(some 18), none, .call 89 true [(.t 17), (.k (V.i 2)), (.k (V.i 24))]⟩,
      ⟨(some 19), none, .not (.t 18)⟩] [0, 1, 2, 3, 4, 10, 19])
   (.cond (.t 19)
    (.seq (.reg none [⟨(some 20), none, .bld [.n 2, .n 3, .n 2, .n 1, .r (.v (.int .i64 0))] []⟩,
        ⟨none, none, .st 5 (.t 10) (.t 20)⟩,
        ⟨(some 11), none, .mv (.k (V.b false))⟩] [10, 11])
     (.ret))
    (.skip)))
  (.seq (.reg (some [[], [0], [], [], [2, 3], [0, 1, 2, 3, 4], [], [0, 1, 2, 3, 4, 5, 6]]) [⟨(some 21), none, .mv (.t 0)⟩,
     ⟨(some 22), none, .mk 2 16 [.r (.v (.int .i64 0)), .r (.v (.int .i64 0))] (.t 21)⟩,
     ⟨(some 23), none, .bsl 1 []⟩,
     ⟨(some 24), none, .mv (.t 4)⟩,
     ⟨(some 25), none, .app 1 8 false (.t 23) (.t 24)⟩,
     ⟨(some 26), none, .bld [.n 2, .n 3, .n 2, .n 1, .r (.v (.int .i64 0))] [(0, 1, (.t 22)), (3, 1, (.t 25))]⟩,
     ⟨(some 12), none, .alloc [.n 2, .n 3, .n 2, .n 1, .r (.v (.int .i64 0))]⟩,
     ⟨none, none, .st 5 (.t 12) (.t 26)⟩] [1, 2, 3, 10, 12])
  (.seq (.seq (.reg none [⟨(some 27), none, .mv (.t 1)⟩,
      ⟨(some 28), none, .len false (.t 27)⟩,
      ⟨(some 29), none, .mv (.k (V.i 0))⟩] [2, 3, 10, 12, 27, 28, 29])
   (.bl 0 (.seq (.reg none [⟨(some 30), none, .bin .lss .i (.t 29) (.t 28)⟩] [2, 3, 10, 12, 27, 28, 29, 30])
    (.seq (.cond (.t 30)
      (.skip)
      (.exit 0))
    (.seq (.block 1 (.seq (.reg none [⟨(some 31), none, .ia 1 (.t 27) (.t 29)⟩,
         ⟨(some 32), none, .ld false 1 (.t 31)⟩,
         ⟨(some 14), none, .mv (.t 32)⟩] [2, 3, 10, 12, 14, 27, 28, 29])
      (.reg none [⟨(some 33), none, .fa 1 (.t 12)⟩,
        ⟨(some 34), none, .ld false 1 (.t 33)⟩,
        ⟨(some 35), none, .mv (.t 14)⟩,
        ⟨(some 36), none, .mv (.t 2)⟩,
        ⟨(some 37), none, .bld [.r (.v (.int .i64 0)), .r (.v (.int .i64 0)), .n 2] [(0, 1, (.t 35)), (1, 1, (.t 36))]⟩,
        ⟨(some 38), none, .bsl 3 [(.t 37)]⟩,
        ⟨(some 39), none, .app 3 40 true (.t 34) (.t 38)⟩,
        ⟨(some 40), none, .fa 1 (.t 12)⟩,
        ⟨none, none, .st 1 (.t 40) (.t 39)⟩] [2, 3, 10, 12, 27, 28, 29])))
    (.reg none [⟨(some 41), none, .bin .add .i (.t 29) (.k (V.i 1))⟩,
      ⟨(some 29), none, .mv (.t 41)⟩] [2, 3, 10, 12, 27, 28, 29]))))))
  (.seq (.seq (.reg none [⟨(some 42), none, .mv (.t 3)⟩,
      ⟨(some 43), none, .len false (.t 42)⟩,
      ⟨(some 44), none, .mv (.k (V.i 0))⟩] [10, 12, 42, 43, 44])
   (.bl 2 (.seq (.reg none [⟨(some 45), none, .bin .lss .i (.t 44) (.t 43)⟩] [10, 12, 42, 43, 44, 45])
    (.seq (.cond (.t 45)
      (.skip)
      (.exit 2))
    (.seq (.block 3 (.seq (.reg none [⟨(some 46), none, .ia 1 (.t 42) (.t 44)⟩,
         ⟨(some 47), none, .ld false 1 (.t 46)⟩,
         ⟨(some 16), none, .mv (.t 47)⟩] [10, 12, 16, 42, 43, 44])
      (.reg none [⟨(some 48), none, .fa 2 (.t 12)⟩,
        ⟨(some 49), none, .ld false 1 (.t 48)⟩,
        ⟨(some 50), none, .mv (.t 16)⟩,
        ⟨(some 51), none, .bld [.r (.v (.int .i64 0)), .n 2] [(0, 1, (.t 50))]⟩,
        ⟨(some 52), none, .bsl 2 [(.t 51)]⟩,
        ⟨(some 53), none, .app 2 32 true (.t 49) (.t 52)⟩,
        ⟨(some 54), none, .fa 2 (.t 12)⟩,
        ⟨none, none, .st 1 (.t 54) (.t 53)⟩] [10, 12, 42, 43, 44])))
    (.reg none [⟨(some 55), none, .bin .add .i (.t 44) (.k (V.i 1))⟩,
      ⟨(some 44), none, .mv (.t 55)⟩] [10, 12, 42, 43, 44]))))))
  (.seq (.seq (.reg none [⟨(some 56), none, .ld true 5 (.t 12)⟩,
      ⟨(some 57), none, .call 32 true [(.t 56)]⟩,
      ⟨(some 58), none, .not (.t 57)⟩] [10, 12, 58])
   (.cond (.t 58)
    (.seq (.reg none [⟨(some 59), none, .bld [.n 2, .n 3, .n 2, .n 1, .r (.v (.int .i64 0))] []⟩,
        ⟨none, none, .st 5 (.t 10) (.t 59)⟩,
        ⟨(some 11), none, .mv (.k (V.b false))⟩] [10, 11])
     (.ret))
    (.skip)))
  (.seq (.reg none [⟨(some 60), none, .ld true 5 (.t 12)⟩,
     ⟨none, none, .st 5 (.t 10) (.t 60)⟩,
     ⟨(some 11), none, .mv (.k (V.b true))⟩] [10, 11])
  (.ret)))))))
def rv46 : List RV := [.c 10 true 5, .t 11]
open Go.Proofs Go.IntWalk
set_option linter.unusedVariables false
set_option maxRecDepth 100000
set_option maxHeartbeats 4000000
def I_NewCentre_l2 (g : G) (t : TE) : List Int → List Inlet → Option (List Inlet)
  | [], w2 =>
    some w2
  | z2 :: ls2, w2 =>
    lP ([(Inlet.mk z2 [])]) fun (l6 : List Inlet) =>
    gd (((w2.length + l6.length) * 32 ≤ 70368744177664)) <|
    lP (w2 ++ l6) fun (l7 : List Inlet) =>
    I_NewCentre_l2 g t ls2 l7
def I_NewCentre_l1 (g : G) (t : TE) (a2 : Int) : List Int → List Chute → Option (List Chute)
  | [], w1 =>
    some w1
  | z1 :: ls1, w1 =>
    lP ([(Chute.mk z1 a2 [])]) fun (l4 : List Chute) =>
    gd (((w1.length + l4.length) * 40 ≤ 70368744177664)) <|
    lP (w1 ++ l4) fun (l5 : List Chute) =>
    I_NewCentre_l1 g t a2 ls1 l5
def I_NewCentre (g : G) (t : TE) (a0 : Int) (a1 : List Int) (a2 : Int) (a3 : List Int) (a4 : List Int) : Option (Centre × Bool) :=
  lP (I_within g t a0 2 24) fun x1 =>
  br x1
  (
   gd (((0 : Int) ≤ a0 ∧ 16 * a0 ≤ 70368744177664 ∧ a0 ≤ 4611686018427387904)) <|
   lP (List.replicate (g.nat a0) (Item.mk 0 0)) fun (l1 : List Item) =>
   lP ([]) fun (l2 : List Int) =>
   gd (((l2.length + a4.length) * 8 ≤ 70368744177664)) <|
   lP (l2 ++ a4) fun (l3 : List Int) =>
   cl (I_NewCentre_l1 g t a2 a1 []) fun y1 =>
   cl (I_NewCentre_l2 g t a3 []) fun y2 =>
   cl (I_IsCentre g t (Centre.mk l1 y1 y2 l3 0)) fun x2 =>
   br x2
   (
    some (((Centre.mk l1 y1 y2 l3 0), true)))
   (
    some (((Centre.mk [] [] [] [] 0), false))))
  (
   some (((Centre.mk [] [] [] [] 0), false)))
theorem fit46 : codeFit Try.prog Try.f46.ntmps (Try.f46.body.getD .skip) ir46 = true := by kernel_rfl
theorem c_I_NewCentre {g : G} {t : TE} {a0 : Int} {a1 : List Int} {a2 : Int} {a3 : List Int} {a4 : List Int} {r : Centre × Bool} (hg : g = G.real) (ht : t = TE.real) (h : I_NewCentre g t a0 a1 a2 a3 a4 = some r) : Fn Try.prog 46 [.c (.v (.int .i64 a0)), .c (.s 1 (t.r_I64 a1)), .c (.v (.int .i64 a2)), .c (.s 1 (t.r_I64 a3)), .c (.s 1 (t.r_I64 a4))] (.u [.g (Centre.ds t r.1), .c (.r (.v (.bool r.2)))]) := by
  obtain ⟨X, hX⟩ := hide (.u [.g (Centre.ds t r.1), .c (.r (.v (.bool r.2)))] : X)
  rw [← hX]
  refine fn_of (rvs := rv46) (j := ir46) Try.func46 rfl fit46 (Nat.le_of_ble_eq_true rfl) (by kernel_rfl) prog_mixed ?_
  intro g2 F hg2 hF
  obtain rfl : g2 = g := hg2.unique.trans hg.symm
  clear hg2
  obtain ⟨wrap, lt, le, eq, quo, rem, band, bor, bxor, shl, shr, nat, int, add, sub, mul, cat, seq, slt, sub3, byte, llen, nadd, nsub, dlen, dapp, dset, drep, rd, rda, up, rsub, dsub, all, sle, slen, hasI, putI, hasS, putS, imin, imax, fzc⟩ := g2
  obtain ⟨r_Item, d_Item, r_Chute, d_Chute, r_Inlet, d_Inlet, r_I64, d_I64, r_U8, d_U8, d_InletF⟩ := t
  have hnil_Item : d_Item [] = [] := d_nil_Item ht
  have hnil_Chute : d_Chute [] = [] := d_nil_Chute ht
  have hnil_Inlet : d_Inlet [] = [] := d_nil_Inlet ht
  have hnil_I64 : d_I64 [] = [] := d_nil_I64 ht
  have hnil_U8 : d_U8 [] = [] := d_nil_U8 ht
  unfold I_NewCentre at h
  try dsimp only at h
  cbv
  obtain ⟨x1, hx1, h⟩ := of_lP h
  try dsimp only at h
  refine ACall.mk _ _ rfl (hF _ _ _ (c_I_within hg ht hx1)) (.inl rfl) (Nat.le_of_ble_eq_true rfl) ?_
  cbv
  cases hb1 : x1 with
  | true =>
    rw [br_true hb1] at h
    cbv
    obtain ⟨hc4, h⟩ := of_gd h
    refine AStep.mk (mk_ok hc4) ?_
    cbv
    obtain ⟨l1, hl1, h⟩ := of_lP h
    try dsimp only at h
    refine ANew.mk (d_Item l1) (dlen (d_Item l1)) (by rw [← hl1]; exact drep_Item hg ht _ (Item.mk 0 0)) (by rw [← hl1]; exact drepn_Item hg ht _ (Item.mk 0 0)) ?_
    cbv
    obtain ⟨l2, hl2, h⟩ := of_lP h
    try dsimp only at h
    refine ANew.mk (d_I64 l2) (dlen (d_I64 l2)) (by rw [← hl2]; exact lit_I64 hg ht []) (by rw [← hl2]; exact litn_I64 hg ht []) ?_
    cbv
    obtain ⟨hc3, h⟩ := of_gd h
    refine AStep.mk (app_ok_I64 hg ht (dlen_I64 hg ht _) (up_I64 hg ht _) hc3) ?_
    cbv
    obtain ⟨l3, hl3, h⟩ := of_lP h
    try dsimp only at h
    refine ANew.mk (d_I64 l3) (dlen (d_I64 l3)) (by rw [← hl3]; exact app_I64 hg ht (dlen_I64 hg ht _) (up_I64 hg ht _)) (by rw [← hl3]; exact appl_I64 hg ht (dlen_I64 hg ht _) (up_I64 hg ht _)) ?_
    cbv
    obtain ⟨o1, ho1, h⟩ := of_cl h
    try dsimp only at h
    try rw [hg] at ho1
    try rw [ht] at ho1
    refine ABL.mk { p : Nat × Int × List Chute // p.1 ≤ a1.length ∧ p.2.1 = ((p.1 : Nat) : Int) ∧ I_NewCentre_l1 G.real TE.real a2 (List.drop p.1 a1) p.2.2 = some o1 } (fun ⟨⟨k1, v1, w1⟩, _⟩ => ({ sl := [(2, .c (.r (.v (.int .i64 a2)))), (3, .c (.r (.s 1 (r_I64 a3)))), (10, .c (.p 0 5 0 0)), (12, .c (.p 1 5 0 0)), (27, .c (.r (.s 1 (r_I64 a1)))), (28, .c (.r (.v (.int .i64 (llen (r_I64 a1)))))), (29, .c (.r (.v (.int .i64 v1))))], tab := [(0, some (.foc 5 [] [.n 2, .n 3, .n 2, .n 1, .r (.v (.int .i64 0))] [])), (1, some (.foc 5 [] [.f 2 2 0 (dlen (d_Item l1)), .f 3 3 0 (dlen (d_Chute w1)), .n 2, .f 4 1 0 (dlen (d_I64 l3)), .r (.v (.int .i64 0))] [])), (2, some (.arr 2 (d_Item l1))), (3, some (.arr 3 (d_Chute w1))), (4, some (.arr 1 (d_I64 l3)))] } : St)) 5 (fun p => a1.length - p.1.1) ⟨(0, 0, []), Nat.zero_le _, rfl, ho1⟩ (List Chute) (fun y1 => ({ sl := [(3, .c (.r (.s 1 (r_I64 a3)))), (10, .c (.p 0 5 0 0)), (12, .c (.p 1 5 0 0))], tab := [(0, some (.foc 5 [] [.n 2, .n 3, .n 2, .n 1, .r (.v (.int .i64 0))] [])), (1, some (.foc 5 [] [.f 2 2 0 (dlen (d_Item l1)), .f 3 3 0 (dlen (d_Chute y1)), .n 2, .f 4 1 0 (dlen (d_I64 l3)), .r (.v (.int .i64 0))] [])), (2, some (.arr 2 (d_Item l1))), (3, some (.arr 3 (d_Chute y1))), (4, some (.arr 1 (d_I64 l3)))] } : St)) 5 (fun y => o1 = y) ?_ ?_ ?_
    · refine Wk.of [(0, some 0), (1, some 176), (2, some 96), (3, none), (4, some 144)] rfl rfl ?_ ?_
      · cbv
        all_goals try rw [show dlen (d_Chute []) = 0 from dlen_nil_Chute hg ht]
        all_goals try rw [hnil_Chute]
        all_goals exact ⟨⟨_, rfl, rfl⟩, ⟨_, rfl, rfl⟩, ⟨_, rfl, rfl⟩, ⟨_, rfl, rfl⟩, ⟨_, rfl, rfl⟩, ⟨_, rfl, rfl⟩, ⟨_, rfl, rfl⟩, trivial⟩
      · cbv
        all_goals try rw [show dlen (d_Chute []) = 0 from dlen_nil_Chute hg ht]
        all_goals try rw [hnil_Chute]
        all_goals exact ⟨⟨_, rfl, _, rfl, rfl, rfl, rfl, rfl, rfl, trivial⟩, ⟨_, rfl, _, rfl, rfl, ⟨⟨_, rfl⟩, rfl, rfl⟩, rfl, rfl, rfl, trivial⟩, ⟨_, rfl, rfl⟩, ⟨_, rfl⟩, ⟨_, rfl, rfl⟩, trivial⟩
    · rintro ⟨⟨k1, v1, w1⟩, hk1, hi1, h_1⟩ hq1
      have hm1 := (hq1.1 27 _ _ rfl)
      try dsimp only at hk1 hi1 h_1
      clear hq1
      cbv
      by_cases hc1_ : k1 < a1.length
      · have hb2 : lt v1 (llen (r_I64 a1)) = true := ltL_true_I64 hg ht hi1 hc1_
        have hs1 := stepL_I64 hg ht hi1 hc1_ hm1
        obtain ⟨z1, hz1⟩ := some_of_lt hc1_
        rw [drop_of_some hz1] at h_1
        rw [I_NewCentre_l1] at h_1
        try rw [← hg] at h_1
        try rw [← ht] at h_1
        try dsimp only at h_1
        rw [hb2]
        cbv
        refine AStep.mk (nn_L hi1) ?_
        cbv
        refine AGet.mk _ (r_getL_I64 hg ht hi1 hz1) ?_
        cbv
        obtain ⟨l4, hl4, h_1⟩ := of_lP h_1
        try dsimp only at h_1
        refine ANew.mk (d_Chute l4) (dlen (d_Chute l4)) (by rw [← hl4]; have e := lit_Chute hg ht [(Chute.mk z1 a2 [])]; dsimp only [List.map, Chute.ds] at e; (try simp only [hnil_Item, hnil_Chute, hnil_Inlet, hnil_I64, hnil_U8] at e); exact e) (by rw [← hl4]; exact litn_Chute hg ht [(Chute.mk z1 a2 [])]) ?_
        cbv
        obtain ⟨hc1, h_1⟩ := of_gd h_1
        refine AStep.mk ⟨⟨rfl, (dlen_Chute hg ht _)⟩, (app_ok_Chute hg ht (dlen_Chute hg ht _) rfl hc1)⟩ ?_
        cbv
        obtain ⟨l5, hl5, h_1⟩ := of_lP h_1
        try dsimp only at h_1
        refine ANew.mk (d_Chute l5) (dlen (d_Chute l5)) (by rw [← hl5]; exact app_Chute hg ht (dlen_Chute hg ht _) rfl) (by rw [← hl5]; exact appl_Chute hg ht (dlen_Chute hg ht _) rfl) ?_
        cbv
        try rw [hg] at h_1
        try rw [ht] at h_1
        refine ⟨⟨(k1 + 1, (wrap .i64 (add v1 1)), l5), hc1_, hs1, h_1⟩, Wk.of [(0, some 0), (1, some 1), (2, some 2), (3, some 165), (4, some 4)] rfl rfl ?_ ?_, meas_L hc1_⟩
        · cbv
          all_goals exact ⟨⟨_, rfl, rfl⟩, ⟨_, rfl, rfl⟩, ⟨_, rfl, rfl⟩, ⟨_, rfl, rfl⟩, ⟨_, rfl, rfl⟩, ⟨_, rfl, rfl⟩, ⟨_, rfl, rfl⟩, trivial⟩
        · cbv
          all_goals exact ⟨⟨_, rfl, _, rfl, rfl, rfl, rfl, rfl, rfl, trivial⟩, ⟨_, rfl, _, rfl, rfl, rfl, rfl, rfl, rfl, trivial⟩, ⟨_, rfl, rfl⟩, ⟨_, rfl, rfl⟩, ⟨_, rfl, rfl⟩, trivial⟩
      · have hb2 : lt v1 (llen (r_I64 a1)) = false := ltL_false_I64 hg ht hi1 hc1_
        rw [List.drop_of_length_le (Nat.le_of_not_lt hc1_)] at h_1
        rw [I_NewCentre_l1] at h_1
        try rw [← hg] at h_1
        try rw [← ht] at h_1
        try dsimp only at h_1
        rw [hb2]
        cbv
        refine ⟨w1, Wk.of [(0, some 0), (1, some 1), (2, some 2), (3, some 3), (4, some 4)] rfl rfl ?_ ?_, (Option.some.inj h_1).symm⟩
        · cbv
          all_goals exact ⟨⟨_, rfl, rfl⟩, ⟨_, rfl, rfl⟩, ⟨_, rfl, rfl⟩, trivial⟩
        · cbv
          all_goals exact ⟨⟨_, rfl, _, rfl, rfl, rfl, rfl, rfl, rfl, trivial⟩, ⟨_, rfl, _, rfl, rfl, rfl, rfl, rfl, rfl, trivial⟩, ⟨_, rfl, rfl⟩, ⟨_, rfl, rfl⟩, ⟨_, rfl, rfl⟩, trivial⟩
    · rintro y1 hy1
      replace hy1 := hy1.symm
      subst hy1
      try dsimp only [lr, lrL, lrp, lrpL] at h
      cbv
      obtain ⟨o2, ho2, h⟩ := of_cl h
      try dsimp only at h
      try rw [hg] at ho2
      try rw [ht] at ho2
      refine ABL.mk { p : Nat × Int × List Inlet // p.1 ≤ a3.length ∧ p.2.1 = ((p.1 : Nat) : Int) ∧ I_NewCentre_l2 G.real TE.real (List.drop p.1 a3) p.2.2 = some o2 } (fun ⟨⟨k2, v2, w2⟩, _⟩ => ({ sl := [(10, .c (.p 0 5 0 0)), (12, .c (.p 1 5 0 0)), (42, .c (.r (.s 1 (r_I64 a3)))), (43, .c (.r (.v (.int .i64 (llen (r_I64 a3)))))), (44, .c (.r (.v (.int .i64 v2))))], tab := [(0, some (.foc 5 [] [.n 2, .n 3, .n 2, .n 1, .r (.v (.int .i64 0))] [])), (1, some (.foc 5 [] [.f 2 2 0 (dlen (d_Item l1)), .f 3 3 0 (dlen (d_Chute y1)), .f 4 2 0 (dlen (d_Inlet w2)), .f 5 1 0 (dlen (d_I64 l3)), .r (.v (.int .i64 0))] [])), (2, some (.arr 2 (d_Item l1))), (3, some (.arr 3 (d_Chute y1))), (4, some (.arr 2 (d_Inlet w2))), (5, some (.arr 1 (d_I64 l3)))] } : St)) 6 (fun p => a3.length - p.1.1) ⟨(0, 0, []), Nat.zero_le _, rfl, ho2⟩ (List Inlet) (fun y2 => ({ sl := [(10, .c (.p 0 5 0 0)), (12, .c (.p 1 5 0 0))], tab := [(0, some (.foc 5 [] [.n 2, .n 3, .n 2, .n 1, .r (.v (.int .i64 0))] [])), (1, some (.foc 5 [] [.f 2 2 0 (dlen (d_Item l1)), .f 3 3 0 (dlen (d_Chute y1)), .f 4 2 0 (dlen (d_Inlet y2)), .f 5 1 0 (dlen (d_I64 l3)), .r (.v (.int .i64 0))] [])), (2, some (.arr 2 (d_Item l1))), (3, some (.arr 3 (d_Chute y1))), (4, some (.arr 2 (d_Inlet y2))), (5, some (.arr 1 (d_I64 l3)))] } : St)) 6 (fun y => o2 = y) ?_ ?_ ?_
      · refine Wk.of [(0, some 0), (1, some 1), (2, some 2), (3, some 3), (4, none), (5, some 4)] rfl rfl ?_ ?_
        · cbv
          all_goals try rw [show dlen (d_Inlet []) = 0 from dlen_nil_Inlet hg ht]
          all_goals try rw [hnil_Inlet]
          all_goals exact ⟨⟨_, rfl, rfl⟩, ⟨_, rfl, rfl⟩, ⟨_, rfl, rfl⟩, ⟨_, rfl, rfl⟩, ⟨_, rfl, rfl⟩, trivial⟩
        · cbv
          all_goals try rw [show dlen (d_Inlet []) = 0 from dlen_nil_Inlet hg ht]
          all_goals try rw [hnil_Inlet]
          all_goals exact ⟨⟨_, rfl, _, rfl, rfl, rfl, rfl, rfl, rfl, trivial⟩, ⟨_, rfl, _, rfl, rfl, rfl, ⟨⟨_, rfl⟩, rfl, rfl⟩, rfl, rfl, trivial⟩, ⟨_, rfl, rfl⟩, ⟨_, rfl, rfl⟩, ⟨_, rfl⟩, ⟨_, rfl, rfl⟩, trivial⟩
      · rintro ⟨⟨k2, v2, w2⟩, hk2, hi2, h_2⟩ hq2
        have hm2 := (hq2.1 42 _ _ rfl)
        try dsimp only at hk2 hi2 h_2
        clear hq2
        cbv
        by_cases hc2_ : k2 < a3.length
        · have hb3 : lt v2 (llen (r_I64 a3)) = true := ltL_true_I64 hg ht hi2 hc2_
          have hs2 := stepL_I64 hg ht hi2 hc2_ hm2
          obtain ⟨z2, hz2⟩ := some_of_lt hc2_
          rw [drop_of_some hz2] at h_2
          rw [I_NewCentre_l2] at h_2
          try rw [← hg] at h_2
          try rw [← ht] at h_2
          try dsimp only at h_2
          rw [hb3]
          cbv
          refine AStep.mk (nn_L hi2) ?_
          cbv
          refine AGet.mk _ (r_getL_I64 hg ht hi2 hz2) ?_
          cbv
          obtain ⟨l6, hl6, h_2⟩ := of_lP h_2
          try dsimp only at h_2
          refine ANew.mk (d_Inlet l6) (dlen (d_Inlet l6)) (by rw [← hl6]; have e := lit_Inlet hg ht [(Inlet.mk z2 [])]; dsimp only [List.map, Inlet.ds] at e; (try simp only [hnil_Item, hnil_Chute, hnil_Inlet, hnil_I64, hnil_U8] at e); exact e) (by rw [← hl6]; exact litn_Inlet hg ht [(Inlet.mk z2 [])]) ?_
          cbv
          obtain ⟨hc2, h_2⟩ := of_gd h_2
          refine AStep.mk ⟨⟨rfl, (dlen_Inlet hg ht _)⟩, (app_ok_Inlet hg ht (dlen_Inlet hg ht _) rfl hc2)⟩ ?_
          cbv
          obtain ⟨l7, hl7, h_2⟩ := of_lP h_2
          try dsimp only at h_2
          refine ANew.mk (d_Inlet l7) (dlen (d_Inlet l7)) (by rw [← hl7]; exact app_Inlet hg ht (dlen_Inlet hg ht _) rfl) (by rw [← hl7]; exact appl_Inlet hg ht (dlen_Inlet hg ht _) rfl) ?_
          cbv
          try rw [hg] at h_2
          try rw [ht] at h_2
          refine ⟨⟨(k2 + 1, (wrap .i64 (add v2 1)), l7), hc2_, hs2, h_2⟩, Wk.of [(0, some 0), (1, some 1), (2, some 2), (3, some 3), (4, some 150), (5, some 5)] rfl rfl ?_ ?_, meas_L hc2_⟩
          · cbv
            all_goals exact ⟨⟨_, rfl, rfl⟩, ⟨_, rfl, rfl⟩, ⟨_, rfl, rfl⟩, ⟨_, rfl, rfl⟩, ⟨_, rfl, rfl⟩, trivial⟩
          · cbv
            all_goals exact ⟨⟨_, rfl, _, rfl, rfl, rfl, rfl, rfl, rfl, trivial⟩, ⟨_, rfl, _, rfl, rfl, rfl, rfl, rfl, rfl, trivial⟩, ⟨_, rfl, rfl⟩, ⟨_, rfl, rfl⟩, ⟨_, rfl, rfl⟩, ⟨_, rfl, rfl⟩, trivial⟩
        · have hb3 : lt v2 (llen (r_I64 a3)) = false := ltL_false_I64 hg ht hi2 hc2_
          rw [List.drop_of_length_le (Nat.le_of_not_lt hc2_)] at h_2
          rw [I_NewCentre_l2] at h_2
          try rw [← hg] at h_2
          try rw [← ht] at h_2
          try dsimp only at h_2
          rw [hb3]
          cbv
          refine ⟨w2, Wk.of [(0, some 0), (1, some 1), (2, some 2), (3, some 3), (4, some 4), (5, some 5)] rfl rfl ?_ ?_, (Option.some.inj h_2).symm⟩
          · cbv
            all_goals exact ⟨⟨_, rfl, rfl⟩, ⟨_, rfl, rfl⟩, trivial⟩
          · cbv
            all_goals exact ⟨⟨_, rfl, _, rfl, rfl, rfl, rfl, rfl, rfl, trivial⟩, ⟨_, rfl, _, rfl, rfl, rfl, rfl, rfl, rfl, trivial⟩, ⟨_, rfl, rfl⟩, ⟨_, rfl, rfl⟩, ⟨_, rfl, rfl⟩, ⟨_, rfl, rfl⟩, trivial⟩
      · rintro y2 hy2
        replace hy2 := hy2.symm
        subst hy2
        try dsimp only [lr, lrL, lrp, lrpL] at h
        cbv
        refine AStep.mk ⟨(lend_Item ht (dlen_Item hg ht _)), ⟨(lend_Chute ht (dlen_Chute hg ht _)), ⟨(lend_Inlet ht (dlen_Inlet hg ht _)), (lend_I64 ht (dlen_I64 hg ht _))⟩⟩⟩ ?_
        cbv
        obtain ⟨x2, hx2, h⟩ := of_cl h
        try dsimp only at h
        refine ACall.mk _ _ (by rw [show rd (d_Item l1) 0 (dlen (d_Item l1)) = r_Item l1 from rdw_Item hg ht (dlen_Item hg ht _), show rd (d_Chute y1) 0 (dlen (d_Chute y1)) = r_Chute y1 from rdw_Chute hg ht (dlen_Chute hg ht _), show rd (d_Inlet y2) 0 (dlen (d_Inlet y2)) = r_Inlet y2 from rdw_Inlet hg ht (dlen_Inlet hg ht _), show rd (d_I64 l3) 0 (dlen (d_I64 l3)) = r_I64 l3 from rdw_I64 hg ht (dlen_I64 hg ht _)]; try rfl) (hF _ _ _ (c_I_IsCentre hg ht hx2)) (.inr rfl) (Nat.le_of_ble_eq_true rfl) ?_
        cbv
        cases hb4 : x2 with
        | true =>
          rw [br_true hb4] at h
          cbv
          obtain rfl := Option.some.inj h
          exact ARet.mk ⟨⟨rfl, (dlen_Item hg ht _)⟩, ⟨⟨rfl, (dlen_Chute hg ht _)⟩, ⟨⟨rfl, (dlen_Inlet hg ht _)⟩, ⟨rfl, (dlen_I64 hg ht _)⟩⟩⟩⟩ hX.symm
        | false =>
          rw [br_false hb4] at h
          cbv
          obtain rfl := Option.some.inj h
          exact ARet.mk trivial (by rw [hX]; first | rfl | (simp only [Item.ds, Inlet.ds, Chute.ds, Centre.ds, Cur.ds, CentreF.ds, InletF.ds, hnil_Chute, hnil_I64, hnil_Inlet, hnil_Item]; try rfl))
  | false =>
    rw [br_false hb1] at h
    cbv
    obtain rfl := Option.some.inj h
    exact ARet.mk trivial (by rw [hX]; first | rfl | (simp only [Item.ds, Inlet.ds, Chute.ds, Centre.ds, Cur.ds, CentreF.ds, InletF.ds, hnil_Chute, hnil_I64, hnil_Inlet, hnil_Item]; try rfl))
end Go.Vs
namespace Go.Vs
set_option maxRecDepth 100000
def ir71 : J :=
  .seq (.reg none [⟨(some 3), none, .box (.t 0)⟩,
     ⟨(some 5), none, .box (.t 2)⟩,
     ⟨(some 6), none, .alloc [.n 2, .n 3, .n 2, .n 1, .r (.v (.int .i64 0))]⟩,
     ⟨(some 7), none, .mv (.k (V.b false))⟩] [1, 3, 5, 6])
  (.seq (.reg none [⟨(some 9), none, .ld true 5 (.t 3)⟩,
     ⟨(some 10), none, .call 94 true [(.t 9)]⟩,
     ⟨(some 8), none, .alloc [.n 2, .n 3, .n 2, .n 1, .r (.v (.int .i64 0))]⟩,
     ⟨none, none, .st 5 (.t 8) (.t 10)⟩] [1, 3, 5, 6, 8])
  (.seq (.seq (.reg none [⟨(some 11), none, .ld true 5 (.t 3)⟩,
      ⟨(some 12), none, .call 32 true [(.t 11)]⟩,
      ⟨(some 13), none, .not (.t 12)⟩,
      ⟨(some 14), none, .mv (.t 13)⟩,
      ⟨(some 15), (some (14, false)), .mv (.t 1)⟩,
      ⟨(some 16), (some (14, false)), .bin .lss .i (.t 15) (.k (V.i 0))⟩,
      ⟨(some 17), none, .pick (.t 14) (.k (V.b true)) (.t 16)⟩,
      ⟨(some 18), none, .mv (.t 17)⟩,
      ⟨(some 19), (some (18, false)), .mv (.t 1)⟩,
      ⟨(some 20), (some (18, false)), .fa 2 (.t 3)⟩,
      ⟨(some 21), (some (18, false)), .ld false 1 (.t 20)⟩,
      ⟨(some 22), (some (18, false)), .len false (.t 21)⟩,
      ⟨(some 23), (some (18, false)), .bin .geq .i (.t 19) (.t 22)⟩,
      ⟨(some 24), none, .pick (.t 18) (.k (V.b true)) (.t 23)⟩] [1, 3, 5, 6, 8, 24])
   (.cond (.t 24)
    (.seq (.reg none [⟨(some 25), none, .ld true 5 (.t 8)⟩,
        ⟨none, none, .st 5 (.t 6) (.t 25)⟩,
        ⟨(some 7), none, .mv (.k (V.b false))⟩] [6, 7])
     (.ret))
    (.skip)))
  (.seq (.gh (.ga (.reg (some [[], [0], [], [], [3], [], [3, 4, 5], [3, 4, 5, 6], [3, 4, 5, 6, 7], [], [9], [3, 4, 5, 6, 7, 8, 9, 10], [0, 1, 2, 3, 4, 5, 6, 7, 8, 9, 10, 11], [0, 1, 2, 3, 4, 5, 6, 7, 8, 9, 10, 11, 12], [0, 1, 2, 3, 4, 5, 6, 7, 8, 9, 10, 11, 12, 13]]) [⟨(some 26), none, .fa 2 (.t 8)⟩,
      ⟨(some 27), none, .ld false 1 (.t 26)⟩,
      ⟨(some 28), none, .mv (.t 1)⟩,
      ⟨(some 29), none, .fa 2 (.t 8)⟩,
      ⟨(some 30), none, .ld false 1 (.t 29)⟩,
      ⟨(some 31), none, .mv (.t 1)⟩,
      ⟨(some 32), none, .ia 2 (.t 30) (.t 31)⟩,
      ⟨(some 33), none, .fa 1 (.t 32)⟩,
      ⟨(some 34), none, .ld false 1 (.t 33)⟩,
      ⟨(some 35), none, .ld true 2 (.t 5)⟩,
      ⟨(some 36), none, .bsl 2 [(.t 35)]⟩,
      ⟨(some 37), none, .app 2 16 true (.t 34) (.t 36)⟩,
      ⟨(some 38), none, .ia 2 (.t 27) (.t 28)⟩,
      ⟨(some 39), none, .fa 1 (.t 38)⟩,
      ⟨none, none, .st 1 (.t 39) (.t 37)⟩] [3, 6, 8])))
  (.seq (.seq (.reg none [⟨(some 40), none, .ld true 5 (.t 8)⟩,
      ⟨(some 41), none, .call 32 true [(.t 40)]⟩,
      ⟨(some 42), none, .not (.t 41)⟩] [3, 6, 8, 42])
   (.cond (.t 42)
    (.seq (.reg none [⟨(some 43), none, .ld true 5 (.t 3)⟩,
        ⟨(some 44), none, .call 94 true [(.t 43)]⟩,
        ⟨none, none, .st 5 (.t 6) (.t 44)⟩,
        ⟨(some 7), none, .mv (.k (V.b false))⟩] [6, 7])
     (.ret))
    (.skip)))
  (.seq (.reg none [⟨(some 45), none, .ld true 5 (.t 8)⟩,
     ⟨none, none, .st 5 (.t 6) (.t 45)⟩,
     ⟨(some 7), none, .mv (.k (V.b true))⟩] [6, 7])
  (.ret))))))
def rv71 : List RV := [.c 6 true 5, .t 7]
open Go.Proofs Go.IntWalk
set_option linter.unusedVariables false
set_option maxRecDepth 100000
set_option maxHeartbeats 4000000
def I_FeedCentre (g : G) (t : TE) (a0 : Centre) (a1 : Int) (a2 : Item) : Option (Centre × Bool) :=
  cl (I_copyCentre g t a0) fun x1 =>
  cl (I_IsCentre g t a0) fun x2 =>
  br x2
  (
   br (g.lt a1 0)
   (
    some ((x1, false)))
   (
    br (g.le (g.llen (t.r_Inlet a0.Inlets)) a1)
    (
     some ((x1, false)))
    (
     gt x1.Inlets (g.nat a1) fun x3 =>
     gd (((0 : Int) ≤ a1 ∧ a1 < (((g.dlen (t.d_Inlet x1.Inlets)) : Nat) : Int))) <|
     lP ([a2]) fun (l1 : List Item) =>
     gd (((x3.Wait.length + l1.length) * 16 ≤ 70368744177664)) <|
     lP (x3.Wait ++ l1) fun (l2 : List Item) =>
     gd (((0 : Int) ≤ a1 ∧ a1 < (((g.dlen (t.d_Inlet x1.Inlets)) : Nat) : Int))) <|
     lP (List.set x1.Inlets (g.nat a1) (Inlet.mk x3.Cell l2)) fun (l3 : List Inlet) =>
     cl (I_IsCentre g t (Centre.mk x1.Belt x1.Chutes l3 x1.Plan x1.Now)) fun x4 =>
     br x4
     (
      some (((Centre.mk x1.Belt x1.Chutes l3 x1.Plan x1.Now), true)))
     (
      cl (I_copyCentre g t a0) fun x5 =>
      some ((x5, false))))))
  (
   some ((x1, false)))
theorem fit71 : codeFit Try.prog Try.f71.ntmps (Try.f71.body.getD .skip) ir71 = true := by kernel_rfl
theorem c_I_FeedCentre {g : G} {t : TE} {a0 : Centre} {a1 : Int} {a2 : Item} {r : Centre × Bool} (hg : g = G.real) (ht : t = TE.real) (h : I_FeedCentre g t a0 a1 a2 = some r) : Fn Try.prog 71 [.g (Centre.rs t a0), .c (.v (.int .i64 a1)), .g (Item.rs t a2)] (.u [.g (Centre.ds t r.1), .c (.r (.v (.bool r.2)))]) := by
  obtain ⟨X, hX⟩ := hide (.u [.g (Centre.ds t r.1), .c (.r (.v (.bool r.2)))] : X)
  rw [← hX]
  refine fn_of (rvs := rv71) (j := ir71) Try.func71 rfl fit71 (Nat.le_of_ble_eq_true rfl) (by kernel_rfl) prog_mixed ?_
  intro g2 F hg2 hF
  obtain rfl : g2 = g := hg2.unique.trans hg.symm
  clear hg2
  obtain ⟨wrap, lt, le, eq, quo, rem, band, bor, bxor, shl, shr, nat, int, add, sub, mul, cat, seq, slt, sub3, byte, llen, nadd, nsub, dlen, dapp, dset, drep, rd, rda, up, rsub, dsub, all, sle, slen, hasI, putI, hasS, putS, imin, imax, fzc⟩ := g2
  obtain ⟨r_Item, d_Item, r_Chute, d_Chute, r_Inlet, d_Inlet, r_I64, d_I64, r_U8, d_U8, d_InletF⟩ := t
  obtain ⟨a0_Belt, a0_Chutes, a0_Inlets, a0_Plan, a0_Now⟩ := a0
  obtain ⟨a2_Id, a2_Dest⟩ := a2
  unfold I_FeedCentre at h
  try dsimp only at h
  cbv
  obtain ⟨x1, hx1, h⟩ := of_cl h
  obtain ⟨x1_Belt, x1_Chutes, x1_Inlets, x1_Plan, x1_Now⟩ := x1
  try dsimp only at h
  refine ACall.mk _ _ rfl (hF _ _ _ (c_I_copyCentre hg ht hx1)) (.inl rfl) (Nat.le_of_ble_eq_true rfl) ?_
  cbv
  obtain ⟨x2, hx2, h⟩ := of_cl h
  try dsimp only at h
  refine ACall.mk _ _ rfl (hF _ _ _ (c_I_IsCentre hg ht hx2)) (.inl rfl) (Nat.le_of_ble_eq_true rfl) ?_
  cbv
  cases hb1 : x2 with
  | true =>
    rw [br_true hb1] at h
    cbv
    try (rw [hb1]; cbv)
    try (rw [hb1]; cbv)
    cases hb2 : (lt a1 0) with
    | true =>
      rw [br_true hb2] at h
      cbv
      try (rw [hb2]; cbv)
      try (rw [hb2]; cbv)
      try (rw [hb2]; cbv)
      try (rw [hb2]; cbv)
      try (rw [hb2]; cbv)
      obtain rfl := Option.some.inj h
      exact ARet.mk ⟨⟨rfl, (dlen_Item hg ht _)⟩, ⟨⟨rfl, (dlen_Chute hg ht _)⟩, ⟨⟨rfl, (dlen_Inlet hg ht _)⟩, ⟨rfl, (dlen_I64 hg ht _)⟩⟩⟩⟩ hX.symm
    | false =>
      rw [br_false hb2] at h
      cbv
      try (rw [hb2]; cbv)
      try (rw [hb2]; cbv)
      try (rw [hb2]; cbv)
      try (rw [hb2]; cbv)
      try (rw [hb2]; cbv)
      cases hb3 : (le (llen (r_Inlet a0_Inlets)) a1) with
      | true =>
        rw [br_true hb3] at h
        cbv
        obtain rfl := Option.some.inj h
        exact ARet.mk ⟨⟨rfl, (dlen_Item hg ht _)⟩, ⟨⟨rfl, (dlen_Chute hg ht _)⟩, ⟨⟨rfl, (dlen_Inlet hg ht _)⟩, ⟨rfl, (dlen_I64 hg ht _)⟩⟩⟩⟩ hX.symm
      | false =>
        rw [br_false hb3] at h
        cbv
        obtain ⟨x3, hx3, h⟩ := of_gt h
        obtain ⟨x3_Cell, x3_Wait⟩ := x3
        try dsimp only at h
        refine AGh.opn 82 2 (nat a1) (d_Inlet x1_Inlets) _ rfl (d_get_Inlet hg ht hx3) rfl ?_
        cbv
        refine AGh.nil ?_
        cbv
        obtain ⟨hc1, h⟩ := of_gd h
        refine AStep.mk hc1 ?_
        cbv
        refine AStep.mk rfl ?_
        cbv
        obtain ⟨l1, hl1, h⟩ := of_lP h
        try dsimp only at h
        refine ANew.mk (d_Item l1) (dlen (d_Item l1)) (by rw [← hl1]; exact lit_Item hg ht [(Item.mk a2_Id a2_Dest)]) (by rw [← hl1]; exact litn_Item hg ht [(Item.mk a2_Id a2_Dest)]) ?_
        cbv
        obtain ⟨hc3, h⟩ := of_gd h
        refine AStep.mk ⟨⟨rfl, (dlen_Item hg ht _)⟩, (app_ok_Item hg ht (dlen_Item hg ht _) rfl hc3)⟩ ?_
        cbv
        obtain ⟨l2, hl2, h⟩ := of_lP h
        try dsimp only at h
        refine ANew.mk (d_Item l2) (dlen (d_Item l2)) (by rw [← hl2]; exact app_Item hg ht (dlen_Item hg ht _) rfl) (by rw [← hl2]; exact appl_Item hg ht (dlen_Item hg ht _) rfl) ?_
        cbv
        obtain ⟨hc2, h⟩ := of_gd h
        refine AStep.mk hc2 ?_
        cbv
        refine AStep.mk rfl ?_
        cbv
        obtain ⟨l3, hl3, h⟩ := of_lP h
        try dsimp only at h
        refine AGh.cls 82 2 (nat a1) (d_Inlet x1_Inlets) _ _ _ _ (d_Inlet l3) rfl rfl ⟨rfl, (dlen_Item hg ht _)⟩ (by rw [← hl3]; exact dset_Inlet hg ht _ _ (Inlet.mk x3_Cell l2)) ?_
        have hnl3 : (dlen (d_Inlet x1_Inlets)) = (d_Inlet l3).length := (by rw [← hl3, dsetl_Inlet ht]; exact (dlen_Inlet hg ht _))
        cbv
        refine AGh.nil ?_
        cbv
        refine AStep.mk ⟨(lend_Item ht (dlen_Item hg ht _)), ⟨(lend_Chute ht (dlen_Chute hg ht _)), ⟨(lend_Inlet ht hnl3), (lend_I64 ht (dlen_I64 hg ht _))⟩⟩⟩ ?_
        cbv
        obtain ⟨x4, hx4, h⟩ := of_cl h
        try dsimp only at h
        refine ACall.mk _ _ (by rw [show rd (d_Item x1_Belt) 0 (dlen (d_Item x1_Belt)) = r_Item x1_Belt from rdw_Item hg ht (dlen_Item hg ht _), show rd (d_Chute x1_Chutes) 0 (dlen (d_Chute x1_Chutes)) = r_Chute x1_Chutes from rdw_Chute hg ht (dlen_Chute hg ht _), show rd (d_Inlet l3) 0 (dlen (d_Inlet x1_Inlets)) = r_Inlet l3 from rdw_Inlet hg ht hnl3, show rd (d_I64 x1_Plan) 0 (dlen (d_I64 x1_Plan)) = r_I64 x1_Plan from rdw_I64 hg ht (dlen_I64 hg ht _)]; try rfl) (hF _ _ _ (c_I_IsCentre hg ht hx4)) (.inr rfl) (Nat.le_of_ble_eq_true rfl) ?_
        cbv
        cases hb4 : x4 with
        | true =>
          rw [br_true hb4] at h
          cbv
          obtain rfl := Option.some.inj h
          exact ARet.mk ⟨⟨rfl, (dlen_Item hg ht _)⟩, ⟨⟨rfl, (dlen_Chute hg ht _)⟩, ⟨⟨rfl, hnl3⟩, ⟨rfl, (dlen_I64 hg ht _)⟩⟩⟩⟩ hX.symm
        | false =>
          rw [br_false hb4] at h
          cbv
          obtain ⟨x5, hx5, h⟩ := of_cl h
          obtain ⟨x5_Belt, x5_Chutes, x5_Inlets, x5_Plan, x5_Now⟩ := x5
          try dsimp only at h
          refine ACall.mk _ _ rfl (hF _ _ _ (c_I_copyCentre hg ht hx5)) (.inl rfl) (Nat.le_of_ble_eq_true rfl) ?_
          cbv
          obtain rfl := Option.some.inj h
          exact ARet.mk ⟨⟨rfl, (dlen_Item hg ht _)⟩, ⟨⟨rfl, (dlen_Chute hg ht _)⟩, ⟨⟨rfl, (dlen_Inlet hg ht _)⟩, ⟨rfl, (dlen_I64 hg ht _)⟩⟩⟩⟩ hX.symm
  | false =>
    rw [br_false hb1] at h
    cbv
    try (rw [hb1]; cbv)
    try (rw [hb1]; cbv)
    obtain rfl := Option.some.inj h
    exact ARet.mk ⟨⟨rfl, (dlen_Item hg ht _)⟩, ⟨⟨rfl, (dlen_Chute hg ht _)⟩, ⟨⟨rfl, (dlen_Inlet hg ht _)⟩, ⟨rfl, (dlen_I64 hg ht _)⟩⟩⟩⟩ hX.symm
end Go.Vs
