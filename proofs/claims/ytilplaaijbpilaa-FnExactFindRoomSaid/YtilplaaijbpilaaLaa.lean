/- Part of the proofs of this seat's laws: Laa. No condition. -/
import Derived.Test.YtilplaaijbpilaaTy
import Derived.Test.YtilplaaijbpilaaTIRall
set_option linter.unusedVariables false
set_option linter.unusedSimpArgs false
set_option linter.unusedSectionVars false
namespace Go.Vs
set_option maxRecDepth 100000
def ir60 : J := .seq (.reg none [⟨some 2, none, .box (.t 0)⟩,⟨some 4, none, .mv (.k (V.i 0))⟩] [1, 2]) (.seq (.reg none [⟨some 5, none, .mv (.t 1)⟩,⟨some 6, none, .fa 0 (.t 2)⟩,⟨some 7, none, .ld false 1 (.t 6)⟩,⟨some 8, none, .len true (.t 7)⟩,⟨some 9, none, .bin .sub .i (.t 5) (.t 8)⟩,⟨some 1, none, .mv (.t 9)⟩] [1, 2]) (.seq (.seq (.reg none [⟨some 10, none, .mv (.t 1)⟩,⟨some 11, none, .bin .lss .i (.t 10) (.k (V.i 0))⟩] [1, 2, 11]) (.cond (.t 11) (.seq (.reg none [⟨some 4, none, .mv (.k (V.i (-1)))⟩] [4]) (.ret)) (.skip))) (.seq (.reg none [⟨some 12, none, .mv (.t 1)⟩,⟨some 13, none, .fa 1 (.t 2)⟩,⟨some 14, none, .ld false 1 (.t 13)⟩,⟨some 15, none, .len true (.t 14)⟩,⟨some 16, none, .bin .sub .i (.t 12) (.t 15)⟩,⟨some 1, none, .mv (.t 16)⟩] [1]) (.seq (.seq (.reg none [⟨some 17, none, .mv (.t 1)⟩,⟨some 18, none, .bin .lss .i (.t 17) (.k (V.i 0))⟩] [1, 18]) (.cond (.t 18) (.seq (.reg none [⟨some 4, none, .mv (.k (V.i (-1)))⟩] [4]) (.ret)) (.skip))) (.seq (.reg none [⟨some 19, none, .mv (.t 1)⟩,⟨some 4, none, .mv (.t 19)⟩] [4]) (.ret))))))
def rv60 : List RV := [.t 4]
open Go.Proofs Go.IntWalk
set_option linter.unusedVariables false
set_option maxHeartbeats 4000000
def L_szLeg (g : G) (t : TE) (a0 : Leg) (a1 : Int) : Int :=
  br (g.lt (g.wrap .i64 (g.sub a1 (g.int (g.slen a0.From)))) 0)
  (
   (-1))
  (
   br (g.lt (g.wrap .i64 (g.sub (g.wrap .i64 (g.sub a1 (g.int (g.slen a0.From)))) (g.int (g.slen a0.To)))) 0)
   (
    (-1))
   (
    (g.wrap .i64 (g.sub (g.wrap .i64 (g.sub a1 (g.int (g.slen a0.From)))) (g.int (g.slen a0.To))))))
theorem c_L_szLeg {g : G} {t : TE} {a0 : Leg} {a1 : Int} {r : Int} (hg : g = G.real) (ht : t = TE.real) (h : L_szLeg g t a0 a1 = r) : Fn Try.prog 60 [.g (Leg.rs t a0), .c (.v (.int .i64 a1))] (.c (.r (.v (.int .i64 r)))) := by
 obtain ⟨X, hX⟩ := hide (.c (.r (.v (.int .i64 r))) : X); rw [← hX]; refine fn_of (rvs := rv60) (j := ir60) Try.func60 rfl (by kernel_rfl) (Nat.le_of_ble_eq_true rfl) (by kernel_rfl) prog_mixed ?_; intro g2 F hg2 hF; obtain rfl : g2 = g := hg2.unique.trans hg.symm; clear hg2; obtain ⟨wrap, lt, _, _, _, _, _, _, _, _, _, _, int, _, sub, _, _, _, _, _, _, _, _, _, _, _, _, _, _, _, _, _, _, _, _, slen, _, _, _, _, _, _, _, _⟩ := g2; obtain ⟨_, _, _, _, _, _, _, _, _, _, _, _, _, _, _⟩ := t
 obtain ⟨a0_From, a0_To, a0_Start, a0_Takes, a0_Days, a0_Room⟩ := a0; unfold L_szLeg at h; try dsimp only at h
 cbv
 cases hb1 : (lt (wrap .i64 (sub a1 (int (slen a0_From)))) 0)
 rotate_left
 ·rw [br_true hb1] at h; cbv; subst h; exact ARet.mk trivial hX.symm
 rw [br_false hb1] at h; cbv
 cases hb2 : (lt (wrap .i64 (sub (wrap .i64 (sub a1 (int (slen a0_From)))) (int (slen a0_To)))) 0)
 rotate_left
 ·rw [br_true hb2] at h; cbv; subst h; exact ARet.mk trivial hX.symm
 rw [br_false hb2] at h; cbv; subst h; exact ARet.mk trivial hX.symm
def ir30 : J := .seq (.reg none [⟨some 4, none, .mv (.k (V.i 0))⟩] [0, 1]) (.seq (.reg none [⟨some 6, none, .mv (.t 1)⟩,⟨some 7, none, .mv (.t 0)⟩,⟨some 8, none, .len false (.t 7)⟩,⟨some 9, none, .bin .sub .i (.t 6) (.t 8)⟩,⟨some 1, none, .mv (.t 9)⟩] [0, 1]) (.seq (.seq (.reg none [⟨some 10, none, .mv (.t 1)⟩,⟨some 11, none, .bin .lss .i (.t 10) (.k (V.i 0))⟩] [0, 1, 11]) (.cond (.t 11) (.seq (.reg none [⟨some 4, none, .mv (.k (V.i (-1)))⟩] [4]) (.ret)) (.skip))) (.seq (.seq (.reg none [⟨some 5, none, .mv (.k (V.i 0))⟩] [0, 1, 5]) (.bl 0 (.seq (.seq (.reg none [⟨some 12, none, .mv (.t 5)⟩,⟨some 13, none, .mv (.t 0)⟩,⟨some 14, none, .len false (.t 13)⟩,⟨some 15, none, .bin .lss .i (.t 12) (.t 14)⟩] [0, 1, 5, 15]) (.cond (.t 15) (.skip) (.exit 0))) (.seq (.block 1 (.seq (.reg none [⟨some 18, none, .mv (.t 0)⟩,⟨some 19, none, .mv (.t 5)⟩,⟨some 20, none, .ia 6 (.t 18) (.t 19)⟩,⟨some 21, none, .ld true 6 (.t 20)⟩,⟨some 22, none, .mv (.t 1)⟩,⟨some 23, none, .call 60 true [(.t 21), (.t 22)]⟩,⟨some 1, none, .mv (.t 23)⟩] [0, 1, 5]) (.seq (.reg none [⟨some 24, none, .mv (.t 1)⟩,⟨some 25, none, .bin .lss .i (.t 24) (.k (V.i 0))⟩] [0, 1, 5, 25]) (.cond (.t 25) (.seq (.reg none [⟨some 4, none, .mv (.k (V.i (-1)))⟩] [4]) (.ret)) (.skip))))) (.reg none [⟨some 16, none, .mv (.t 5)⟩,⟨some 17, none, .bin .add .i (.t 16) (.k (V.i 1))⟩,⟨some 5, none, .mv (.t 17)⟩] [0, 1, 5]))))) (.seq (.reg none [⟨some 26, none, .mv (.t 1)⟩,⟨some 4, none, .mv (.t 26)⟩] [4]) (.ret)))))
def rv30 : List RV := [.t 4]
def L_szLegS_l1 (g : G) (t : TE) : List Leg → Int → LR Int Int
  | [], v1 =>
    (LR.out v1)
  | z1 :: ls1, v1 =>
    lP (L_szLeg g t z1 v1) fun x1 =>
    br (g.lt x1 0)
    (
     (LR.ret (-1)))
    (
     L_szLegS_l1 g t ls1 x1)
def L_szLegS (g : G) (t : TE) (a0 : List Leg) (a1 : Int) : Int :=
  br (g.lt (g.wrap .i64 (g.sub a1 (g.llen (t.r_Leg a0)))) 0)
  (
   (-1))
  (
   lP (L_szLegS_l1 g t a0 (g.wrap .i64 (g.sub a1 (g.llen (t.r_Leg a0))))) fun o1 => lrp o1 fun y1 =>
   y1)
theorem c_L_szLegS {g : G} {t : TE} {a0 : List Leg} {a1 : Int} {r : Int} (hg : g = G.real) (ht : t = TE.real) (h : L_szLegS g t a0 a1 = r) : Fn Try.prog 30 [.c (.s 6 (t.r_Leg a0)), .c (.v (.int .i64 a1))] (.c (.r (.v (.int .i64 r)))) := by
 obtain ⟨X, hX⟩ := hide (.c (.r (.v (.int .i64 r))) : X); rw [← hX]; refine fn_of (rvs := rv30) (j := ir30) Try.func30 rfl (by kernel_rfl) (Nat.le_of_ble_eq_true rfl) (by kernel_rfl) prog_mixed ?_; intro g2 F hg2 hF; obtain rfl : g2 = g := hg2.unique.trans hg.symm; clear hg2; obtain ⟨wrap, lt, _, _, _, _, _, _, _, _, _, _, _, add, sub, _, _, _, _, _, _, llen, _, _, _, _, _, _, _, _, _, _, _, _, _, _, _, _, _, _, _, _, _, _⟩ := g2; obtain ⟨r_Leg, _, _, _, _, _, _, _, _, _, _, _, _, _, _⟩ := t
 unfold L_szLegS at h; try dsimp only at h
 cbv
 cases hb1 : (lt (wrap .i64 (sub a1 (llen (r_Leg a0)))) 0)
 rotate_left
 ·rw [br_true hb1] at h; cbv; subst h; exact ARet.mk trivial hX.symm
 rw [br_false hb1] at h; cbv; obtain ⟨o1, ho1, h⟩ := of_lP h; try dsimp only at h
 try rw [hg] at ho1
 try rw [ht] at ho1
 refine ABL.mk { p : Nat × Int × Int // p.1 ≤ a0.length ∧ p.2.1 = ((p.1 : Nat) : Int) ∧ L_szLegS_l1 G.real TE.real (List.drop p.1 a0) p.2.2 = o1 } (fun ⟨⟨k1, v2, v1⟩, _⟩ => ({ sl := [(0, .c (.r (.s 6 (r_Leg a0)))), (1, .c (.r (.v (.int .i64 v1)))), (5, .c (.r (.v (.int .i64 v2))))], tab := [] } : St)) 0 (fun p => a0.length - p.1.1) ⟨(0, 0, (wrap .i64 (sub a1 (llen (r_Leg a0))))), Nat.zero_le _, rfl, ho1⟩ (Int) (fun y1 => ({ sl := [(1, .c (.r (.v (.int .i64 y1))))], tab := [] } : St)) 0 (fun y => o1 = LR.out y) ?_ ?_ ?_
 ·refine Wk.of [] rfl rfl ?_ ?_
  ·cbv; all_goals exact ⟨⟨_, rfl, rfl⟩, ⟨_, rfl, rfl⟩, ⟨_, rfl, rfl⟩, trivial⟩
  cbv; all_goals exact trivial
 ·rintro ⟨⟨k1, v2, v1⟩, hk1, hi1, h_1⟩ hq1; have hm1 := (hq1.1 0 _ _ rfl); try dsimp only at hk1 hi1 h_1
  clear hq1; cbv
  by_cases hc1_ : k1 < a0.length
  ·have hb2 : lt v2 (llen (r_Leg a0)) = true := ltL_true_Leg hg ht hi1 hc1_; have hs1 := stepL_Leg hg ht hi1 hc1_ hm1; obtain ⟨z1, hz1⟩ := some_of_lt hc1_; rw [drop_of_some hz1] at h_1; rw [L_szLegS_l1] at h_1; obtain ⟨z1_From, z1_To, z1_Start, z1_Takes, z1_Days, z1_Room⟩ := z1; try rw [← hg] at h_1
   try rw [← ht] at h_1
   try dsimp only at h_1
   rw [hb2]; cbv; refine AStep.mk (nn_L hi1) ?_; cbv; refine AGet.mk _ (r_getL_Leg hg ht hi1 hz1) ?_; cbv; obtain ⟨x1, hx1, h_1⟩ := of_lP h_1; try dsimp only at h_1
   refine ACall.mk _ _ rfl (hF _ _ _ (c_L_szLeg hg ht hx1)) (.inl rfl) (Nat.le_of_ble_eq_true rfl) ?_; cbv
   cases hb3 : (lt x1 0)
   rotate_left
   ·rw [br_true hb3] at h_1; cbv; subst h_1; try dsimp only [lr, lrL, lrp, lrpL] at h
    subst h; exact ARet.mk trivial hX.symm
   rw [br_false hb3] at h_1; cbv; try rw [hg] at h_1
   try rw [ht] at h_1
   refine ⟨⟨(k1 + 1, (wrap .i64 (add v2 1)), x1), hc1_, hs1, h_1⟩, Wk.of [] rfl rfl ?_ ?_, meas_L hc1_⟩
   ·cbv; all_goals exact ⟨⟨_, rfl, rfl⟩, ⟨_, rfl, rfl⟩, ⟨_, rfl, rfl⟩, trivial⟩
   cbv; all_goals exact trivial
  have hb2 : lt v2 (llen (r_Leg a0)) = false := ltL_false_Leg hg ht hi1 hc1_; rw [List.drop_of_length_le (Nat.le_of_not_lt hc1_)] at h_1; rw [L_szLegS_l1] at h_1; try rw [← hg] at h_1
  try rw [← ht] at h_1
  try dsimp only at h_1
  rw [hb2]; cbv; refine ⟨v1, Wk.of [] rfl rfl ?_ ?_, h_1.symm⟩
  ·cbv; all_goals exact ⟨⟨_, rfl, rfl⟩, trivial⟩
  cbv; all_goals exact trivial
 rintro y1 hy1; replace hy1 := hy1.symm; subst hy1; try dsimp only [lr, lrL, lrp, lrpL] at h
 cbv; subst h; exact ARet.mk trivial hX.symm
def ir31 : J := .seq (.reg none [⟨some 4, none, .mv (.k (V.i 0))⟩] [0, 1]) (.seq (.reg none [⟨some 5, none, .mv (.t 1)⟩,⟨some 6, none, .mv (.t 0)⟩,⟨some 7, none, .len false (.t 6)⟩,⟨some 8, none, .bin .sub .i (.t 5) (.t 7)⟩,⟨some 1, none, .mv (.t 8)⟩] [1]) (.seq (.seq (.reg none [⟨some 9, none, .mv (.t 1)⟩,⟨some 10, none, .bin .lss .i (.t 9) (.k (V.i 0))⟩] [1, 10]) (.cond (.t 10) (.seq (.reg none [⟨some 4, none, .mv (.k (V.i (-1)))⟩] [4]) (.ret)) (.skip))) (.seq (.reg none [⟨some 11, none, .mv (.t 1)⟩,⟨some 4, none, .mv (.t 11)⟩] [4]) (.ret))))
def rv31 : List RV := [.t 4]
def L_szIntS (g : G) (t : TE) (a0 : List Int) (a1 : Int) : Int :=
  br (g.lt (g.wrap .i64 (g.sub a1 (g.llen (t.r_I64 a0)))) 0)
  (
   (-1))
  (
   (g.wrap .i64 (g.sub a1 (g.llen (t.r_I64 a0)))))
theorem c_L_szIntS {g : G} {t : TE} {a0 : List Int} {a1 : Int} {r : Int} (hg : g = G.real) (ht : t = TE.real) (h : L_szIntS g t a0 a1 = r) : Fn Try.prog 31 [.c (.s 1 (t.r_I64 a0)), .c (.v (.int .i64 a1))] (.c (.r (.v (.int .i64 r)))) := by
 obtain ⟨X, hX⟩ := hide (.c (.r (.v (.int .i64 r))) : X); rw [← hX]; refine fn_of (rvs := rv31) (j := ir31) Try.func31 rfl (by kernel_rfl) (Nat.le_of_ble_eq_true rfl) (by kernel_rfl) prog_mixed ?_; intro g2 F hg2 hF; obtain rfl : g2 = g := hg2.unique.trans hg.symm; clear hg2; obtain ⟨wrap, lt, _, _, _, _, _, _, _, _, _, _, _, _, sub, _, _, _, _, _, _, llen, _, _, _, _, _, _, _, _, _, _, _, _, _, _, _, _, _, _, _, _, _, _⟩ := g2; obtain ⟨_, _, r_I64, _, _, _, _, _, _, _, _, _, _, _, _⟩ := t
 unfold L_szIntS at h; try dsimp only at h
 cbv
 cases hb1 : (lt (wrap .i64 (sub a1 (llen (r_I64 a0)))) 0)
 rotate_left
 ·rw [br_true hb1] at h; cbv; subst h; exact ARet.mk trivial hX.symm
 rw [br_false hb1] at h; cbv; subst h; exact ARet.mk trivial hX.symm
def ir6 : J := .seq (.reg none [⟨some 2, none, .box (.t 0)⟩,⟨some 4, none, .mv (.k (V.i 0))⟩] [1, 2]) (.seq (.reg none [⟨some 5, none, .fa 0 (.t 2)⟩,⟨some 6, none, .ld false 1 (.t 5)⟩,⟨some 7, none, .mv (.t 1)⟩,⟨some 8, none, .call 30 true [(.t 6), (.t 7)]⟩,⟨some 1, none, .mv (.t 8)⟩] [1, 2]) (.seq (.seq (.reg none [⟨some 9, none, .mv (.t 1)⟩,⟨some 10, none, .bin .lss .i (.t 9) (.k (V.i 0))⟩] [1, 2, 10]) (.cond (.t 10) (.seq (.reg none [⟨some 4, none, .mv (.k (V.i (-1)))⟩] [4]) (.ret)) (.skip))) (.seq (.reg none [⟨some 11, none, .fa 1 (.t 2)⟩,⟨some 12, none, .ld false 1 (.t 11)⟩,⟨some 13, none, .mv (.t 1)⟩,⟨some 14, none, .call 31 true [(.t 12), (.t 13)]⟩,⟨some 1, none, .mv (.t 14)⟩] [1]) (.seq (.seq (.reg none [⟨some 15, none, .mv (.t 1)⟩,⟨some 16, none, .bin .lss .i (.t 15) (.k (V.i 0))⟩] [1, 16]) (.cond (.t 16) (.seq (.reg none [⟨some 4, none, .mv (.k (V.i (-1)))⟩] [4]) (.ret)) (.skip))) (.seq (.reg none [⟨some 17, none, .mv (.t 1)⟩,⟨some 4, none, .mv (.t 17)⟩] [4]) (.ret))))))
def rv6 : List RV := [.t 4]
def L_szNetwork (g : G) (t : TE) (a0 : Network) (a1 : Int) : Int :=
  lP (L_szLegS g t a0.Legs a1) fun x1 =>
  br (g.lt x1 0)
  (
   (-1))
  (
   lP (L_szIntS g t a0.Off x1) fun x2 =>
   br (g.lt x2 0)
   (
    (-1))
   (
    x2))
theorem c_L_szNetwork {g : G} {t : TE} {a0 : Network} {a1 : Int} {r : Int} (hg : g = G.real) (ht : t = TE.real) (h : L_szNetwork g t a0 a1 = r) : Fn Try.prog 6 [.g (Network.rs t a0), .c (.v (.int .i64 a1))] (.c (.r (.v (.int .i64 r)))) := by
 obtain ⟨X, hX⟩ := hide (.c (.r (.v (.int .i64 r))) : X); rw [← hX]; refine fn_of (rvs := rv6) (j := ir6) Try.func6 rfl (by kernel_rfl) (Nat.le_of_ble_eq_true rfl) (by kernel_rfl) prog_mixed ?_; intro g2 F hg2 hF; obtain rfl : g2 = g := hg2.unique.trans hg.symm; clear hg2; obtain ⟨_, lt, _, _, _, _, _, _, _, _, _, _, _, _, _, _, _, _, _, _, _, _, _, _, _, _, _, _, _, _, _, _, _, _, _, _, _, _, _, _, _, _, _, _⟩ := g2; obtain ⟨_, _, _, _, _, _, _, _, _, _, _, _, _, _, _⟩ := t
 obtain ⟨a0_Legs, a0_Off, a0_Change⟩ := a0; unfold L_szNetwork at h; try dsimp only at h
 cbv; obtain ⟨x1, hx1, h⟩ := of_lP h; try dsimp only at h
 refine ACall.mk _ _ rfl (hF _ _ _ (c_L_szLegS hg ht hx1)) (.inl rfl) (Nat.le_of_ble_eq_true rfl) ?_; cbv
 cases hb1 : (lt x1 0)
 rotate_left
 ·rw [br_true hb1] at h; cbv; subst h; exact ARet.mk trivial hX.symm
 rw [br_false hb1] at h; cbv; obtain ⟨x2, hx2, h⟩ := of_lP h; try dsimp only at h
 refine ACall.mk _ _ rfl (hF _ _ _ (c_L_szIntS hg ht hx2)) (.inl rfl) (Nat.le_of_ble_eq_true rfl) ?_; cbv
 cases hb2 : (lt x2 0)
 rotate_left
 ·rw [br_true hb2] at h; cbv; subst h; exact ARet.mk trivial hX.symm
 rw [br_false hb2] at h; cbv; subst h; exact ARet.mk trivial hX.symm
def ir68 : J := .seq (.reg none [⟨some 1, none, .box (.t 0)⟩,⟨some 2, none, .alloc [.r (.v (.string .empty)), .r (.v (.string .empty)), .r (.v (.int .i64 0)), .r (.v (.int .i64 0)), .r (.v (.int .i64 0)), .r (.v (.int .i64 0))]⟩] [1, 2]) (.seq (.reg none [⟨some 3, none, .alloc [.r (.v (.string .empty)), .r (.v (.string .empty)), .r (.v (.int .i64 0)), .r (.v (.int .i64 0)), .r (.v (.int .i64 0)), .r (.v (.int .i64 0))]⟩] [1, 2, 3]) (.seq (.reg none [⟨some 4, none, .fa 0 (.t 1)⟩,⟨some 5, none, .ld false 1 (.t 4)⟩,⟨some 6, none, .fa 0 (.t 3)⟩,⟨none, none, .st 1 (.t 6) (.t 5)⟩] [1, 2, 3]) (.seq (.reg none [⟨some 7, none, .fa 1 (.t 1)⟩,⟨some 8, none, .ld false 1 (.t 7)⟩,⟨some 9, none, .fa 1 (.t 3)⟩,⟨none, none, .st 1 (.t 9) (.t 8)⟩] [1, 2, 3]) (.seq (.reg none [⟨some 10, none, .fa 2 (.t 1)⟩,⟨some 11, none, .ld false 1 (.t 10)⟩,⟨some 12, none, .fa 2 (.t 3)⟩,⟨none, none, .st 1 (.t 12) (.t 11)⟩] [1, 2, 3]) (.seq (.reg none [⟨some 13, none, .fa 3 (.t 1)⟩,⟨some 14, none, .ld false 1 (.t 13)⟩,⟨some 15, none, .fa 3 (.t 3)⟩,⟨none, none, .st 1 (.t 15) (.t 14)⟩] [1, 2, 3]) (.seq (.reg none [⟨some 16, none, .fa 4 (.t 1)⟩,⟨some 17, none, .ld false 1 (.t 16)⟩,⟨some 18, none, .fa 4 (.t 3)⟩,⟨none, none, .st 1 (.t 18) (.t 17)⟩] [1, 2, 3]) (.seq (.reg none [⟨some 19, none, .fa 5 (.t 1)⟩,⟨some 20, none, .ld false 1 (.t 19)⟩,⟨some 21, none, .fa 5 (.t 3)⟩,⟨none, none, .st 1 (.t 21) (.t 20)⟩] [2, 3]) (.seq (.reg none [⟨some 22, none, .ld true 6 (.t 3)⟩,⟨none, none, .st 6 (.t 2) (.t 22)⟩] [2]) (.ret)))))))))
def rv68 : List RV := [.c 2 true 6]
def L_toLeg (g : G) (t : TE) (a0 : Leg) : Leg :=
  a0
theorem c_L_toLeg {g : G} {t : TE} {a0 : Leg} {r : Leg} (hg : g = G.real) (ht : t = TE.real) (h : L_toLeg g t a0 = r) : Fn Try.prog 68 [.g (Leg.rs t a0)] (.g (Leg.ds t r)) := by
 obtain ⟨X, hX⟩ := hide (.g (Leg.ds t r) : X); rw [← hX]; refine fn_of (rvs := rv68) (j := ir68) Try.func68 rfl (by kernel_rfl) (Nat.le_of_ble_eq_true rfl) (by kernel_rfl) prog_mixed ?_; intro g2 F hg2 hF; obtain rfl : g2 = g := hg2.unique.trans hg.symm; clear hg2; obtain ⟨_, _, _, _, _, _, _, _, _, _, _, _, _, _, _, _, _, _, _, _, _, _, _, _, _, _, _, _, _, _, _, _, _, _, _, _, _, _, _, _, _, _, _, _⟩ := g2; obtain ⟨_, _, _, _, _, _, _, _, _, _, _, _, _, _, _⟩ := t
 obtain ⟨a0_From, a0_To, a0_Start, a0_Takes, a0_Days, a0_Room⟩ := a0; unfold L_toLeg at h; try dsimp only at h
 cbv; subst h; exact ARet.mk trivial hX.symm
def ir37 : J := .seq (.reg none [⟨some 2, none, .mv (.k (.c (.n 6)))⟩] [0]) (.seq (.reg none [⟨some 5, none, .mv (.t 0)⟩,⟨some 6, none, .len false (.t 5)⟩,⟨some 7, none, .mk 6 64 [.r (.v (.string .empty)), .r (.v (.string .empty)), .r (.v (.int .i64 0)), .r (.v (.int .i64 0)), .r (.v (.int .i64 0)), .r (.v (.int .i64 0))] (.t 6)⟩,⟨some 3, none, .mv (.t 7)⟩] [0, 3]) (.seq (.seq (.reg none [⟨some 4, none, .mv (.k (V.i 0))⟩] [0, 3, 4]) (.bl 0 (.seq (.seq (.reg none [⟨some 8, none, .mv (.t 4)⟩,⟨some 9, none, .mv (.t 0)⟩,⟨some 10, none, .len false (.t 9)⟩,⟨some 11, none, .bin .lss .i (.t 8) (.t 10)⟩] [0, 3, 4, 11]) (.cond (.t 11) (.skip) (.exit 0))) (.seq (.block 1 (.reg none [⟨some 14, none, .mv (.t 3)⟩,⟨some 15, none, .mv (.t 4)⟩,⟨some 16, none, .mv (.t 0)⟩,⟨some 17, none, .mv (.t 4)⟩,⟨some 18, none, .ia 6 (.t 16) (.t 17)⟩,⟨some 19, none, .ld true 6 (.t 18)⟩,⟨some 20, none, .call 68 true [(.t 19)]⟩,⟨some 21, none, .ia 6 (.t 14) (.t 15)⟩,⟨none, none, .st 6 (.t 21) (.t 20)⟩] [0, 3, 4])) (.reg none [⟨some 12, none, .mv (.t 4)⟩,⟨some 13, none, .bin .add .i (.t 12) (.k (V.i 1))⟩,⟨some 4, none, .mv (.t 13)⟩] [0, 3, 4]))))) (.seq (.reg none [⟨some 22, none, .mv (.t 3)⟩,⟨some 2, none, .mv (.t 22)⟩] [2]) (.ret))))
def rv37 : List RV := [.t 2]
def L_toLegS_l1 (g : G) (t : TE) : List Leg → Int → List Leg → Option (List Leg)
  | [], v1, w1 =>
    some w1
  | z1 :: ls1, v1, w1 =>
    lP (L_toLeg g t z1) fun x1 =>
    gd (((0 : Int) ≤ v1 ∧ v1 < (((g.dlen (t.d_Leg w1)) : Nat) : Int))) <|
    gt w1 (g.nat v1) fun x2 =>
    lP (List.set w1 (g.nat v1) (Leg.mk x1.From x1.To x1.Start x1.Takes x1.Days x1.Room)) fun (l2 : List Leg) =>
    L_toLegS_l1 g t ls1 (g.wrap .i64 (g.add v1 1)) l2
def L_toLegS (g : G) (t : TE) (a0 : List Leg) : Option (List Leg) :=
  gd (((0 : Int) ≤ (g.llen (t.r_Leg a0)) ∧ 64 * (g.llen (t.r_Leg a0)) ≤ 70368744177664 ∧ (g.llen (t.r_Leg a0)) ≤ 4611686018427387904)) <|
  lP (List.replicate (g.nat (g.llen (t.r_Leg a0))) (Leg.mk ByteArray.empty ByteArray.empty 0 0 0 0)) fun (l1 : List Leg) =>
  cl (L_toLegS_l1 g t a0 0 l1) fun y1 =>
  some y1
theorem c_L_toLegS {g : G} {t : TE} {a0 : List Leg} {r : List Leg} (hg : g = G.real) (ht : t = TE.real) (h : L_toLegS g t a0 = some r) : Fn Try.prog 37 [.c (.s 6 (t.r_Leg a0))] (.c (.o 6 (t.d_Leg r))) := by
 obtain ⟨X, hX⟩ := hide (.c (.o 6 (t.d_Leg r)) : X); rw [← hX]; refine fn_of (rvs := rv37) (j := ir37) Try.func37 rfl (by kernel_rfl) (Nat.le_of_ble_eq_true rfl) (by kernel_rfl) prog_mixed ?_; intro g2 F hg2 hF; obtain rfl : g2 = g := hg2.unique.trans hg.symm; clear hg2; obtain ⟨wrap, lt, _, _, _, _, _, _, _, _, _, _, _, add, _, _, _, _, _, _, _, llen, _, _, dlen, _, _, _, _, _, _, _, _, _, _, _, _, _, _, _, _, _, _, _⟩ := g2; obtain ⟨r_Leg, d_Leg, _, _, _, _, _, _, _, _, _, _, _, _, _⟩ := t
 unfold L_toLegS at h; try dsimp only at h
 cbv; obtain ⟨hc2, h⟩ := of_gd h; refine AStep.mk (mk_ok hc2) ?_; cbv; obtain ⟨l1, hl1, h⟩ := of_lP h; try dsimp only at h
 refine ANew.mk (d_Leg l1) (dlen (d_Leg l1)) (by rw [← hl1]; exact drep_Leg hg ht _ (Leg.mk ByteArray.empty ByteArray.empty 0 0 0 0)) (by rw [← hl1]; exact drepn_Leg hg ht _ (Leg.mk ByteArray.empty ByteArray.empty 0 0 0 0)) ?_; cbv; obtain ⟨o1, ho1, h⟩ := of_cl h; try dsimp only at h
 try rw [hg] at ho1
 try rw [ht] at ho1
 refine ABL.mk { p : Nat × Int × List Leg // p.1 ≤ a0.length ∧ p.2.1 = ((p.1 : Nat) : Int) ∧ L_toLegS_l1 G.real TE.real (List.drop p.1 a0) p.2.1 p.2.2 = some o1 } (fun ⟨⟨k1, v1, w1⟩, _⟩ => ({ sl := [(0, .c (.r (.s 6 (r_Leg a0)))), (3, .c (.f 0 6 0 (dlen (d_Leg w1)))), (4, .c (.r (.v (.int .i64 v1))))], tab := [(0, some (.arr 6 (d_Leg w1)))] } : St)) 1 (fun p => a0.length - p.1.1) ⟨(0, 0, l1), Nat.zero_le _, rfl, ho1⟩ (List Leg) (fun y1 => ({ sl := [(3, .c (.f 0 6 0 (dlen (d_Leg y1))))], tab := [(0, some (.arr 6 (d_Leg y1)))] } : St)) 1 (fun y => o1 = y) ?_ ?_ ?_
 ·refine Wk.of [(0, some 48)] rfl rfl ?_ ?_
  ·cbv; all_goals exact ⟨⟨_, rfl, rfl⟩, ⟨_, rfl, rfl⟩, ⟨_, rfl, rfl⟩, trivial⟩
  cbv; all_goals exact ⟨⟨_, rfl, rfl⟩, trivial⟩
 ·rintro ⟨⟨k1, v1, w1⟩, hk1, hi1, h_1⟩ hq1; have hm1 := (hq1.1 0 _ _ rfl); try dsimp only at hk1 hi1 h_1
  clear hq1; cbv
  by_cases hc1_ : k1 < a0.length
  ·have hb1 : lt v1 (llen (r_Leg a0)) = true := ltL_true_Leg hg ht hi1 hc1_; have hs1 := stepL_Leg hg ht hi1 hc1_ hm1; obtain ⟨z1, hz1⟩ := some_of_lt hc1_; rw [drop_of_some hz1] at h_1; rw [L_toLegS_l1] at h_1; obtain ⟨z1_From, z1_To, z1_Start, z1_Takes, z1_Days, z1_Room⟩ := z1; try rw [← hg] at h_1
   try rw [← ht] at h_1
   try dsimp only at h_1
   rw [hb1]; cbv; refine AStep.mk (nn_L hi1) ?_; cbv; refine AGet.mk _ (r_getL_Leg hg ht hi1 hz1) ?_; cbv; obtain ⟨x1, hx1, h_1⟩ := of_lP h_1; obtain ⟨x1_From, x1_To, x1_Start, x1_Takes, x1_Days, x1_Room⟩ := x1; try dsimp only at h_1
   refine ACall.mk _ _ rfl (hF _ _ _ (c_L_toLeg hg ht hx1)) (.inl rfl) (Nat.le_of_ble_eq_true rfl) ?_; cbv; obtain ⟨hc1, h_1⟩ := of_gd h_1; refine AStep.mk hc1 ?_; cbv; obtain ⟨x2, hx2, h_1⟩ := of_gt h_1; obtain ⟨x2_From, x2_To, x2_Start, x2_Takes, x2_Days, x2_Room⟩ := x2; try dsimp only at h_1
   refine AGet.mk _ (d_get_Leg hg ht hx2) ?_; cbv; obtain ⟨l2, hl2, h_1⟩ := of_lP h_1; try dsimp only at h_1
   refine ANew.mk (d_Leg l2) _ (by rw [← hl2]; exact dset_Leg hg ht _ _ (Leg.mk x1_From x1_To x1_Start x1_Takes x1_Days x1_Room)) rfl ?_; have hnl2 : (dlen (d_Leg w1)) = (d_Leg l2).length := (by rw [← hl2, dsetl_Leg ht]; exact (dlen_Leg hg ht _)); cbv; try rw [hg] at h_1
   try rw [ht] at h_1
   refine ⟨⟨(k1 + 1, (wrap .i64 (add v1 1)), l2), hc1_, hs1, h_1⟩, Wk.of [(0, some 0)] rfl rfl ?_ ?_, meas_L hc1_⟩
   ·cbv; all_goals try rw [show (dlen (d_Leg w1)) = (dlen (d_Leg l2)) from (hnl2).trans (dlen_Leg hg ht _).symm]
    all_goals exact ⟨⟨_, rfl, rfl⟩, ⟨_, rfl, rfl⟩, ⟨_, rfl, rfl⟩, trivial⟩
   cbv; all_goals try rw [show (dlen (d_Leg w1)) = (dlen (d_Leg l2)) from (hnl2).trans (dlen_Leg hg ht _).symm]
   all_goals exact ⟨⟨_, rfl, rfl⟩, trivial⟩
  have hb1 : lt v1 (llen (r_Leg a0)) = false := ltL_false_Leg hg ht hi1 hc1_; rw [List.drop_of_length_le (Nat.le_of_not_lt hc1_)] at h_1; rw [L_toLegS_l1] at h_1; try rw [← hg] at h_1
  try rw [← ht] at h_1
  try dsimp only at h_1
  rw [hb1]; cbv; refine ⟨w1, Wk.of [(0, some 0)] rfl rfl ?_ ?_, (Option.some.inj h_1).symm⟩
  ·cbv; all_goals exact ⟨⟨_, rfl, rfl⟩, trivial⟩
  cbv; all_goals exact ⟨⟨_, rfl, rfl⟩, trivial⟩
 rintro y1 hy1; replace hy1 := hy1.symm; subst hy1; try dsimp only [lr, lrL, lrp, lrpL] at h
 cbv; obtain rfl := Option.some.inj h; exact ARet.mk ⟨rfl, (dlen_Leg hg ht _)⟩ hX.symm
def ir38 : J := .seq (.reg none [⟨some 2, none, .mv (.k (.c (.n 1)))⟩] [0]) (.seq (.reg none [⟨some 5, none, .mv (.t 0)⟩,⟨some 6, none, .len false (.t 5)⟩,⟨some 7, none, .mk 1 8 [.r (.v (.int .i64 0))] (.t 6)⟩,⟨some 3, none, .mv (.t 7)⟩] [0, 3]) (.seq (.seq (.reg none [⟨some 4, none, .mv (.k (V.i 0))⟩] [0, 3, 4]) (.bl 0 (.seq (.seq (.reg none [⟨some 8, none, .mv (.t 4)⟩,⟨some 9, none, .mv (.t 0)⟩,⟨some 10, none, .len false (.t 9)⟩,⟨some 11, none, .bin .lss .i (.t 8) (.t 10)⟩] [0, 3, 4, 11]) (.cond (.t 11) (.skip) (.exit 0))) (.seq (.block 1 (.reg none [⟨some 14, none, .mv (.t 3)⟩,⟨some 15, none, .mv (.t 4)⟩,⟨some 16, none, .mv (.t 0)⟩,⟨some 17, none, .mv (.t 4)⟩,⟨some 18, none, .ia 1 (.t 16) (.t 17)⟩,⟨some 19, none, .ld false 1 (.t 18)⟩,⟨some 20, none, .ia 1 (.t 14) (.t 15)⟩,⟨none, none, .st 1 (.t 20) (.t 19)⟩] [0, 3, 4])) (.reg none [⟨some 12, none, .mv (.t 4)⟩,⟨some 13, none, .bin .add .i (.t 12) (.k (V.i 1))⟩,⟨some 4, none, .mv (.t 13)⟩] [0, 3, 4]))))) (.seq (.reg none [⟨some 21, none, .mv (.t 3)⟩,⟨some 2, none, .mv (.t 21)⟩] [2]) (.ret))))
def rv38 : List RV := [.t 2]
def L_toIntS_l1 (g : G) (t : TE) : List Int → Int → List Int → Option (List Int)
  | [], v1, w1 =>
    some w1
  | z1 :: ls1, v1, w1 =>
    gd (((0 : Int) ≤ v1 ∧ v1 < (((g.dlen (t.d_I64 w1)) : Nat) : Int))) <|
    gt w1 (g.nat v1) fun x1 =>
    lP (List.set w1 (g.nat v1) z1) fun (l2 : List Int) =>
    L_toIntS_l1 g t ls1 (g.wrap .i64 (g.add v1 1)) l2
def L_toIntS (g : G) (t : TE) (a0 : List Int) : Option (List Int) :=
  gd (((0 : Int) ≤ (g.llen (t.r_I64 a0)) ∧ 8 * (g.llen (t.r_I64 a0)) ≤ 70368744177664 ∧ (g.llen (t.r_I64 a0)) ≤ 4611686018427387904)) <|
  lP (List.replicate (g.nat (g.llen (t.r_I64 a0))) 0) fun (l1 : List Int) =>
  cl (L_toIntS_l1 g t a0 0 l1) fun y1 =>
  some y1
theorem c_L_toIntS {g : G} {t : TE} {a0 : List Int} {r : List Int} (hg : g = G.real) (ht : t = TE.real) (h : L_toIntS g t a0 = some r) : Fn Try.prog 38 [.c (.s 1 (t.r_I64 a0))] (.c (.o 1 (t.d_I64 r))) := by
 obtain ⟨X, hX⟩ := hide (.c (.o 1 (t.d_I64 r)) : X); rw [← hX]; refine fn_of (rvs := rv38) (j := ir38) Try.func38 rfl (by kernel_rfl) (Nat.le_of_ble_eq_true rfl) (by kernel_rfl) prog_mixed ?_; intro g2 F hg2 hF; obtain rfl : g2 = g := hg2.unique.trans hg.symm; clear hg2; obtain ⟨wrap, lt, _, _, _, _, _, _, _, _, _, _, _, add, _, _, _, _, _, _, _, llen, _, _, dlen, _, _, _, _, _, _, _, _, _, _, _, _, _, _, _, _, _, _, _⟩ := g2; obtain ⟨_, _, r_I64, d_I64, _, _, _, _, _, _, _, _, _, _, _⟩ := t
 unfold L_toIntS at h; try dsimp only at h
 cbv; obtain ⟨hc2, h⟩ := of_gd h; refine AStep.mk (mk_ok hc2) ?_; cbv; obtain ⟨l1, hl1, h⟩ := of_lP h; try dsimp only at h
 refine ANew.mk (d_I64 l1) (dlen (d_I64 l1)) (by rw [← hl1]; exact drep_I64 hg ht _ 0) (by rw [← hl1]; exact drepn_I64 hg ht _ 0) ?_; cbv; obtain ⟨o1, ho1, h⟩ := of_cl h; try dsimp only at h
 try rw [hg] at ho1
 try rw [ht] at ho1
 refine ABL.mk { p : Nat × Int × List Int // p.1 ≤ a0.length ∧ p.2.1 = ((p.1 : Nat) : Int) ∧ L_toIntS_l1 G.real TE.real (List.drop p.1 a0) p.2.1 p.2.2 = some o1 } (fun ⟨⟨k1, v1, w1⟩, _⟩ => ({ sl := [(0, .c (.r (.s 1 (r_I64 a0)))), (3, .c (.f 0 1 0 (dlen (d_I64 w1)))), (4, .c (.r (.v (.int .i64 v1))))], tab := [(0, some (.arr 1 (d_I64 w1)))] } : St)) 1 (fun p => a0.length - p.1.1) ⟨(0, 0, l1), Nat.zero_le _, rfl, ho1⟩ (List Int) (fun y1 => ({ sl := [(3, .c (.f 0 1 0 (dlen (d_I64 y1))))], tab := [(0, some (.arr 1 (d_I64 y1)))] } : St)) 1 (fun y => o1 = y) ?_ ?_ ?_
 ·refine Wk.of [(0, some 48)] rfl rfl ?_ ?_
  ·cbv; all_goals exact ⟨⟨_, rfl, rfl⟩, ⟨_, rfl, rfl⟩, ⟨_, rfl, rfl⟩, trivial⟩
  cbv; all_goals exact ⟨⟨_, rfl, rfl⟩, trivial⟩
 ·rintro ⟨⟨k1, v1, w1⟩, hk1, hi1, h_1⟩ hq1; have hm1 := (hq1.1 0 _ _ rfl); try dsimp only at hk1 hi1 h_1
  clear hq1; cbv
  by_cases hc1_ : k1 < a0.length
  ·have hb1 : lt v1 (llen (r_I64 a0)) = true := ltL_true_I64 hg ht hi1 hc1_; have hs1 := stepL_I64 hg ht hi1 hc1_ hm1; obtain ⟨z1, hz1⟩ := some_of_lt hc1_; rw [drop_of_some hz1] at h_1; rw [L_toIntS_l1] at h_1; try rw [← hg] at h_1
   try rw [← ht] at h_1
   try dsimp only at h_1
   rw [hb1]; cbv; refine AStep.mk (nn_L hi1) ?_; cbv; refine AGet.mk _ (r_getL_I64 hg ht hi1 hz1) ?_; cbv; obtain ⟨hc1, h_1⟩ := of_gd h_1; refine AStep.mk hc1 ?_; cbv; obtain ⟨x1, hx1, h_1⟩ := of_gt h_1; try dsimp only at h_1
   refine AGet.mk _ (d_get_I64 hg ht hx1) ?_; cbv; obtain ⟨l2, hl2, h_1⟩ := of_lP h_1; try dsimp only at h_1
   refine ANew.mk (d_I64 l2) _ (by rw [← hl2]; exact dset_I64 hg ht _ _ z1) rfl ?_; have hnl2 : (dlen (d_I64 w1)) = (d_I64 l2).length := (by rw [← hl2, dsetl_I64 ht]; exact (dlen_I64 hg ht _)); cbv; try rw [hg] at h_1
   try rw [ht] at h_1
   refine ⟨⟨(k1 + 1, (wrap .i64 (add v1 1)), l2), hc1_, hs1, h_1⟩, Wk.of [(0, some 0)] rfl rfl ?_ ?_, meas_L hc1_⟩
   ·cbv; all_goals try rw [show (dlen (d_I64 w1)) = (dlen (d_I64 l2)) from (hnl2).trans (dlen_I64 hg ht _).symm]
    all_goals exact ⟨⟨_, rfl, rfl⟩, ⟨_, rfl, rfl⟩, ⟨_, rfl, rfl⟩, trivial⟩
   cbv; all_goals try rw [show (dlen (d_I64 w1)) = (dlen (d_I64 l2)) from (hnl2).trans (dlen_I64 hg ht _).symm]
   all_goals exact ⟨⟨_, rfl, rfl⟩, trivial⟩
  have hb1 : lt v1 (llen (r_I64 a0)) = false := ltL_false_I64 hg ht hi1 hc1_; rw [List.drop_of_length_le (Nat.le_of_not_lt hc1_)] at h_1; rw [L_toIntS_l1] at h_1; try rw [← hg] at h_1
  try rw [← ht] at h_1
  try dsimp only at h_1
  rw [hb1]; cbv; refine ⟨w1, Wk.of [(0, some 0)] rfl rfl ?_ ?_, (Option.some.inj h_1).symm⟩
  ·cbv; all_goals exact ⟨⟨_, rfl, rfl⟩, trivial⟩
  cbv; all_goals exact ⟨⟨_, rfl, rfl⟩, trivial⟩
 rintro y1 hy1; replace hy1 := hy1.symm; subst hy1; try dsimp only [lr, lrL, lrp, lrpL] at h
 cbv; obtain rfl := Option.some.inj h; exact ARet.mk ⟨rfl, (dlen_I64 hg ht _)⟩ hX.symm
def ir9 : J := .seq (.reg none [⟨some 1, none, .box (.t 0)⟩,⟨some 2, none, .alloc [.n 6, .n 1, .r (.v (.int .i64 0))]⟩] [1, 2]) (.seq (.reg none [⟨some 3, none, .alloc [.n 6, .n 1, .r (.v (.int .i64 0))]⟩] [1, 2, 3]) (.seq (.reg none [⟨some 4, none, .fa 0 (.t 1)⟩,⟨some 5, none, .ld false 1 (.t 4)⟩,⟨some 6, none, .call 37 true [(.t 5)]⟩,⟨some 7, none, .fa 0 (.t 3)⟩,⟨none, none, .st 1 (.t 7) (.t 6)⟩] [1, 2, 3]) (.seq (.reg none [⟨some 8, none, .fa 1 (.t 1)⟩,⟨some 9, none, .ld false 1 (.t 8)⟩,⟨some 10, none, .call 38 true [(.t 9)]⟩,⟨some 11, none, .fa 1 (.t 3)⟩,⟨none, none, .st 1 (.t 11) (.t 10)⟩] [1, 2, 3]) (.seq (.reg none [⟨some 12, none, .fa 2 (.t 1)⟩,⟨some 13, none, .ld false 1 (.t 12)⟩,⟨some 14, none, .fa 2 (.t 3)⟩,⟨none, none, .st 1 (.t 14) (.t 13)⟩] [2, 3]) (.seq (.reg none [⟨some 15, none, .ld true 3 (.t 3)⟩,⟨none, none, .st 3 (.t 2) (.t 15)⟩] [2]) (.ret))))))
def rv9 : List RV := [.c 2 true 3]
def L_toNetwork (g : G) (t : TE) (a0 : Network) : Option Network :=
  cl (L_toLegS g t a0.Legs) fun x1 =>
  cl (L_toIntS g t a0.Off) fun x2 =>
  some (Network.mk x1 x2 a0.Change)
theorem c_L_toNetwork {g : G} {t : TE} {a0 : Network} {r : Network} (hg : g = G.real) (ht : t = TE.real) (h : L_toNetwork g t a0 = some r) : Fn Try.prog 9 [.g (Network.rs t a0)] (.g (Network.ds t r)) := by
 obtain ⟨X, hX⟩ := hide (.g (Network.ds t r) : X); rw [← hX]; refine fn_of (rvs := rv9) (j := ir9) Try.func9 rfl (by kernel_rfl) (Nat.le_of_ble_eq_true rfl) (by kernel_rfl) prog_mixed ?_; intro g2 F hg2 hF; obtain rfl : g2 = g := hg2.unique.trans hg.symm; clear hg2; obtain ⟨_, _, _, _, _, _, _, _, _, _, _, _, _, _, _, _, _, _, _, _, _, _, _, _, _, _, _, _, _, _, _, _, _, _, _, _, _, _, _, _, _, _, _, _⟩ := g2; obtain ⟨_, _, _, _, _, _, _, _, _, _, _, _, _, _, _⟩ := t
 obtain ⟨a0_Legs, a0_Off, a0_Change⟩ := a0; unfold L_toNetwork at h; try dsimp only at h
 cbv; obtain ⟨x1, hx1, h⟩ := of_cl h; try dsimp only at h
 refine ACall.mk _ _ rfl (hF _ _ _ (c_L_toLegS hg ht hx1)) (.inl rfl) (Nat.le_of_ble_eq_true rfl) ?_; cbv; obtain ⟨x2, hx2, h⟩ := of_cl h; try dsimp only at h
 refine ACall.mk _ _ rfl (hF _ _ _ (c_L_toIntS hg ht hx2)) (.inl rfl) (Nat.le_of_ble_eq_true rfl) ?_; cbv; obtain rfl := Option.some.inj h; exact ARet.mk ⟨⟨rfl, (dlen_Leg hg ht _)⟩, ⟨rfl, (dlen_I64 hg ht _)⟩⟩ hX.symm
def ir19 : J := .seq (.reg none [⟨some 4, none, .mv (.k (V.b false))⟩] [0, 1]) (.seq (.seq (.reg none [⟨some 6, none, .mv (.t 0)⟩,⟨some 7, none, .len false (.t 6)⟩,⟨some 8, none, .mv (.t 1)⟩,⟨some 9, none, .len false (.t 8)⟩,⟨some 10, none, .bin .neq .i (.t 7) (.t 9)⟩] [0, 1, 10]) (.cond (.t 10) (.seq (.reg none [⟨some 4, none, .mv (.k (V.b false))⟩] [4]) (.ret)) (.skip))) (.seq (.seq (.reg none [⟨some 5, none, .mv (.k (V.i 0))⟩] [0, 1, 5]) (.bl 0 (.seq (.seq (.reg none [⟨some 11, none, .mv (.t 5)⟩,⟨some 12, none, .mv (.t 0)⟩,⟨some 13, none, .len false (.t 12)⟩,⟨some 14, none, .bin .lss .i (.t 11) (.t 13)⟩] [0, 1, 5, 14]) (.cond (.t 14) (.skip) (.exit 0))) (.seq (.block 1 (.seq (.reg (some [[], [], [0, 1], [0, 1, 2], [], [], [4, 5], [4, 5, 6], [0, 1, 2, 3, 4, 5, 6, 7]]) [⟨some 17, none, .mv (.t 0)⟩,⟨some 18, none, .mv (.t 5)⟩,⟨some 19, none, .ia 1 (.t 17) (.t 18)⟩,⟨some 20, none, .ld false 1 (.t 19)⟩,⟨some 21, none, .mv (.t 1)⟩,⟨some 22, none, .mv (.t 5)⟩,⟨some 23, none, .ia 1 (.t 21) (.t 22)⟩,⟨some 24, none, .ld false 1 (.t 23)⟩,⟨some 25, none, .bin .neq .i (.t 20) (.t 24)⟩] [0, 1, 5, 25]) (.cond (.t 25) (.seq (.reg none [⟨some 4, none, .mv (.k (V.b false))⟩] [4]) (.ret)) (.skip)))) (.reg none [⟨some 15, none, .mv (.t 5)⟩,⟨some 16, none, .bin .add .i (.t 15) (.k (V.i 1))⟩,⟨some 5, none, .mv (.t 16)⟩] [0, 1, 5]))))) (.seq (.reg none [⟨some 4, none, .mv (.k (V.b true))⟩] [4]) (.ret))))
def rv19 : List RV := [.t 4]
def L_eqIntS_l1 (g : G) (t : TE) (a1 : List Int) : List Int → Int → Option (LR Bool Unit)
  | [], v1 =>
    some (LR.out ())
  | z1 :: ls1, v1 =>
    gt a1 (g.nat v1) fun x1 =>
    br (g.eq z1 x1)
    (
     L_eqIntS_l1 g t a1 ls1 (g.wrap .i64 (g.add v1 1)))
    (
     some (LR.ret false))
def L_eqIntS (g : G) (t : TE) (a0 : List Int) (a1 : List Int) : Option Bool :=
  br (g.eq (g.llen (t.r_I64 a0)) (g.llen (t.r_I64 a1)))
  (
   cl (L_eqIntS_l1 g t a1 a0 0) fun o1 => lr o1 fun y1 =>
   some true)
  (
   some false)
theorem c_L_eqIntS {g : G} {t : TE} {a0 : List Int} {a1 : List Int} {r : Bool} (hg : g = G.real) (ht : t = TE.real) (h : L_eqIntS g t a0 a1 = some r) : Fn Try.prog 19 [.c (.s 1 (t.r_I64 a0)), .c (.s 1 (t.r_I64 a1))] (.c (.r (.v (.bool r)))) := by
 obtain ⟨X, hX⟩ := hide (.c (.r (.v (.bool r))) : X); rw [← hX]; refine fn_of (rvs := rv19) (j := ir19) Try.func19 rfl (by kernel_rfl) (Nat.le_of_ble_eq_true rfl) (by kernel_rfl) prog_mixed ?_; intro g2 F hg2 hF; obtain rfl : g2 = g := hg2.unique.trans hg.symm; clear hg2; obtain ⟨wrap, lt, _, eq, _, _, _, _, _, _, _, _, _, add, _, _, _, _, _, _, _, llen, _, _, _, _, _, _, _, _, _, _, _, _, _, _, _, _, _, _, _, _, _, _⟩ := g2; obtain ⟨_, _, r_I64, _, _, _, _, _, _, _, _, _, _, _, _⟩ := t
 unfold L_eqIntS at h; try dsimp only at h
 cbv
 cases hb1 : (eq (llen (r_I64 a0)) (llen (r_I64 a1)))
 ·rw [br_false hb1] at h; cbv; obtain rfl := Option.some.inj h; exact ARet.mk trivial hX.symm
 rw [br_true hb1] at h; cbv; obtain ⟨o1, ho1, h⟩ := of_cl h; try dsimp only at h
 try rw [hg] at ho1
 try rw [ht] at ho1
 refine ABL.mk { p : Nat × Int // p.1 ≤ a0.length ∧ p.2 = ((p.1 : Nat) : Int) ∧ L_eqIntS_l1 G.real TE.real a1 (List.drop p.1 a0) p.2 = some o1 } (fun ⟨⟨k1, v1⟩, _⟩ => ({ sl := [(0, .c (.r (.s 1 (r_I64 a0)))), (1, .c (.r (.s 1 (r_I64 a1)))), (5, .c (.r (.v (.int .i64 v1))))], tab := [] } : St)) 0 (fun p => a0.length - p.1.1) ⟨(0, 0), Nat.zero_le _, rfl, ho1⟩ (Unit) (fun _ => ({ sl := [], tab := [] } : St)) 0 (fun y => o1 = LR.out y) ?_ ?_ ?_
 ·refine Wk.of [] rfl rfl ?_ ?_
  ·cbv; all_goals exact ⟨⟨_, rfl, rfl⟩, ⟨_, rfl, rfl⟩, ⟨_, rfl, rfl⟩, trivial⟩
  cbv; all_goals exact trivial
 ·rintro ⟨⟨k1, v1⟩, hk1, hi1, h_1⟩ hq1; have hm1 := (hq1.1 0 _ _ rfl); try dsimp only at hk1 hi1 h_1
  clear hq1; cbv
  by_cases hc1_ : k1 < a0.length
  ·have hb2 : lt v1 (llen (r_I64 a0)) = true := ltL_true_I64 hg ht hi1 hc1_; have hs1 := stepL_I64 hg ht hi1 hc1_ hm1; obtain ⟨z1, hz1⟩ := some_of_lt hc1_; rw [drop_of_some hz1] at h_1; rw [L_eqIntS_l1] at h_1; try rw [← hg] at h_1
   try rw [← ht] at h_1
   try dsimp only at h_1
   rw [hb2]; cbv; refine AStep.mk (nn_L hi1) ?_; cbv; refine AGet.mk _ (r_getL_I64 hg ht hi1 hz1) ?_; cbv; refine AStep.mk (nn_L hi1) ?_; cbv; obtain ⟨x1, hx1, h_1⟩ := of_gt h_1; try dsimp only at h_1
   refine AGet.mk _ (r_get_I64 hg ht hx1) ?_; cbv
   cases hb3 : (eq z1 x1)
   ·rw [br_false hb3] at h_1; cbv; obtain rfl := Option.some.inj h_1; try dsimp only [lr, lrL, lrp, lrpL] at h
    obtain rfl := Option.some.inj h; exact ARet.mk trivial hX.symm
   rw [br_true hb3] at h_1; cbv; try rw [hg] at h_1
   try rw [ht] at h_1
   refine ⟨⟨(k1 + 1, (wrap .i64 (add v1 1))), hc1_, hs1, h_1⟩, Wk.of [] rfl rfl ?_ ?_, meas_L hc1_⟩
   ·cbv; all_goals exact ⟨⟨_, rfl, rfl⟩, ⟨_, rfl, rfl⟩, ⟨_, rfl, rfl⟩, trivial⟩
   cbv; all_goals exact trivial
  have hb2 : lt v1 (llen (r_I64 a0)) = false := ltL_false_I64 hg ht hi1 hc1_; rw [List.drop_of_length_le (Nat.le_of_not_lt hc1_)] at h_1; rw [L_eqIntS_l1] at h_1; try rw [← hg] at h_1
  try rw [← ht] at h_1
  try dsimp only at h_1
  rw [hb2]; cbv; refine ⟨(), Wk.of [] rfl rfl ?_ ?_, (Option.some.inj h_1).symm⟩
  ·cbv; all_goals exact trivial
  cbv; all_goals exact trivial
 rintro _ hy1; replace hy1 := hy1.symm; subst hy1; try dsimp only [lr, lrL, lrp, lrpL] at h
 cbv; obtain rfl := Option.some.inj h; exact ARet.mk trivial hX.symm
def ir81 : J := .seq (.reg none [⟨some 2, none, .box (.t 0)⟩,⟨some 3, none, .box (.t 1)⟩,⟨some 4, none, .mv (.k (V.b false))⟩] [2, 3]) (.seq (.seq (.reg none [⟨some 5, none, .fa 0 (.t 2)⟩,⟨some 6, none, .ld false 1 (.t 5)⟩,⟨some 7, none, .fa 0 (.t 3)⟩,⟨some 8, none, .ld false 1 (.t 7)⟩,⟨some 9, none, .bin .neq .s (.t 6) (.t 8)⟩] [2, 3, 9]) (.cond (.t 9) (.seq (.reg none [⟨some 4, none, .mv (.k (V.b false))⟩] [4]) (.ret)) (.skip))) (.seq (.seq (.reg none [⟨some 10, none, .fa 1 (.t 2)⟩,⟨some 11, none, .ld false 1 (.t 10)⟩,⟨some 12, none, .fa 1 (.t 3)⟩,⟨some 13, none, .ld false 1 (.t 12)⟩,⟨some 14, none, .bin .neq .s (.t 11) (.t 13)⟩] [2, 3, 14]) (.cond (.t 14) (.seq (.reg none [⟨some 4, none, .mv (.k (V.b false))⟩] [4]) (.ret)) (.skip))) (.seq (.seq (.reg none [⟨some 15, none, .fa 2 (.t 2)⟩,⟨some 16, none, .ld false 1 (.t 15)⟩,⟨some 17, none, .fa 2 (.t 3)⟩,⟨some 18, none, .ld false 1 (.t 17)⟩,⟨some 19, none, .bin .neq .i (.t 16) (.t 18)⟩] [2, 3, 19]) (.cond (.t 19) (.seq (.reg none [⟨some 4, none, .mv (.k (V.b false))⟩] [4]) (.ret)) (.skip))) (.seq (.seq (.reg none [⟨some 20, none, .fa 3 (.t 2)⟩,⟨some 21, none, .ld false 1 (.t 20)⟩,⟨some 22, none, .fa 3 (.t 3)⟩,⟨some 23, none, .ld false 1 (.t 22)⟩,⟨some 24, none, .bin .neq .i (.t 21) (.t 23)⟩] [2, 3, 24]) (.cond (.t 24) (.seq (.reg none [⟨some 4, none, .mv (.k (V.b false))⟩] [4]) (.ret)) (.skip))) (.seq (.seq (.reg none [⟨some 25, none, .fa 4 (.t 2)⟩,⟨some 26, none, .ld false 1 (.t 25)⟩,⟨some 27, none, .fa 4 (.t 3)⟩,⟨some 28, none, .ld false 1 (.t 27)⟩,⟨some 29, none, .bin .neq .i (.t 26) (.t 28)⟩] [2, 3, 29]) (.cond (.t 29) (.seq (.reg none [⟨some 4, none, .mv (.k (V.b false))⟩] [4]) (.ret)) (.skip))) (.seq (.seq (.reg none [⟨some 30, none, .fa 5 (.t 2)⟩,⟨some 31, none, .ld false 1 (.t 30)⟩,⟨some 32, none, .fa 5 (.t 3)⟩,⟨some 33, none, .ld false 1 (.t 32)⟩,⟨some 34, none, .bin .neq .i (.t 31) (.t 33)⟩] [34]) (.cond (.t 34) (.seq (.reg none [⟨some 4, none, .mv (.k (V.b false))⟩] [4]) (.ret)) (.skip))) (.seq (.reg none [⟨some 4, none, .mv (.k (V.b true))⟩] [4]) (.ret))))))))
def rv81 : List RV := [.t 4]
def L_eqLeg (g : G) (t : TE) (a0 : Leg) (a1 : Leg) : Bool :=
  br (g.seq a0.From a1.From)
  (
   br (g.seq a0.To a1.To)
   (
    br (g.eq a0.Start a1.Start)
    (
     br (g.eq a0.Takes a1.Takes)
     (
      br (g.eq a0.Days a1.Days)
      (
       br (g.eq a0.Room a1.Room)
       (
        true)
       (
        false))
      (
       false))
     (
      false))
    (
     false))
   (
    false))
  (
   false)
theorem c_L_eqLeg {g : G} {t : TE} {a0 : Leg} {a1 : Leg} {r : Bool} (hg : g = G.real) (ht : t = TE.real) (h : L_eqLeg g t a0 a1 = r) : Fn Try.prog 81 [.g (Leg.rs t a0), .g (Leg.rs t a1)] (.c (.r (.v (.bool r)))) := by
 obtain ⟨X, hX⟩ := hide (.c (.r (.v (.bool r))) : X); rw [← hX]; refine fn_of (rvs := rv81) (j := ir81) Try.func81 rfl (by kernel_rfl) (Nat.le_of_ble_eq_true rfl) (by kernel_rfl) prog_mixed ?_; intro g2 F hg2 hF; obtain rfl : g2 = g := hg2.unique.trans hg.symm; clear hg2; obtain ⟨_, _, _, eq, _, _, _, _, _, _, _, _, _, _, _, _, _, seq, _, _, _, _, _, _, _, _, _, _, _, _, _, _, _, _, _, _, _, _, _, _, _, _, _, _⟩ := g2; obtain ⟨_, _, _, _, _, _, _, _, _, _, _, _, _, _, _⟩ := t
 obtain ⟨a0_From, a0_To, a0_Start, a0_Takes, a0_Days, a0_Room⟩ := a0; obtain ⟨a1_From, a1_To, a1_Start, a1_Takes, a1_Days, a1_Room⟩ := a1; unfold L_eqLeg at h; try dsimp only at h
 cbv
 cases hb1 : (seq a0_From a1_From)
 ·rw [br_false hb1] at h; cbv; subst h; exact ARet.mk trivial hX.symm
 rw [br_true hb1] at h; cbv
 cases hb2 : (seq a0_To a1_To)
 ·rw [br_false hb2] at h; cbv; subst h; exact ARet.mk trivial hX.symm
 rw [br_true hb2] at h; cbv
 cases hb3 : (eq a0_Start a1_Start)
 ·rw [br_false hb3] at h; cbv; subst h; exact ARet.mk trivial hX.symm
 rw [br_true hb3] at h; cbv
 cases hb4 : (eq a0_Takes a1_Takes)
 ·rw [br_false hb4] at h; cbv; subst h; exact ARet.mk trivial hX.symm
 rw [br_true hb4] at h; cbv
 cases hb5 : (eq a0_Days a1_Days)
 ·rw [br_false hb5] at h; cbv; subst h; exact ARet.mk trivial hX.symm
 rw [br_true hb5] at h; cbv
 cases hb6 : (eq a0_Room a1_Room)
 rotate_left
 ·rw [br_true hb6] at h; cbv; subst h; exact ARet.mk trivial hX.symm
 rw [br_false hb6] at h; cbv; subst h; exact ARet.mk trivial hX.symm
def ir45 : J := .seq (.reg none [⟨some 4, none, .mv (.k (V.b false))⟩] [0, 1]) (.seq (.seq (.reg none [⟨some 6, none, .mv (.t 0)⟩,⟨some 7, none, .len false (.t 6)⟩,⟨some 8, none, .mv (.t 1)⟩,⟨some 9, none, .len false (.t 8)⟩,⟨some 10, none, .bin .neq .i (.t 7) (.t 9)⟩] [0, 1, 10]) (.cond (.t 10) (.seq (.reg none [⟨some 4, none, .mv (.k (V.b false))⟩] [4]) (.ret)) (.skip))) (.seq (.seq (.reg none [⟨some 5, none, .mv (.k (V.i 0))⟩] [0, 1, 5]) (.bl 0 (.seq (.seq (.reg none [⟨some 11, none, .mv (.t 5)⟩,⟨some 12, none, .mv (.t 0)⟩,⟨some 13, none, .len false (.t 12)⟩,⟨some 14, none, .bin .lss .i (.t 11) (.t 13)⟩] [0, 1, 5, 14]) (.cond (.t 14) (.skip) (.exit 0))) (.seq (.block 1 (.seq (.reg (some [[], [], [0, 1], [0, 1, 2], [], [], [4, 5], [4, 5, 6], [0, 1, 2, 3, 4, 5, 6, 7], [0, 1, 2, 3, 4, 5, 6, 7, 8]]) [⟨some 17, none, .mv (.t 0)⟩,⟨some 18, none, .mv (.t 5)⟩,⟨some 19, none, .ia 6 (.t 17) (.t 18)⟩,⟨some 20, none, .ld true 6 (.t 19)⟩,⟨some 21, none, .mv (.t 1)⟩,⟨some 22, none, .mv (.t 5)⟩,⟨some 23, none, .ia 6 (.t 21) (.t 22)⟩,⟨some 24, none, .ld true 6 (.t 23)⟩,⟨some 25, none, .call 81 true [(.t 20), (.t 24)]⟩,⟨some 26, none, .not (.t 25)⟩] [0, 1, 5, 26]) (.cond (.t 26) (.seq (.reg none [⟨some 4, none, .mv (.k (V.b false))⟩] [4]) (.ret)) (.skip)))) (.reg none [⟨some 15, none, .mv (.t 5)⟩,⟨some 16, none, .bin .add .i (.t 15) (.k (V.i 1))⟩,⟨some 5, none, .mv (.t 16)⟩] [0, 1, 5]))))) (.seq (.reg none [⟨some 4, none, .mv (.k (V.b true))⟩] [4]) (.ret))))
def rv45 : List RV := [.t 4]
def L_eqLegS_l1 (g : G) (t : TE) (a1 : List Leg) : List Leg → Int → Option (LR Bool Unit)
  | [], v1 =>
    some (LR.out ())
  | z1 :: ls1, v1 =>
    gt a1 (g.nat v1) fun x1 =>
    lP (L_eqLeg g t z1 x1) fun x2 =>
    br x2
    (
     L_eqLegS_l1 g t a1 ls1 (g.wrap .i64 (g.add v1 1)))
    (
     some (LR.ret false))
def L_eqLegS (g : G) (t : TE) (a0 : List Leg) (a1 : List Leg) : Option Bool :=
  br (g.eq (g.llen (t.r_Leg a0)) (g.llen (t.r_Leg a1)))
  (
   cl (L_eqLegS_l1 g t a1 a0 0) fun o1 => lr o1 fun y1 =>
   some true)
  (
   some false)
theorem c_L_eqLegS {g : G} {t : TE} {a0 : List Leg} {a1 : List Leg} {r : Bool} (hg : g = G.real) (ht : t = TE.real) (h : L_eqLegS g t a0 a1 = some r) : Fn Try.prog 45 [.c (.s 6 (t.r_Leg a0)), .c (.s 6 (t.r_Leg a1))] (.c (.r (.v (.bool r)))) := by
 obtain ⟨X, hX⟩ := hide (.c (.r (.v (.bool r))) : X); rw [← hX]; refine fn_of (rvs := rv45) (j := ir45) Try.func45 rfl (by kernel_rfl) (Nat.le_of_ble_eq_true rfl) (by kernel_rfl) prog_mixed ?_; intro g2 F hg2 hF; obtain rfl : g2 = g := hg2.unique.trans hg.symm; clear hg2; obtain ⟨wrap, lt, _, eq, _, _, _, _, _, _, _, _, _, add, _, _, _, _, _, _, _, llen, _, _, _, _, _, _, _, _, _, _, _, _, _, _, _, _, _, _, _, _, _, _⟩ := g2; obtain ⟨r_Leg, _, _, _, _, _, _, _, _, _, _, _, _, _, _⟩ := t
 unfold L_eqLegS at h; try dsimp only at h
 cbv
 cases hb1 : (eq (llen (r_Leg a0)) (llen (r_Leg a1)))
 ·rw [br_false hb1] at h; cbv; obtain rfl := Option.some.inj h; exact ARet.mk trivial hX.symm
 rw [br_true hb1] at h; cbv; obtain ⟨o1, ho1, h⟩ := of_cl h; try dsimp only at h
 try rw [hg] at ho1
 try rw [ht] at ho1
 refine ABL.mk { p : Nat × Int // p.1 ≤ a0.length ∧ p.2 = ((p.1 : Nat) : Int) ∧ L_eqLegS_l1 G.real TE.real a1 (List.drop p.1 a0) p.2 = some o1 } (fun ⟨⟨k1, v1⟩, _⟩ => ({ sl := [(0, .c (.r (.s 6 (r_Leg a0)))), (1, .c (.r (.s 6 (r_Leg a1)))), (5, .c (.r (.v (.int .i64 v1))))], tab := [] } : St)) 0 (fun p => a0.length - p.1.1) ⟨(0, 0), Nat.zero_le _, rfl, ho1⟩ (Unit) (fun _ => ({ sl := [], tab := [] } : St)) 0 (fun y => o1 = LR.out y) ?_ ?_ ?_
 ·refine Wk.of [] rfl rfl ?_ ?_
  ·cbv; all_goals exact ⟨⟨_, rfl, rfl⟩, ⟨_, rfl, rfl⟩, ⟨_, rfl, rfl⟩, trivial⟩
  cbv; all_goals exact trivial
 ·rintro ⟨⟨k1, v1⟩, hk1, hi1, h_1⟩ hq1; have hm1 := (hq1.1 0 _ _ rfl); try dsimp only at hk1 hi1 h_1
  clear hq1; cbv
  by_cases hc1_ : k1 < a0.length
  ·have hb2 : lt v1 (llen (r_Leg a0)) = true := ltL_true_Leg hg ht hi1 hc1_; have hs1 := stepL_Leg hg ht hi1 hc1_ hm1; obtain ⟨z1, hz1⟩ := some_of_lt hc1_; rw [drop_of_some hz1] at h_1; rw [L_eqLegS_l1] at h_1; obtain ⟨z1_From, z1_To, z1_Start, z1_Takes, z1_Days, z1_Room⟩ := z1; try rw [← hg] at h_1
   try rw [← ht] at h_1
   try dsimp only at h_1
   rw [hb2]; cbv; refine AStep.mk (nn_L hi1) ?_; cbv; refine AGet.mk _ (r_getL_Leg hg ht hi1 hz1) ?_; cbv; refine AStep.mk (nn_L hi1) ?_; cbv; obtain ⟨x1, hx1, h_1⟩ := of_gt h_1; obtain ⟨x1_From, x1_To, x1_Start, x1_Takes, x1_Days, x1_Room⟩ := x1; try dsimp only at h_1
   refine AGet.mk _ (r_get_Leg hg ht hx1) ?_; cbv; obtain ⟨x2, hx2, h_1⟩ := of_lP h_1; try dsimp only at h_1
   refine ACall.mk _ _ rfl (hF _ _ _ (c_L_eqLeg hg ht hx2)) (.inl rfl) (Nat.le_of_ble_eq_true rfl) ?_; cbv
   cases hb3 : x2
   ·rw [br_false hb3] at h_1; cbv; obtain rfl := Option.some.inj h_1; try dsimp only [lr, lrL, lrp, lrpL] at h
    obtain rfl := Option.some.inj h; exact ARet.mk trivial hX.symm
   rw [br_true hb3] at h_1; cbv; try rw [hg] at h_1
   try rw [ht] at h_1
   refine ⟨⟨(k1 + 1, (wrap .i64 (add v1 1))), hc1_, hs1, h_1⟩, Wk.of [] rfl rfl ?_ ?_, meas_L hc1_⟩
   ·cbv; all_goals exact ⟨⟨_, rfl, rfl⟩, ⟨_, rfl, rfl⟩, ⟨_, rfl, rfl⟩, trivial⟩
   cbv; all_goals exact trivial
  have hb2 : lt v1 (llen (r_Leg a0)) = false := ltL_false_Leg hg ht hi1 hc1_; rw [List.drop_of_length_le (Nat.le_of_not_lt hc1_)] at h_1; rw [L_eqLegS_l1] at h_1; try rw [← hg] at h_1
  try rw [← ht] at h_1
  try dsimp only at h_1
  rw [hb2]; cbv; refine ⟨(), Wk.of [] rfl rfl ?_ ?_, (Option.some.inj h_1).symm⟩
  ·cbv; all_goals exact trivial
  cbv; all_goals exact trivial
 rintro _ hy1; replace hy1 := hy1.symm; subst hy1; try dsimp only [lr, lrL, lrp, lrpL] at h
 cbv; obtain rfl := Option.some.inj h; exact ARet.mk trivial hX.symm
def ir12 : J := .seq (.reg none [⟨some 2, none, .box (.t 0)⟩,⟨some 3, none, .box (.t 1)⟩,⟨some 4, none, .mv (.k (V.b false))⟩] [2, 3]) (.seq (.seq (.reg none [⟨some 5, none, .fa 0 (.t 2)⟩,⟨some 6, none, .ld false 1 (.t 5)⟩,⟨some 7, none, .fa 0 (.t 3)⟩,⟨some 8, none, .ld false 1 (.t 7)⟩,⟨some 9, none, .call 45 true [(.t 6), (.t 8)]⟩,⟨some 10, none, .not (.t 9)⟩] [2, 3, 10]) (.cond (.t 10) (.seq (.reg none [⟨some 4, none, .mv (.k (V.b false))⟩] [4]) (.ret)) (.skip))) (.seq (.seq (.reg none [⟨some 11, none, .fa 1 (.t 2)⟩,⟨some 12, none, .ld false 1 (.t 11)⟩,⟨some 13, none, .fa 1 (.t 3)⟩,⟨some 14, none, .ld false 1 (.t 13)⟩,⟨some 15, none, .call 19 true [(.t 12), (.t 14)]⟩,⟨some 16, none, .not (.t 15)⟩] [2, 3, 16]) (.cond (.t 16) (.seq (.reg none [⟨some 4, none, .mv (.k (V.b false))⟩] [4]) (.ret)) (.skip))) (.seq (.seq (.reg none [⟨some 17, none, .fa 2 (.t 2)⟩,⟨some 18, none, .ld false 1 (.t 17)⟩,⟨some 19, none, .fa 2 (.t 3)⟩,⟨some 20, none, .ld false 1 (.t 19)⟩,⟨some 21, none, .bin .neq .i (.t 18) (.t 20)⟩] [21]) (.cond (.t 21) (.seq (.reg none [⟨some 4, none, .mv (.k (V.b false))⟩] [4]) (.ret)) (.skip))) (.seq (.reg none [⟨some 4, none, .mv (.k (V.b true))⟩] [4]) (.ret)))))
def rv12 : List RV := [.t 4]
def L_eqNetwork (g : G) (t : TE) (a0 : Network) (a1 : Network) : Option Bool :=
  cl (L_eqLegS g t a0.Legs a1.Legs) fun x1 =>
  br x1
  (
   cl (L_eqIntS g t a0.Off a1.Off) fun x2 =>
   br x2
   (
    br (g.eq a0.Change a1.Change)
    (
     some true)
    (
     some false))
   (
    some false))
  (
   some false)
theorem c_L_eqNetwork {g : G} {t : TE} {a0 : Network} {a1 : Network} {r : Bool} (hg : g = G.real) (ht : t = TE.real) (h : L_eqNetwork g t a0 a1 = some r) : Fn Try.prog 12 [.g (Network.rs t a0), .g (Network.rs t a1)] (.c (.r (.v (.bool r)))) := by
 obtain ⟨X, hX⟩ := hide (.c (.r (.v (.bool r))) : X); rw [← hX]; refine fn_of (rvs := rv12) (j := ir12) Try.func12 rfl (by kernel_rfl) (Nat.le_of_ble_eq_true rfl) (by kernel_rfl) prog_mixed ?_; intro g2 F hg2 hF; obtain rfl : g2 = g := hg2.unique.trans hg.symm; clear hg2; obtain ⟨_, _, _, eq, _, _, _, _, _, _, _, _, _, _, _, _, _, _, _, _, _, _, _, _, _, _, _, _, _, _, _, _, _, _, _, _, _, _, _, _, _, _, _, _⟩ := g2; obtain ⟨_, _, _, _, _, _, _, _, _, _, _, _, _, _, _⟩ := t
 obtain ⟨a0_Legs, a0_Off, a0_Change⟩ := a0; obtain ⟨a1_Legs, a1_Off, a1_Change⟩ := a1; unfold L_eqNetwork at h; try dsimp only at h
 cbv; obtain ⟨x1, hx1, h⟩ := of_cl h; try dsimp only at h
 refine ACall.mk _ _ rfl (hF _ _ _ (c_L_eqLegS hg ht hx1)) (.inl rfl) (Nat.le_of_ble_eq_true rfl) ?_; cbv
 cases hb1 : x1
 ·rw [br_false hb1] at h; cbv; obtain rfl := Option.some.inj h; exact ARet.mk trivial hX.symm
 rw [br_true hb1] at h; cbv; obtain ⟨x2, hx2, h⟩ := of_cl h; try dsimp only at h
 refine ACall.mk _ _ rfl (hF _ _ _ (c_L_eqIntS hg ht hx2)) (.inl rfl) (Nat.le_of_ble_eq_true rfl) ?_; cbv
 cases hb2 : x2
 ·rw [br_false hb2] at h; cbv; obtain rfl := Option.some.inj h; exact ARet.mk trivial hX.symm
 rw [br_true hb2] at h; cbv
 cases hb3 : (eq a0_Change a1_Change)
 rotate_left
 ·rw [br_true hb3] at h; cbv; obtain rfl := Option.some.inj h; exact ARet.mk trivial hX.symm
 rw [br_false hb3] at h; cbv; obtain rfl := Option.some.inj h; exact ARet.mk trivial hX.symm
def ir13 : J := .seq (.reg none [⟨some 4, none, .mv (.k (V.i 0))⟩] [0, 1]) (.seq (.reg none [⟨some 5, none, .mv (.t 1)⟩,⟨some 6, none, .mv (.t 0)⟩,⟨some 7, none, .len false (.t 6)⟩,⟨some 8, none, .bin .sub .i (.t 5) (.t 7)⟩,⟨some 1, none, .mv (.t 8)⟩] [1]) (.seq (.seq (.reg none [⟨some 9, none, .mv (.t 1)⟩,⟨some 10, none, .bin .lss .i (.t 9) (.k (V.i 0))⟩] [1, 10]) (.cond (.t 10) (.seq (.reg none [⟨some 4, none, .mv (.k (V.i (-1)))⟩] [4]) (.ret)) (.skip))) (.seq (.reg none [⟨some 11, none, .mv (.t 1)⟩,⟨some 4, none, .mv (.t 11)⟩] [4]) (.ret))))
def rv13 : List RV := [.t 4]
def L_szBookingS (g : G) (t : TE) (a0 : List Booking) (a1 : Int) : Int :=
  br (g.lt (g.wrap .i64 (g.sub a1 (g.llen (t.r_Booking a0)))) 0)
  (
   (-1))
  (
   (g.wrap .i64 (g.sub a1 (g.llen (t.r_Booking a0)))))
theorem c_L_szBookingS {g : G} {t : TE} {a0 : List Booking} {a1 : Int} {r : Int} (hg : g = G.real) (ht : t = TE.real) (h : L_szBookingS g t a0 a1 = r) : Fn Try.prog 13 [.c (.s 4 (t.r_Booking a0)), .c (.v (.int .i64 a1))] (.c (.r (.v (.int .i64 r)))) := by
 obtain ⟨X, hX⟩ := hide (.c (.r (.v (.int .i64 r))) : X); rw [← hX]; refine fn_of (rvs := rv13) (j := ir13) Try.func13 rfl (by kernel_rfl) (Nat.le_of_ble_eq_true rfl) (by kernel_rfl) prog_mixed ?_; intro g2 F hg2 hF; obtain rfl : g2 = g := hg2.unique.trans hg.symm; clear hg2; obtain ⟨wrap, lt, _, _, _, _, _, _, _, _, _, _, _, _, sub, _, _, _, _, _, _, llen, _, _, _, _, _, _, _, _, _, _, _, _, _, _, _, _, _, _, _, _, _, _⟩ := g2; obtain ⟨_, _, _, _, r_Booking, _, _, _, _, _, _, _, _, _, _⟩ := t
 unfold L_szBookingS at h; try dsimp only at h
 cbv
 cases hb1 : (lt (wrap .i64 (sub a1 (llen (r_Booking a0)))) 0)
 rotate_left
 ·rw [br_true hb1] at h; cbv; subst h; exact ARet.mk trivial hX.symm
 rw [br_false hb1] at h; cbv; subst h; exact ARet.mk trivial hX.symm
def ir14 : J := .seq (.reg none [⟨some 4, none, .mv (.k (V.i 0))⟩] [0, 1]) (.seq (.reg none [⟨some 5, none, .mv (.t 1)⟩,⟨some 6, none, .mv (.t 0)⟩,⟨some 7, none, .len false (.t 6)⟩,⟨some 8, none, .bin .sub .i (.t 5) (.t 7)⟩,⟨some 1, none, .mv (.t 8)⟩] [1]) (.seq (.seq (.reg none [⟨some 9, none, .mv (.t 1)⟩,⟨some 10, none, .bin .lss .i (.t 9) (.k (V.i 0))⟩] [1, 10]) (.cond (.t 10) (.seq (.reg none [⟨some 4, none, .mv (.k (V.i (-1)))⟩] [4]) (.ret)) (.skip))) (.seq (.reg none [⟨some 11, none, .mv (.t 1)⟩,⟨some 4, none, .mv (.t 11)⟩] [4]) (.ret))))
def rv14 : List RV := [.t 4]
def L_szTripS (g : G) (t : TE) (a0 : List Trip) (a1 : Int) : Int :=
  br (g.lt (g.wrap .i64 (g.sub a1 (g.llen (t.r_Trip a0)))) 0)
  (
   (-1))
  (
   (g.wrap .i64 (g.sub a1 (g.llen (t.r_Trip a0)))))
theorem c_L_szTripS {g : G} {t : TE} {a0 : List Trip} {a1 : Int} {r : Int} (hg : g = G.real) (ht : t = TE.real) (h : L_szTripS g t a0 a1 = r) : Fn Try.prog 14 [.c (.s 2 (t.r_Trip a0)), .c (.v (.int .i64 a1))] (.c (.r (.v (.int .i64 r)))) := by
 obtain ⟨X, hX⟩ := hide (.c (.r (.v (.int .i64 r))) : X); rw [← hX]; refine fn_of (rvs := rv14) (j := ir14) Try.func14 rfl (by kernel_rfl) (Nat.le_of_ble_eq_true rfl) (by kernel_rfl) prog_mixed ?_; intro g2 F hg2 hF; obtain rfl : g2 = g := hg2.unique.trans hg.symm; clear hg2; obtain ⟨wrap, lt, _, _, _, _, _, _, _, _, _, _, _, _, sub, _, _, _, _, _, _, llen, _, _, _, _, _, _, _, _, _, _, _, _, _, _, _, _, _, _, _, _, _, _⟩ := g2; obtain ⟨_, _, _, _, _, _, r_Trip, _, _, _, _, _, _, _, _⟩ := t
 unfold L_szTripS at h; try dsimp only at h
 cbv
 cases hb1 : (lt (wrap .i64 (sub a1 (llen (r_Trip a0)))) 0)
 rotate_left
 ·rw [br_true hb1] at h; cbv; subst h; exact ARet.mk trivial hX.symm
 rw [br_false hb1] at h; cbv; subst h; exact ARet.mk trivial hX.symm
def ir46 : J := .seq (.reg none [⟨some 1, none, .box (.t 0)⟩,⟨some 2, none, .mv (.k (.c (.n 1)))⟩] [1]) (.seq (.reg none [⟨some 7, none, .bsl 1 []⟩,⟨some 3, none, .mv (.t 7)⟩] [1, 3]) (.seq (.seq (.reg none [⟨some 4, none, .mv (.k (V.i 0))⟩] [1, 3, 4]) (.bl 0 (.seq (.seq (.reg none [⟨some 8, none, .mv (.t 4)⟩,⟨some 9, none, .fa 0 (.t 1)⟩,⟨some 10, none, .ld false 1 (.t 9)⟩,⟨some 11, none, .len false (.t 10)⟩,⟨some 12, none, .bin .mul .i (.k (V.i 2)) (.t 11)⟩,⟨some 13, none, .bin .lss .i (.t 8) (.t 12)⟩] [1, 3, 4, 13]) (.cond (.t 13) (.skip) (.exit 0))) (.seq (.block 1 (.seq (.reg none [⟨some 16, none, .fa 0 (.t 1)⟩,⟨some 17, none, .ld false 1 (.t 16)⟩,⟨some 18, none, .mv (.t 4)⟩,⟨some 19, none, .bin .quo .i (.t 18) (.k (V.i 2))⟩,⟨some 20, none, .ia 6 (.t 17) (.t 19)⟩,⟨some 21, none, .fa 0 (.t 20)⟩,⟨some 22, none, .ld false 1 (.t 21)⟩,⟨some 5, none, .mv (.t 22)⟩] [1, 3, 4, 5]) (.seq (.seq (.reg none [⟨some 23, none, .mv (.t 4)⟩,⟨some 24, none, .bin .rem .i (.t 23) (.k (V.i 2))⟩,⟨some 25, none, .bin .eql .i (.t 24) (.k (V.i 1))⟩] [1, 3, 4, 5, 25]) (.cond (.t 25) (.reg none [⟨some 26, none, .fa 0 (.t 1)⟩,⟨some 27, none, .ld false 1 (.t 26)⟩,⟨some 28, none, .mv (.t 4)⟩,⟨some 29, none, .bin .quo .i (.t 28) (.k (V.i 2))⟩,⟨some 30, none, .ia 6 (.t 27) (.t 29)⟩,⟨some 31, none, .fa 1 (.t 30)⟩,⟨some 32, none, .ld false 1 (.t 31)⟩,⟨some 5, none, .mv (.t 32)⟩] [1, 3, 4, 5]) (.skip))) (.seq (.reg none [⟨some 6, none, .mv (.k (V.i 0))⟩] [1, 3, 4, 5, 6]) (.seq (.bl 2 (.seq (.seq (.reg none [⟨some 33, none, .mv (.t 6)⟩,⟨some 34, none, .mv (.t 3)⟩,⟨some 35, none, .len false (.t 34)⟩,⟨some 36, none, .bin .lss .i (.t 33) (.t 35)⟩,⟨some 37, none, .mv (.t 36)⟩,⟨some 38, (some (37, true)), .mv (.t 3)⟩,⟨some 39, (some (37, true)), .mv (.t 6)⟩,⟨some 40, (some (37, true)), .ia 1 (.t 38) (.t 39)⟩,⟨some 41, (some (37, true)), .ld false 1 (.t 40)⟩,⟨some 42, (some (37, true)), .mv (.t 5)⟩,⟨some 43, (some (37, true)), .bin .lss .s (.t 41) (.t 42)⟩,⟨some 44, none, .pick (.t 37) (.t 43) (.k (V.b false))⟩] [1, 3, 4, 5, 6, 44]) (.cond (.t 44) (.skip) (.exit 2))) (.block 3 (.reg none [⟨some 45, none, .mv (.t 6)⟩,⟨some 46, none, .bin .add .i (.t 45) (.k (V.i 1))⟩,⟨some 6, none, .mv (.t 46)⟩] [1, 3, 4, 5, 6])))) (.seq (.reg none [⟨some 47, none, .mv (.t 6)⟩,⟨some 48, none, .mv (.t 3)⟩,⟨some 49, none, .len false (.t 48)⟩,⟨some 50, none, .bin .eql .i (.t 47) (.t 49)⟩,⟨some 51, none, .mv (.t 50)⟩,⟨some 52, (some (51, false)), .mv (.t 3)⟩,⟨some 53, (some (51, false)), .mv (.t 6)⟩,⟨some 54, (some (51, false)), .ia 1 (.t 52) (.t 53)⟩,⟨some 55, (some (51, false)), .ld false 1 (.t 54)⟩,⟨some 56, (some (51, false)), .mv (.t 5)⟩,⟨some 57, (some (51, false)), .bin .neq .s (.t 55) (.t 56)⟩,⟨some 58, none, .pick (.t 51) (.k (V.b true)) (.t 57)⟩] [1, 3, 4, 5, 6, 58]) (.cond (.t 58) (.reg (some [[], [], [], [1, 2], [0, 1, 2, 3], [], [5], [0, 1, 2, 3, 4, 5, 6], [], [], [8, 9], [0, 1, 2, 3, 4, 5, 6, 7, 8, 9, 10], [0, 1, 2, 3, 4, 5, 6, 7, 8, 9, 10, 11]]) [⟨some 59, none, .bsl 1 []⟩,⟨some 60, none, .mv
 (.t 3)⟩,⟨some 61, none, .mv (.t 6)⟩,⟨some 62, none, .sl 1 (.t 60) none (some (.t 61))⟩,⟨some 63, none, .app 1 16 false (.t 59) (.t 62)⟩,⟨some 64, none, .mv (.t 5)⟩,⟨some 65, none, .bsl 1 [(.t 64)]⟩,⟨some 66, none, .app 1 16 true (.t 63) (.t 65)⟩,⟨some 67, none, .mv (.t 3)⟩,⟨some 68, none, .mv (.t 6)⟩,⟨some 69, none, .sl 1 (.t 67) (some (.t 68)) none⟩,⟨some 70, none, .app 1 16 false (.t 66) (.t 69)⟩,⟨some 3, none, .mv (.t 70)⟩] [1, 3, 4]) (.skip)))))))) (.reg none [⟨some 14, none, .mv (.t 4)⟩,⟨some 15, none, .bin .add .i (.t 14) (.k (V.i 1))⟩,⟨some 4, none, .mv (.t 15)⟩] [1, 3, 4]))))) (.seq (.reg none [⟨some 71, none, .mv (.t 3)⟩,⟨some 2, none, .mv (.t 71)⟩] [2]) (.ret))))
def rv46 : List RV := [.t 2]
def S_PlacesOf_l3 (g : G) (t : TE) (w1 : List ByteArray) (x1 : Leg) : Nat → Int → Option Int
  | 0, v3 =>
    some v3
  | n3 + 1, v3 =>
    gt w1 (g.nat v3) fun x4 =>
    br (g.slt x4 x1.From)
    (
     S_PlacesOf_l3 g t w1 x1 n3 (g.wrap .i64 (g.add v3 1)))
    (
     some v3)
def S_PlacesOf_l2 (g : G) (t : TE) (w1 : List ByteArray) (x1 : Leg) : Nat → Int → Option Int
  | 0, v2 =>
    some v2
  | n2 + 1, v2 =>
    gt w1 (g.nat v2) fun x2 =>
    br (g.slt x2 x1.To)
    (
     S_PlacesOf_l2 g t w1 x1 n2 (g.wrap .i64 (g.add v2 1)))
    (
     some v2)
def S_PlacesOf_l1 (g : G) (t : TE) (a0 : Network) : Nat → Int → List ByteArray → Option (List ByteArray)
  | 0, v1, w1 =>
    some w1
  | n1 + 1, v1, w1 =>
    gd (((0 : Int) ≤ (g.wrap .i64 (g.quo v1 2)))) <|
    gt a0.Legs (g.nat (g.wrap .i64 (g.quo v1 2))) fun x1 =>
    br (g.eq (g.rem v1 2) 1)
    (
     gd (((0 : Int) ≤ (g.wrap .i64 (g.quo v1 2)))) <|
     gd (((g.int (g.dlen (t.d_S w1))) ≤ 9223372036854775807)) <|
     cl (S_PlacesOf_l2 g t w1 x1 (cntLt 0 (g.int (g.dlen (t.d_S w1)))) 0) fun y1 =>
     br (g.eq y1 (g.int (g.dlen (t.d_S w1))))
     (
      lP ([]) fun (l2 : List ByteArray) =>
      gd (((0 : Int) ≤ 0 ∧ 0 ≤ y1 ∧ y1 ≤ (((g.dlen (t.d_S w1)) : Nat) : Int))) <|
      gd (((g.nat 0) + (g.nsub (g.nat y1) (g.nat 0)) ≤ w1.length)) <|
      gd (((l2.length + (List.take (g.nsub (g.nat y1) (g.nat 0)) (List.drop (g.nat 0) w1)).length) * 16 ≤ 70368744177664)) <|
      lP (l2 ++ (List.take (g.nsub (g.nat y1) (g.nat 0)) (List.drop (g.nat 0) w1))) fun (l3 : List ByteArray) =>
      lP ([x1.To]) fun (l4 : List ByteArray) =>
      gd (((l3.length + l4.length) * 16 ≤ 70368744177664)) <|
      lP (l3 ++ l4) fun (l5 : List ByteArray) =>
      gd (((0 : Int) ≤ y1 ∧ y1 ≤ (g.int (g.dlen (t.d_S w1))) ∧ (g.int (g.dlen (t.d_S w1))) ≤ (((g.dlen (t.d_S w1)) : Nat) : Int))) <|
      gd (((g.nat y1) + (g.nsub (g.nat (g.int (g.dlen (t.d_S w1)))) (g.nat y1)) ≤ w1.length)) <|
      gd (((l5.length + (List.take (g.nsub (g.nat (g.int (g.dlen (t.d_S w1)))) (g.nat y1)) (List.drop (g.nat y1) w1)).length) * 16 ≤ 70368744177664)) <|
      lP (l5 ++ (List.take (g.nsub (g.nat (g.int (g.dlen (t.d_S w1)))) (g.nat y1)) (List.drop (g.nat y1) w1))) fun (l6 : List ByteArray) =>
      S_PlacesOf_l1 g t a0 n1 (g.wrap .i64 (g.add v1 1)) l6)
     (
      gd (((0 : Int) ≤ y1 ∧ y1 < (((g.dlen (t.d_S w1)) : Nat) : Int))) <|
      gt w1 (g.nat y1) fun x3 =>
      br (g.seq x3 x1.To)
      (
       S_PlacesOf_l1 g t a0 n1 (g.wrap .i64 (g.add v1 1)) w1)
      (
       lP ([]) fun (l7 : List ByteArray) =>
       gd (((0 : Int) ≤ 0 ∧ 0 ≤ y1 ∧ y1 ≤ (((g.dlen (t.d_S w1)) : Nat) : Int))) <|
       gd (((g.nat 0) + (g.nsub (g.nat y1) (g.nat 0)) ≤ w1.length)) <|
       gd (((l7.length + (List.take (g.nsub (g.nat y1) (g.nat 0)) (List.drop (g.nat 0) w1)).length) * 16 ≤ 70368744177664)) <|
       lP (l7 ++ (List.take (g.nsub (g.nat y1) (g.nat 0)) (List.drop (g.nat 0) w1))) fun (l8 : List ByteArray) =>
       lP ([x1.To]) fun (l9 : List ByteArray) =>
       gd (((l8.length + l9.length) * 16 ≤ 70368744177664)) <|
       lP (l8 ++ l9) fun (l10 : List ByteArray) =>
       gd (((0 : Int) ≤ y1 ∧ y1 ≤ (g.int (g.dlen (t.d_S w1))) ∧ (g.int (g.dlen (t.d_S w1))) ≤ (((g.dlen (t.d_S w1)) : Nat) : Int))) <|
       gd (((g.nat y1) + (g.nsub (g.nat (g.int (g.dlen (t.d_S w1)))) (g.nat y1)) ≤ w1.length)) <|
       gd (((l10.length + (List.take (g.nsub (g.nat (g.int (g.dlen (t.d_S w1)))) (g.nat y1)) (List.drop (g.nat y1) w1)).length) * 16 ≤ 70368744177664)) <|
       lP (l10 ++ (List.take (g.nsub (g.nat (g.int (g.dlen (t.d_S w1)))) (g.nat y1)) (List.drop (g.nat y1) w1))) fun (l11 : List ByteArray) =>
       S_PlacesOf_l1 g t a0 n1 (g.wrap .i64 (g.add v1 1)) l11)))
    (
     gd (((g.int (g.dlen (t.d_S w1))) ≤ 9223372036854775807)) <|
     cl (S_PlacesOf_l3 g t w1 x1 (cntLt 0 (g.int (g.dlen (t.d_S w1)))) 0) fun y2 =>
     br (g.eq y2 (g.int (g.dlen (t.d_S w1))))
     (
      lP ([]) fun (l12 : List ByteArray) =>
      gd (((0 : Int) ≤ 0 ∧ 0 ≤ y2 ∧ y2 ≤ (((g.dlen (t.d_S w1)) : Nat) : Int))) <|
      gd (((g.nat 0) + (g.nsub (g.nat y2) (g.nat 0)) ≤ w1.length)) <|
      gd (((l12.length + (List.take (g.nsub (g.nat y2) (g.nat 0)) (List.drop (g.nat 0) w1)).length) * 16 ≤ 70368744177664)) <|
      lP (l12 ++ (List.take (g.nsub (g.nat y2) (g.nat 0)) (List.drop (g.nat 0) w1))) fun (l13 : List ByteArray) =>
      lP ([x1.From]) fun (l14 : List ByteArray) =>
      gd (((l13.length + l14.length) * 16 ≤ 70368744177664)) <|
      lP (l13 ++ l14) fun (l15 : List ByteArray) =>
      gd (((0 : Int) ≤ y2 ∧ y2 ≤ (g.int (g.dlen (t.d_S w1))) ∧ (g.int (g.dlen (t.d_S w1))) ≤ (((g.dlen (t.d_S w1)) : Nat) : Int))) <|
      gd (((g.nat y2) + (g.nsub (g.nat (g.int (g.dlen (t.d_S w1)))) (g.nat y2)) ≤ w1.length)) <|
      gd (((l15.length + (List.take (g.nsub (g.nat (g.int (g.dlen (t.d_S w1)))) (g.nat y2)) (List.drop (g.nat y2) w1)).length) * 16 ≤ 70368744177664)) <|
      lP (l15 ++ (List.take (g.nsub (g.nat (g.int (g.dlen (t.d_S w1)))) (g.nat y2)) (List.drop (g.nat y2) w1))) fun (l16 : List ByteArray) =>
      S_PlacesOf_l1 g t a0 n1 (g.wrap .i64 (g.add v1 1)) l16)
     (
      gd (((0 : Int) ≤ y2 ∧ y2 < (((g.dlen (t.d_S w1)) : Nat) : Int))) <|
      gt w1 (g.nat y2) fun x5 =>
      br (g.seq x5 x1.From)
      (
       S_PlacesOf_l1 g t a0 n1 (g.wrap .i64 (g.add v1 1)) w1)
      (
       lP ([]) fun (l17 : List ByteArray) =>
       gd (((0 : Int) ≤ 0 ∧ 0 ≤ y2 ∧ y2 ≤ (((g.dlen (t.d_S w1)) : Nat) : Int))) <|
       gd (((g.nat 0) + (g.nsub (g.nat y2) (g.nat 0)) ≤ w1.length)) <|
       gd (((l17.length + (List.take (g.nsub (g.nat y2) (g.nat 0)) (List.drop (g.nat 0) w1)).length) * 16 ≤ 70368744177664)) <|
       lP (l17 ++ (List.take (g.nsub (g.nat y2) (g.nat 0)) (List.drop (g.nat 0) w1))) fun (l18 : List ByteArray) =>
       lP ([x1.From]) fun (l19 : List ByteArray) =>
       gd (((l18.length + l19.length) * 16 ≤ 70368744177664)) <|
       lP (l18 ++ l19) fun (l20 : List ByteArray) =>
       gd (((0 : Int) ≤ y2 ∧ y2 ≤ (g.int (g.dlen (t.d_S w1))) ∧ (g.int (g.dlen (t.d_S w1))) ≤ (((g.dlen (t.d_S w1)) : Nat) : Int))) <|
       gd (((g.nat y2) + (g.nsub (g.nat (g.int (g.dlen (t.d_S w1)))) (g.nat y2)) ≤ w1.length)) <|
       gd (((l20.length + (List.take (g.nsub (g.nat (g.int (g.dlen (t.d_S w1)))) (g.nat y2)) (List.drop (g.nat y2) w1)).length) * 16 ≤ 70368744177664)) <|
       lP (l20 ++ (List.take (g.nsub (g.nat (g.int (g.dlen (t.d_S w1)))) (g.nat y2)) (List.drop (g.nat y2) w1))) fun (l21 : List ByteArray) =>
       S_PlacesOf_l1 g t a0 n1 (g.wrap .i64 (g.add v1 1)) l21)))
def S_PlacesOf (g : G) (t : TE) (a0 : Network) : Option (List ByteArray) :=
  lP ([]) fun (l1 : List ByteArray) =>
  gd (((g.wrap .i64 (g.mul 2 (g.llen (t.r_Leg a0.Legs)))) ≤ 9223372036854775807)) <|
  cl (S_PlacesOf_l1 g t a0 (cntLt 0 (g.wrap .i64 (g.mul 2 (g.llen (t.r_Leg a0.Legs))))) 0 l1) fun y3 =>
  some y3
theorem c_S_PlacesOf {g : G} {t : TE} {a0 : Network} {r : List ByteArray} (hg : g = G.real) (ht : t = TE.real) (h : S_PlacesOf g t a0 = some r) : Fn Try.prog 46 [.g (Network.rs t a0)] (.c (.o 1 (t.d_S r))) := by
 obtain ⟨X, hX⟩ := hide (.c (.o 1 (t.d_S r)) : X); rw [← hX]; refine fn_of (rvs := rv46) (j := ir46) Try.func46 rfl (by kernel_rfl) (Nat.le_of_ble_eq_true rfl) (by kernel_rfl) prog_mixed ?_; intro g2 F hg2 hF; obtain rfl : g2 = g := hg2.unique.trans hg.symm; clear hg2; obtain ⟨wrap, lt, _, eq, _, rem, _, _, _, _, _, _, int, add, _, mul, _, seq, slt, _, _, llen, _, _, dlen, _, _, _, _, _, _, _, _, _, _, _, _, _, _, _, _, _, _, _⟩ := g2; obtain ⟨r_Leg, _, r_I64, _, _, _, _, _, _, d_S, _, _, _, _, _⟩ := t
 obtain ⟨a0_Legs, a0_Off, a0_Change⟩ := a0; unfold S_PlacesOf at h; try dsimp only at h
 cbv; obtain ⟨l1, hl1, h⟩ := of_lP h; try dsimp only at h
 refine ANew.mk (d_S l1) (dlen (d_S l1)) (by rw [← hl1]; exact lit_S hg ht []) (by rw [← hl1]; exact litn_S hg ht []) ?_; cbv; obtain ⟨hB1, h⟩ := of_gd h; obtain ⟨o1, ho1, h⟩ := of_cl h; try dsimp only at h
 try rw [hg] at ho1
 try rw [ht] at ho1
 refine ABL.mk { p : Nat × Int × List ByteArray // p.1 = cntLt p.2.1 (wrap .i64 (mul 2 (llen (r_Leg a0_Legs)))) ∧ 0 ≤ p.2.1 ∧ S_PlacesOf_l1 G.real TE.real (Network.mk a0_Legs a0_Off a0_Change) p.1 p.2.1 p.2.2 = some o1 } (fun ⟨⟨n1, v1, w1⟩, _⟩ => ({ sl := [(1, .c (.p 0 3 0 0)), (3, .c (.f 1 1 0 (dlen (d_S w1)))), (4, .c (.r (.v (.int .i64 v1))))], tab := [(0, some (.foc 3 [] [.r (.s 6 (r_Leg a0_Legs)), .r (.s 1 (r_I64 a0_Off)), .r (.v (.int .i64 a0_Change))] [])), (1, some (.arr 1 (d_S w1)))] } : St)) 2 (fun p => p.1.1) ⟨(cntLt 0 (wrap .i64 (mul 2 (llen (r_Leg a0_Legs)))), 0, l1), rfl, Int.le_refl _, ho1⟩ (List ByteArray) (fun y3 => ({ sl := [(3, .c (.f 0 1 0 (dlen (d_S y3))))], tab := [(0, some (.arr 1 (d_S y3)))] } : St)) 1 (fun y => o1 = y) ?_ ?_ ?_
 ·refine Wk.of [(0, some 0), (1, some 32)] rfl rfl ?_ ?_
  ·cbv; all_goals exact ⟨⟨_, rfl, rfl⟩, ⟨_, rfl, rfl⟩, ⟨_, rfl, rfl⟩, trivial⟩
  cbv; all_goals exact ⟨⟨_, rfl, _, rfl, rfl, rfl, rfl, trivial⟩, ⟨_, rfl, rfl⟩, trivial⟩
 ·rintro ⟨⟨n1, v1, w1⟩, hn1, hi1, h_1⟩ hq1; try dsimp only at hn1 hi1 h_1
  clear hq1; cbv; rcases n1 with _ | n1
  ·have hb1 : lt v1 (wrap .i64 (mul 2 (llen (r_Leg a0_Legs)))) = false := ltC_false hg hn1; rw [S_PlacesOf_l1] at h_1; try rw [← hg] at h_1
   try rw [← ht] at h_1
   try dsimp only at h_1
   rw [hb1]; cbv; refine ⟨w1, Wk.of [(0, some 1)] rfl rfl ?_ ?_, (Option.some.inj h_1).symm⟩
   ·cbv; all_goals exact ⟨⟨_, rfl, rfl⟩, trivial⟩
   cbv; all_goals exact ⟨⟨_, rfl, rfl⟩, trivial⟩
  have hb1 : lt v1 (wrap .i64 (mul 2 (llen (r_Leg a0_Legs)))) = true := ltC_true hg hn1; have hl1 := ltC_le hn1; have hs1 := stepltC hg hn1 hi1 hB1 (by decide); rw [S_PlacesOf_l1] at h_1; try rw [← hg] at h_1
  try rw [← ht] at h_1
  try dsimp only at h_1
  rw [hb1]; cbv; refine AStep.mk (by decide) ?_; cbv; obtain ⟨hc1, h_1⟩ := of_gd h_1; refine AStep.mk hc1 ?_; cbv; obtain ⟨x1, hx1, h_1⟩ := of_gt h_1; obtain ⟨x1_From, x1_To, x1_Start, x1_Takes, x1_Days, x1_Room⟩ := x1; try dsimp only at h_1
  refine AGet.mk _ (r_get_Leg hg ht hx1) ?_; cbv; refine AStep.mk (by decide) ?_; cbv
  cases hb2 : (eq (rem v1 2) 1)
  ·rw [br_false hb2] at h_1; cbv; obtain ⟨hB3, h_1⟩ := of_gd h_1; obtain ⟨o3, ho3, h_1⟩ := of_cl h_1; try dsimp only at h_1
   try rw [hg] at ho3
   try rw [ht] at ho3
   refine ABL.mk { p : Nat × Int // p.1 = cntLt p.2 (int (dlen (d_S w1))) ∧ 0 ≤ p.2 ∧ S_PlacesOf_l3 G.real TE.real w1 (Leg.mk x1_From x1_To x1_Start x1_Takes x1_Days x1_Room) p.1 p.2 = some o3 } (fun ⟨⟨n3, v3⟩, _⟩ => ({ sl := [(1, .c (.p 0 3 0 0)), (3, .c (.f 1 1 0 (dlen (d_S w1)))), (4, .c (.r (.v (.int .i64 v1)))), (5, .c (.r (.v (.string x1_From)))), (6, .c (.r (.v (.int .i64 v3))))], tab := [(0, some (.foc 3 [] [.r (.s 6 (r_Leg a0_Legs)), .r (.s 1 (r_I64 a0_Off)), .r (.v (.int .i64 a0_Change))] [])), (1, some (.arr 1 (d_S w1)))] } : St)) 2 (fun p => p.1.1) ⟨(cntLt 0 (int (dlen (d_S w1))), 0), rfl, Int.le_refl _, ho3⟩ (Int) (fun y2 => ({ sl := [(1, .c (.p 0 3 0 0)), (3, .c (.f 1 1 0 (dlen (d_S w1)))), (4, .c (.r (.v (.int .i64 v1)))), (5, .c (.r (.v (.string x1_From)))), (6, .c (.r (.v (.int .i64 y2))))], tab := [(0, some (.foc 3 [] [.r (.s 6 (r_Leg a0_Legs)), .r (.s 1 (r_I64 a0_Off)), .r (.v (.int .i64 a0_Change))] [])), (1, some (.arr 1 (d_S w1)))] } : St)) 2 (fun y => o3 = y) ?_ ?_ ?_
   ·refine Wk.of [(0, some 0), (1, some 1)] rfl rfl ?_ ?_
    ·cbv; all_goals exact ⟨⟨_, rfl, rfl⟩, ⟨_, rfl, rfl⟩, ⟨_, rfl, rfl⟩, ⟨_, rfl, rfl⟩, ⟨_, rfl, rfl⟩, trivial⟩
    cbv; all_goals exact ⟨⟨_, rfl, _, rfl, rfl, rfl, rfl, trivial⟩, ⟨_, rfl, rfl⟩, trivial⟩
   ·rintro ⟨⟨n3, v3⟩, hn3, hi3, h_3⟩ hq3; try dsimp only at hn3 hi3 h_3
    clear hq3; cbv; rcases n3 with _ | n3
    ·have hb7 : lt v3 (int (dlen (d_S w1))) = false := ltC_false hg hn3; rw [S_PlacesOf_l3] at h_3; try rw [← hg] at h_3
     try rw [← ht] at h_3
     try dsimp only at h_3
     rw [hb7]; cbv; iterate 6 try (rw [hb7]; cbv)
     refine ⟨v3, Wk.of [(0, some 0), (1, some 1)] rfl rfl ?_ ?_, (Option.some.inj h_3).symm⟩
     ·cbv; all_goals exact ⟨⟨_, rfl, rfl⟩, ⟨_, rfl, rfl⟩, ⟨_, rfl, rfl⟩, ⟨_, rfl, rfl⟩, ⟨_, rfl, rfl⟩, trivial⟩
     cbv; all_goals exact ⟨⟨_, rfl, _, rfl, rfl, rfl, rfl, trivial⟩, ⟨_, rfl, rfl⟩, trivial⟩
    have hb7 : lt v3 (int (dlen (d_S w1))) = true := ltC_true hg hn3; have hl3 := ltC_le hn3; have hs3 := stepltC hg hn3 hi3 hB3 (by decide); rw [S_PlacesOf_l3] at h_3; try rw [← hg] at h_3
    try rw [← ht] at h_3
    try dsimp only at h_3
    rw [hb7]; cbv; iterate 2 try (rw [hb7]; cbv)
    refine AStep.mk (rg_int hg hi3 hl3) ?_; cbv; try (rw [hb7]; cbv)
    obtain ⟨x4, hx4, h_3⟩ := of_gt h_3; try dsimp only at h_3
    refine AGet.mk _ (d_get_S hg ht hx4) ?_; cbv; iterate 3 try (rw [hb7]; cbv)
    cases hb8 : (slt x4 x1_From)
    ·rw [br_false hb8] at h_3; cbv; refine ⟨v3, Wk.of [(0, some 0), (1, some 1)] rfl rfl ?_ ?_, (Option.some.inj h_3).symm⟩
     ·cbv; all_goals exact ⟨⟨_, rfl, rfl⟩, ⟨_, rfl, rfl⟩, ⟨_, rfl, rfl⟩, ⟨_, rfl, rfl⟩, ⟨_, rfl, rfl⟩, trivial⟩
     cbv; all_goals exact ⟨⟨_, rfl, _, rfl, rfl, rfl, rfl, trivial⟩, ⟨_, rfl, rfl⟩, trivial⟩
    rw [br_true hb8] at h_3; cbv; try rw [hg] at h_3
    try rw [ht] at h_3
    refine ⟨⟨(n3, (wrap .i64 (add v3 1))), hs3.1, hs3.2, h_3⟩, Wk.of [(0, some 0), (1, some 1)] rfl rfl ?_ ?_, Nat.lt_succ_self _⟩
    ·cbv; all_goals exact ⟨⟨_, rfl, rfl⟩, ⟨_, rfl, rfl⟩, ⟨_, rfl, rfl⟩, ⟨_, rfl, rfl⟩, ⟨_, rfl, rfl⟩, trivial⟩
    cbv; all_goals exact ⟨⟨_, rfl, _, rfl, rfl, rfl, rfl, trivial⟩, ⟨_, rfl, rfl⟩, trivial⟩
   rintro y2 hy3; replace hy3 := hy3.symm; subst hy3; try dsimp only [lr, lrL, lrp, lrpL] at h_1
   cbv
   cases hb9 : (eq y2 (int (dlen (d_S w1))))
   rotate_left
   ·rw [br_true hb9] at h_1; cbv; iterate 6 try (rw [hb9]; cbv)
    obtain ⟨l12, hl12, h_1⟩ := of_lP h_1; try dsimp only at h_1
    refine ANew.mk (d_S l12) (dlen (d_S l12)) (by rw [← hl12]; exact lit_S hg ht []) (by rw [← hl12]; exact litn_S hg ht []) ?_; cbv; obtain ⟨hc18, h_1⟩ := of_gd h_1; refine AStep.mk hc18 ?_; cbv; obtain ⟨hc23, h_1⟩ := of_gd h_1; obtain ⟨hc24, h_1⟩ := of_gd h_1; refine AStep.mk ⟨(subp_ok_S hg ht hc23), (app_ok_S hg ht (dlen_S hg ht _) (dsub_S hg ht _ _ _) hc24)⟩ ?_; cbv; obtain ⟨l13, hl13, h_1⟩ := of_lP h_1; try dsimp only at h_1
    refine ANew.mk (d_S l13) (dlen (d_S l13)) (by rw [← hl13]; exact app_S hg ht (dlen_S hg ht _) (dsub_S hg ht _ _ _)) (by rw [← hl13]; exact appl_S hg ht (dlen_S hg ht _) (dsub_S hg ht _ _ _)) ?_; cbv; obtain ⟨l14, hl14, h_1⟩ := of_lP h_1; try dsimp only at h_1
    refine ANew.mk (d_S l14) (dlen (d_S l14)) (by rw [← hl14]; exact lit_S hg ht [x1_From]) (by rw [← hl14]; exact litn_S hg ht [x1_From]) ?_; cbv; obtain ⟨hc22, h_1⟩ := of_gd h_1; refine AStep.mk ⟨⟨rfl, (dlen_S hg ht _)⟩, (app_ok_S hg ht (dlen_S hg ht _) rfl hc22)⟩ ?_; cbv; obtain ⟨l15, hl15, h_1⟩ := of_lP h_1; try dsimp only at h_1
    refine ANew.mk (d_S l15) (dlen (d_S l15)) (by rw [← hl15]; exact app_S hg ht (dlen_S hg ht _) rfl) (by rw [← hl15]; exact appl_S hg ht (dlen_S hg ht _) rfl) ?_; cbv; obtain ⟨hc19, h_1⟩ := of_gd h_1; refine AStep.mk hc19 ?_; cbv; obtain ⟨hc20, h_1⟩ := of_gd h_1; obtain ⟨hc21, h_1⟩ := of_gd h_1; refine AStep.mk ⟨(subp_ok_S hg ht hc20), (app_ok_S hg ht (dlen_S hg ht _) (dsub_S hg ht _ _ _) hc21)⟩ ?_; cbv; obtain ⟨l16, hl16, h_1⟩ := of_lP h_1; try dsimp only at h_1
    refine ANew.mk (d_S l16) (dlen (d_S l16)) (by rw [← hl16]; exact app_S hg ht (dlen_S hg ht _) (dsub_S hg ht _ _ _)) (by rw [← hl16]; exact appl_S hg ht (dlen_S hg ht _) (dsub_S hg ht _ _ _)) ?_; cbv; try rw [hg] at h_1
    try rw [ht] at h_1
    refine ⟨⟨(n1, (wrap .i64 (add v1 1)), l16), hs1.1, hs1.2, h_1⟩, Wk.of [(0, some 0), (1, some 370)] rfl rfl ?_ ?_, Nat.lt_succ_self _⟩
    ·cbv; all_goals exact ⟨⟨_, rfl, rfl⟩, ⟨_, rfl, rfl⟩, ⟨_, rfl, rfl⟩, trivial⟩
    cbv; all_goals exact ⟨⟨_, rfl, _, rfl, rfl, rfl, rfl, trivial⟩, ⟨_, rfl, rfl⟩, trivial⟩
   rw [br_false hb9] at h_1; cbv; iterate 2 try (rw [hb9]; cbv)
   obtain ⟨hc25, h_1⟩ := of_gd h_1; refine AStep.mk hc25 ?_; cbv; try (rw [hb9]; cbv)
   obtain ⟨x5, hx5, h_1⟩ := of_gt h_1; try dsimp only at h_1
   refine AGet.mk _ (d_get_S hg ht hx5) ?_; cbv; iterate 3 try (rw [hb9]; cbv)
   cases hb10 : (seq x5 x1_From)
   rotate_left
   ·rw [br_true hb10] at h_1; cbv; try rw [hg] at h_1
    try rw [ht] at h_1
    refine ⟨⟨(n1, (wrap .i64 (add v1 1)), w1), hs1.1, hs1.2, h_1⟩, Wk.of [(0, some 0), (1, some 1)] rfl rfl ?_ ?_, Nat.lt_succ_self _⟩
    ·cbv; all_goals exact ⟨⟨_, rfl, rfl⟩, ⟨_, rfl, rfl⟩, ⟨_, rfl, rfl⟩, trivial⟩
    cbv; all_goals exact ⟨⟨_, rfl, _, rfl, rfl, rfl, rfl, trivial⟩, ⟨_, rfl, rfl⟩, trivial⟩
   rw [br_false hb10] at h_1; cbv; obtain ⟨l17, hl17, h_1⟩ := of_lP h_1; try dsimp only at h_1
   refine ANew.mk (d_S l17) (dlen (d_S l17)) (by rw [← hl17]; exact lit_S hg ht []) (by rw [← hl17]; exact litn_S hg ht []) ?_; cbv; obtain ⟨hc26, h_1⟩ := of_gd h_1; refine AStep.mk hc26 ?_; cbv; obtain ⟨hc31, h_1⟩ := of_gd h_1; obtain ⟨hc32, h_1⟩ := of_gd h_1; refine AStep.mk ⟨(subp_ok_S hg ht hc31), (app_ok_S hg ht (dlen_S hg ht _) (dsub_S hg ht _ _ _) hc32)⟩ ?_; cbv; obtain ⟨l18, hl18, h_1⟩ := of_lP h_1; try dsimp only at h_1
   refine ANew.mk (d_S l18) (dlen (d_S l18)) (by rw [← hl18]; exact app_S hg ht (dlen_S hg ht _) (dsub_S hg ht _ _ _)) (by rw [← hl18]; exact appl_S hg ht (dlen_S hg ht _) (dsub_S hg ht _ _ _)) ?_; cbv; obtain ⟨l19, hl19, h_1⟩ := of_lP h_1; try dsimp only at h_1
   refine ANew.mk (d_S l19) (dlen (d_S l19)) (by rw [← hl19]; exact lit_S hg ht [x1_From]) (by rw [← hl19]; exact litn_S hg ht [x1_From]) ?_; cbv; obtain ⟨hc30, h_1⟩ := of_gd h_1; refine AStep.mk ⟨⟨rfl, (dlen_S hg ht _)⟩, (app_ok_S hg ht (dlen_S hg ht _) rfl hc30)⟩ ?_; cbv; obtain ⟨l20, hl20, h_1⟩ := of_lP h_1; try dsimp only at h_1
   refine ANew.mk (d_S l20) (dlen (d_S l20)) (by rw [← hl20]; exact app_S hg ht (dlen_S hg ht _) rfl) (by rw [← hl20]; exact appl_S hg ht (dlen_S hg ht _) rfl) ?_; cbv; obtain ⟨hc27, h_1⟩ := of_gd h_1; refine AStep.mk hc27 ?_; cbv; obtain ⟨hc28, h_1⟩ := of_gd h_1; obtain ⟨hc29, h_1⟩ := of_gd h_1; refine AStep.mk ⟨(subp_ok_S hg ht hc28), (app_ok_S hg ht (dlen_S hg ht _) (dsub_S hg ht _ _ _) hc29)⟩ ?_; cbv; obtain ⟨l21, hl21, h_1⟩ := of_lP h_1; try dsimp only at h_1
   refine ANew.mk (d_S l21) (dlen (d_S l21)) (by rw [← hl21]; exact app_S hg ht (dlen_S hg ht _) (dsub_S hg ht _ _ _)) (by rw [← hl21]; exact appl_S hg ht (dlen_S hg ht _) (dsub_S hg ht _ _ _)) ?_; cbv; try rw [hg] at h_1
   try rw [ht] at h_1
   refine ⟨⟨(n1, (wrap .i64 (add v1 1)), l21), hs1.1, hs1.2, h_1⟩, Wk.of [(0, some 0), (1, some 370)] rfl rfl ?_ ?_, Nat.lt_succ_self _⟩
   ·cbv; all_goals exact ⟨⟨_, rfl, rfl⟩, ⟨_, rfl, rfl⟩, ⟨_, rfl, rfl⟩, trivial⟩
   cbv; all_goals exact ⟨⟨_, rfl, _, rfl, rfl, rfl, rfl, trivial⟩, ⟨_, rfl, rfl⟩, trivial⟩
  rw [br_true hb2] at h_1; cbv; refine AStep.mk (by decide) ?_; cbv; obtain ⟨hc2, h_1⟩ := of_gd h_1; refine AStep.mk hc2 ?_; cbv; refine AGet.mk _ (r_get_Leg hg ht hx1) ?_; cbv; obtain ⟨hB2, h_1⟩ := of_gd h_1; obtain ⟨o2, ho2, h_1⟩ := of_cl h_1; try dsimp only at h_1
  try rw [hg] at ho2
  try rw [ht] at ho2
  refine ABL.mk { p : Nat × Int // p.1 = cntLt p.2 (int (dlen (d_S w1))) ∧ 0 ≤ p.2 ∧ S_PlacesOf_l2 G.real TE.real w1 (Leg.mk x1_From x1_To x1_Start x1_Takes x1_Days x1_Room) p.1 p.2 = some o2 } (fun ⟨⟨n2, v2⟩, _⟩ => ({ sl := [(1, .c (.p 0 3 0 0)), (3, .c (.f 1 1 0 (dlen (d_S w1)))), (4, .c (.r (.v (.int .i64 v1)))), (5, .c (.r (.v (.string x1_To)))), (6, .c (.r (.v (.int .i64 v2))))], tab := [(0, some (.foc 3 [] [.r (.s 6 (r_Leg a0_Legs)), .r (.s 1 (r_I64 a0_Off)), .r (.v (.int .i64 a0_Change))] [])), (1, some (.arr 1 (d_S w1)))] } : St)) 2 (fun p => p.1.1) ⟨(cntLt 0 (int (dlen (d_S w1))), 0), rfl, Int.le_refl _, ho2⟩ (Int) (fun y1 => ({ sl := [(1, .c (.p 0 3 0 0)), (3, .c (.f 1 1 0 (dlen (d_S w1)))), (4, .c (.r (.v (.int .i64 v1)))), (5, .c (.r (.v (.string x1_To)))), (6, .c (.r (.v (.int .i64 y1))))], tab := [(0, some (.foc 3 [] [.r (.s 6 (r_Leg a0_Legs)), .r (.s 1 (r_I64 a0_Off)), .r (.v (.int .i64 a0_Change))] [])), (1, some (.arr 1 (d_S w1)))] } : St)) 2 (fun y => o2 = y) ?_ ?_ ?_
  ·refine Wk.of [(0, some 0), (1, some 1)] rfl rfl ?_ ?_
   ·cbv; all_goals exact ⟨⟨_, rfl, rfl⟩, ⟨_, rfl, rfl⟩, ⟨_, rfl, rfl⟩, ⟨_, rfl, rfl⟩, ⟨_, rfl, rfl⟩, trivial⟩
   cbv; all_goals exact ⟨⟨_, rfl, _, rfl, rfl, rfl, rfl, trivial⟩, ⟨_, rfl, rfl⟩, trivial⟩
  ·rintro ⟨⟨n2, v2⟩, hn2, hi2, h_2⟩ hq2; try dsimp only at hn2 hi2 h_2
   clear hq2; cbv; rcases n2 with _ | n2
   ·have hb3 : lt v2 (int (dlen (d_S w1))) = false := ltC_false hg hn2; rw [S_PlacesOf_l2] at h_2; try rw [← hg] at h_2
    try rw [← ht] at h_2
    try dsimp only at h_2
    rw [hb3]; cbv; iterate 6 try (rw [hb3]; cbv)
    refine ⟨v2, Wk.of [(0, some 0), (1, some 1)] rfl rfl ?_ ?_, (Option.some.inj h_2).symm⟩
    ·cbv; all_goals exact ⟨⟨_, rfl, rfl⟩, ⟨_, rfl, rfl⟩, ⟨_, rfl, rfl⟩, ⟨_, rfl, rfl⟩, ⟨_, rfl, rfl⟩, trivial⟩
    cbv; all_goals exact ⟨⟨_, rfl, _, rfl, rfl, rfl, rfl, trivial⟩, ⟨_, rfl, rfl⟩, trivial⟩
   have hb3 : lt v2 (int (dlen (d_S w1))) = true := ltC_true hg hn2; have hl2 := ltC_le hn2; have hs2 := stepltC hg hn2 hi2 hB2 (by decide); rw [S_PlacesOf_l2] at h_2; try rw [← hg] at h_2
   try rw [← ht] at h_2
   try dsimp only at h_2
   rw [hb3]; cbv; iterate 2 try (rw [hb3]; cbv)
   refine AStep.mk (rg_int hg hi2 hl2) ?_; cbv; try (rw [hb3]; cbv)
   obtain ⟨x2, hx2, h_2⟩ := of_gt h_2; try dsimp only at h_2
   refine AGet.mk _ (d_get_S hg ht hx2) ?_; cbv; iterate 3 try (rw [hb3]; cbv)
   cases hb4 : (slt x2 x1_To)
   ·rw [br_false hb4] at h_2; cbv; refine ⟨v2, Wk.of [(0, some 0), (1, some 1)] rfl rfl ?_ ?_, (Option.some.inj h_2).symm⟩
    ·cbv; all_goals exact ⟨⟨_, rfl, rfl⟩, ⟨_, rfl, rfl⟩, ⟨_, rfl, rfl⟩, ⟨_, rfl, rfl⟩, ⟨_, rfl, rfl⟩, trivial⟩
    cbv; all_goals exact ⟨⟨_, rfl, _, rfl, rfl, rfl, rfl, trivial⟩, ⟨_, rfl, rfl⟩, trivial⟩
   rw [br_true hb4] at h_2; cbv; try rw [hg] at h_2
   try rw [ht] at h_2
   refine ⟨⟨(n2, (wrap .i64 (add v2 1))), hs2.1, hs2.2, h_2⟩, Wk.of [(0, some 0), (1, some 1)] rfl rfl ?_ ?_, Nat.lt_succ_self _⟩
   ·cbv; all_goals exact ⟨⟨_, rfl, rfl⟩, ⟨_, rfl, rfl⟩, ⟨_, rfl, rfl⟩, ⟨_, rfl, rfl⟩, ⟨_, rfl, rfl⟩, trivial⟩
   cbv; all_goals exact ⟨⟨_, rfl, _, rfl, rfl, rfl, rfl, trivial⟩, ⟨_, rfl, rfl⟩, trivial⟩
  rintro y1 hy2; replace hy2 := hy2.symm; subst hy2; try dsimp only [lr, lrL, lrp, lrpL] at h_1
  cbv
  cases hb5 : (eq y1 (int (dlen (d_S w1))))
  rotate_left
  ·rw [br_true hb5] at h_1; cbv; iterate 6 try (rw [hb5]; cbv)
   obtain ⟨l2, hl2, h_1⟩ := of_lP h_1; try dsimp only at h_1
   refine ANew.mk (d_S l2) (dlen (d_S l2)) (by rw [← hl2]; exact lit_S hg ht []) (by rw [← hl2]; exact litn_S hg ht []) ?_; cbv; obtain ⟨hc3, h_1⟩ := of_gd h_1; refine AStep.mk hc3 ?_; cbv; obtain ⟨hc8, h_1⟩ := of_gd h_1; obtain ⟨hc9, h_1⟩ := of_gd h_1; refine AStep.mk ⟨(subp_ok_S hg ht hc8), (app_ok_S hg ht (dlen_S hg ht _) (dsub_S hg ht _ _ _) hc9)⟩ ?_; cbv; obtain ⟨l3, hl3, h_1⟩ := of_lP h_1; try dsimp only at h_1
   refine ANew.mk (d_S l3) (dlen (d_S l3)) (by rw [← hl3]; exact app_S hg ht (dlen_S hg ht _) (dsub_S hg ht _ _ _)) (by rw [← hl3]; exact appl_S hg ht (dlen_S hg ht _) (dsub_S hg ht _ _ _)) ?_; cbv; obtain ⟨l4, hl4, h_1⟩ := of_lP h_1; try dsimp only at h_1
   refine ANew.mk (d_S l4) (dlen (d_S l4)) (by rw [← hl4]; exact lit_S hg ht [x1_To]) (by rw [← hl4]; exact litn_S hg ht [x1_To]) ?_; cbv; obtain ⟨hc7, h_1⟩ := of_gd h_1; refine AStep.mk ⟨⟨rfl, (dlen_S hg ht _)⟩, (app_ok_S hg ht (dlen_S hg ht _) rfl hc7)⟩ ?_; cbv; obtain ⟨l5, hl5, h_1⟩ := of_lP h_1; try dsimp only at h_1
   refine ANew.mk (d_S l5) (dlen (d_S l5)) (by rw [← hl5]; exact app_S hg ht (dlen_S hg ht _) rfl) (by rw [← hl5]; exact appl_S hg ht (dlen_S hg ht _) rfl) ?_; cbv; obtain ⟨hc4, h_1⟩ := of_gd h_1; refine AStep.mk hc4 ?_; cbv; obtain ⟨hc5, h_1⟩ := of_gd h_1; obtain ⟨hc6, h_1⟩ := of_gd h_1; refine AStep.mk ⟨(subp_ok_S hg ht hc5), (app_ok_S hg ht (dlen_S hg ht _) (dsub_S hg ht _ _ _) hc6)⟩ ?_; cbv; obtain ⟨l6, hl6, h_1⟩ := of_lP h_1; try dsimp only at h_1
   refine ANew.mk (d_S l6) (dlen (d_S l6)) (by rw [← hl6]; exact app_S hg ht (dlen_S hg ht _) (dsub_S hg ht _ _ _)) (by rw [← hl6]; exact appl_S hg ht (dlen_S hg ht _) (dsub_S hg ht _ _ _)) ?_; cbv; try rw [hg] at h_1
   try rw [ht] at h_1
   refine ⟨⟨(n1, (wrap .i64 (add v1 1)), l6), hs1.1, hs1.2, h_1⟩, Wk.of [(0, some 0), (1, some 370)] rfl rfl ?_ ?_, Nat.lt_succ_self _⟩
   ·cbv; all_goals exact ⟨⟨_, rfl, rfl⟩, ⟨_, rfl, rfl⟩, ⟨_, rfl, rfl⟩, trivial⟩
   cbv; all_goals exact ⟨⟨_, rfl, _, rfl, rfl, rfl, rfl, trivial⟩, ⟨_, rfl, rfl⟩, trivial⟩
  rw [br_false hb5] at h_1; cbv; iterate 2 try (rw [hb5]; cbv)
  obtain ⟨hc10, h_1⟩ := of_gd h_1; refine AStep.mk hc10 ?_; cbv; try (rw [hb5]; cbv)
  obtain ⟨x3, hx3, h_1⟩ := of_gt h_1; try dsimp only at h_1
  refine AGet.mk _ (d_get_S hg ht hx3) ?_; cbv; iterate 3 try (rw [hb5]; cbv)
  cases hb6 : (seq x3 x1_To)
  rotate_left
  ·rw [br_true hb6] at h_1; cbv; try rw [hg] at h_1
   try rw [ht] at h_1
   refine ⟨⟨(n1, (wrap .i64 (add v1 1)), w1), hs1.1, hs1.2, h_1⟩, Wk.of [(0, some 0), (1, some 1)] rfl rfl ?_ ?_, Nat.lt_succ_self _⟩
   ·cbv; all_goals exact ⟨⟨_, rfl, rfl⟩, ⟨_, rfl, rfl⟩, ⟨_, rfl, rfl⟩, trivial⟩
   cbv; all_goals exact ⟨⟨_, rfl, _, rfl, rfl, rfl, rfl, trivial⟩, ⟨_, rfl, rfl⟩, trivial⟩
  rw [br_false hb6] at h_1; cbv; obtain ⟨l7, hl7, h_1⟩ := of_lP h_1; try dsimp only at h_1
  refine ANew.mk (d_S l7) (dlen (d_S l7)) (by rw [← hl7]; exact lit_S hg ht []) (by rw [← hl7]; exact litn_S hg ht []) ?_; cbv; obtain ⟨hc11, h_1⟩ := of_gd h_1; refine AStep.mk hc11 ?_; cbv; obtain ⟨hc16, h_1⟩ := of_gd h_1; obtain ⟨hc17, h_1⟩ := of_gd h_1; refine AStep.mk ⟨(subp_ok_S hg ht hc16), (app_ok_S hg ht (dlen_S hg ht _) (dsub_S hg ht _ _ _) hc17)⟩ ?_; cbv; obtain ⟨l8, hl8, h_1⟩ := of_lP h_1; try dsimp only at h_1
  refine ANew.mk (d_S l8) (dlen (d_S l8)) (by rw [← hl8]; exact app_S hg ht (dlen_S hg ht _) (dsub_S hg ht _ _ _)) (by rw [← hl8]; exact appl_S hg ht (dlen_S hg ht _) (dsub_S hg ht _ _ _)) ?_; cbv; obtain ⟨l9, hl9, h_1⟩ := of_lP h_1; try dsimp only at h_1
  refine ANew.mk (d_S l9) (dlen (d_S l9)) (by rw [← hl9]; exact lit_S hg ht [x1_To]) (by rw [← hl9]; exact litn_S hg ht [x1_To]) ?_; cbv; obtain ⟨hc15, h_1⟩ := of_gd h_1; refine AStep.mk ⟨⟨rfl, (dlen_S hg ht _)⟩, (app_ok_S hg ht (dlen_S hg ht _) rfl hc15)⟩ ?_; cbv; obtain ⟨l10, hl10, h_1⟩ := of_lP h_1; try dsimp only at h_1
  refine ANew.mk (d_S l10) (dlen (d_S l10)) (by rw [← hl10]; exact app_S hg ht (dlen_S hg ht _) rfl) (by rw [← hl10]; exact appl_S hg ht (dlen_S hg ht _) rfl) ?_; cbv; obtain ⟨hc12, h_1⟩ := of_gd h_1; refine AStep.mk hc12 ?_; cbv; obtain ⟨hc13, h_1⟩ := of_gd h_1; obtain ⟨hc14, h_1⟩ := of_gd h_1; refine AStep.mk ⟨(subp_ok_S hg ht hc13), (app_ok_S hg ht (dlen_S hg ht _) (dsub_S hg ht _ _ _) hc14)⟩ ?_; cbv; obtain ⟨l11, hl11, h_1⟩ := of_lP h_1; try dsimp only at h_1
  refine ANew.mk (d_S l11) (dlen (d_S l11)) (by rw [← hl11]; exact app_S hg ht (dlen_S hg ht _) (dsub_S hg ht _ _ _)) (by rw [← hl11]; exact appl_S hg ht (dlen_S hg ht _) (dsub_S hg ht _ _ _)) ?_; cbv; try rw [hg] at h_1
  try rw [ht] at h_1
  refine ⟨⟨(n1, (wrap .i64 (add v1 1)), l11), hs1.1, hs1.2, h_1⟩, Wk.of [(0, some 0), (1, some 370)] rfl rfl ?_ ?_, Nat.lt_succ_self _⟩
  ·cbv; all_goals exact ⟨⟨_, rfl, rfl⟩, ⟨_, rfl, rfl⟩, ⟨_, rfl, rfl⟩, trivial⟩
  cbv; all_goals exact ⟨⟨_, rfl, _, rfl, rfl, rfl, rfl, trivial⟩, ⟨_, rfl, rfl⟩, trivial⟩
 rintro y3 hy1; replace hy1 := hy1.symm; subst hy1; try dsimp only [lr, lrL, lrp, lrpL] at h
 cbv; obtain rfl := Option.some.inj h; exact ARet.mk ⟨rfl, (dlen_S hg ht _)⟩ hX.symm
def ir47 : J := .seq (.reg none [⟨some 4, none, .mv (.k (V.i 0))⟩] [0, 1]) (.seq (.seq (.reg none [⟨some 5, none, .mv (.k (V.i 0))⟩] [0, 1, 5]) (.bl 0 (.seq (.seq (.reg none [⟨some 6, none, .mv (.t 5)⟩,⟨some 7, none, .mv (.t 0)⟩,⟨some 8, none, .len false (.t 7)⟩,⟨some 9, none, .bin .lss .i (.t 6) (.t 8)⟩] [0, 1, 5, 9]) (.cond (.t 9) (.skip) (.exit 0))) (.seq (.block 1 (.seq (.reg none [⟨some 12, none, .mv (.t 0)⟩,⟨some 13, none, .mv (.t 5)⟩,⟨some 14, none, .ia 1 (.t 12) (.t 13)⟩,⟨some 15, none, .ld false 1 (.t 14)⟩,⟨some 16, none, .mv (.t 1)⟩,⟨some 17, none, .bin .eql .s (.t 15) (.t 16)⟩] [0, 1, 5, 17]) (.cond (.t 17) (.seq (.reg none [⟨some 18, none, .mv (.t 5)⟩,⟨some 4, none, .mv (.t 18)⟩] [4]) (.ret)) (.skip)))) (.reg none [⟨some 10, none, .mv (.t 5)⟩,⟨some 11, none, .bin .add .i (.t 10) (.k (V.i 1))⟩,⟨some 5, none, .mv (.t 11)⟩] [0, 1, 5]))))) (.seq (.reg none [⟨some 4, none, .mv (.k (V.i (-1)))⟩] [4]) (.ret)))
def rv47 : List RV := [.t 4]
def S_l4Index_l1 (g : G) (t : TE) (a1 : ByteArray) : List ByteArray → Int → LR Int Unit
  | [], v1 =>
    (LR.out ())
  | z1 :: ls1, v1 =>
    br (g.seq z1 a1)
    (
     (LR.ret v1))
    (
     S_l4Index_l1 g t a1 ls1 (g.wrap .i64 (g.add v1 1)))
def S_l4Index (g : G) (t : TE) (a0 : List ByteArray) (a1 : ByteArray) : Int :=
  lP (S_l4Index_l1 g t a1 a0 0) fun o1 => lrp o1 fun y1 =>
  (-1)
theorem c_S_l4Index {g : G} {t : TE} {a0 : List ByteArray} {a1 : ByteArray} {r : Int} (hg : g = G.real) (ht : t = TE.real) (h : S_l4Index g t a0 a1 = r) : Fn Try.prog 47 [.c (.s 1 (t.r_S a0)), .c (.v (.string a1))] (.c (.r (.v (.int .i64 r)))) := by
 obtain ⟨X, hX⟩ := hide (.c (.r (.v (.int .i64 r))) : X); rw [← hX]; refine fn_of (rvs := rv47) (j := ir47) Try.func47 rfl (by kernel_rfl) (Nat.le_of_ble_eq_true rfl) (by kernel_rfl) prog_mixed ?_; intro g2 F hg2 hF; obtain rfl : g2 = g := hg2.unique.trans hg.symm; clear hg2; obtain ⟨wrap, lt, _, _, _, _, _, _, _, _, _, _, _, add, _, _, _, seq, _, _, _, llen, _, _, _, _, _, _, _, _, _, _, _, _, _, _, _, _, _, _, _, _, _, _⟩ := g2; obtain ⟨_, _, _, _, _, _, _, _, r_S, _, _, _, _, _, _⟩ := t
 unfold S_l4Index at h; try dsimp only at h
 cbv; obtain ⟨o1, ho1, h⟩ := of_lP h; try dsimp only at h
 try rw [hg] at ho1
 try rw [ht] at ho1
 refine ABL.mk { p : Nat × Int // p.1 ≤ a0.length ∧ p.2 = ((p.1 : Nat) : Int) ∧ S_l4Index_l1 G.real TE.real a1 (List.drop p.1 a0) p.2 = o1 } (fun ⟨⟨k1, v1⟩, _⟩ => ({ sl := [(0, .c (.r (.s 1 (r_S a0)))), (1, .c (.r (.v (.string a1)))), (5, .c (.r (.v (.int .i64 v1))))], tab := [] } : St)) 0 (fun p => a0.length - p.1.1) ⟨(0, 0), Nat.zero_le _, rfl, ho1⟩ (Unit) (fun _ => ({ sl := [], tab := [] } : St)) 0 (fun y => o1 = LR.out y) ?_ ?_ ?_
 ·refine Wk.of [] rfl rfl ?_ ?_
  ·cbv; all_goals exact ⟨⟨_, rfl, rfl⟩, ⟨_, rfl, rfl⟩, ⟨_, rfl, rfl⟩, trivial⟩
  cbv; all_goals exact trivial
 ·rintro ⟨⟨k1, v1⟩, hk1, hi1, h_1⟩ hq1; have hm1 := (hq1.1 0 _ _ rfl); try dsimp only at hk1 hi1 h_1
  clear hq1; cbv
  by_cases hc1_ : k1 < a0.length
  ·have hb1 : lt v1 (llen (r_S a0)) = true := ltL_true_S hg ht hi1 hc1_; have hs1 := stepL_S hg ht hi1 hc1_ hm1; obtain ⟨z1, hz1⟩ := some_of_lt hc1_; rw [drop_of_some hz1] at h_1; rw [S_l4Index_l1] at h_1; try rw [← hg] at h_1
   try rw [← ht] at h_1
   try dsimp only at h_1
   rw [hb1]; cbv; refine AStep.mk (nn_L hi1) ?_; cbv; refine AGet.mk _ (r_getL_S hg ht hi1 hz1) ?_; cbv
   cases hb2 : (seq z1 a1)
   rotate_left
   ·rw [br_true hb2] at h_1; cbv; subst h_1; try dsimp only [lr, lrL, lrp, lrpL] at h
    subst h; exact ARet.mk trivial hX.symm
   rw [br_false hb2] at h_1; cbv; try rw [hg] at h_1
   try rw [ht] at h_1
   refine ⟨⟨(k1 + 1, (wrap .i64 (add v1 1))), hc1_, hs1, h_1⟩, Wk.of [] rfl rfl ?_ ?_, meas_L hc1_⟩
   ·cbv; all_goals exact ⟨⟨_, rfl, rfl⟩, ⟨_, rfl, rfl⟩, ⟨_, rfl, rfl⟩, trivial⟩
   cbv; all_goals exact trivial
  have hb1 : lt v1 (llen (r_S a0)) = false := ltL_false_S hg ht hi1 hc1_; rw [List.drop_of_length_le (Nat.le_of_not_lt hc1_)] at h_1; rw [S_l4Index_l1] at h_1; try rw [← hg] at h_1
  try rw [← ht] at h_1
  try dsimp only at h_1
  rw [hb1]; cbv; refine ⟨(), Wk.of [] rfl rfl ?_ ?_, h_1.symm⟩
  ·cbv; all_goals exact trivial
  cbv; all_goals exact trivial
 rintro _ hy1; replace hy1 := hy1.symm; subst hy1; try dsimp only [lr, lrL, lrp, lrpL] at h
 cbv; subst h; exact ARet.mk trivial hX.symm
def ir62 : J := .seq (.reg none [⟨some 6, none, .mv (.k (V.b false))⟩] [0, 1, 2]) (.seq (.reg none [⟨some 7, none, .mv (.t 0)⟩,⟨some 8, none, .mv (.t 1)⟩,⟨some 9, none, .bin .geq .i (.t 7) (.t 8)⟩,⟨some 10, none, .mv (.t 9)⟩,⟨some 11, (some (10, true)), .mv (.t 0)⟩,⟨some 12, (some (10, true)), .mv (.t 2)⟩,⟨some 13, (some (10, true)), .bin .leq .i (.t 11) (.t 12)⟩,⟨some 14, none, .pick (.t 10) (.t 13) (.k (V.b false))⟩,⟨some 6, none, .mv (.t 14)⟩] [6]) (.ret))
def rv62 : List RV := [.t 6]
def S_l1In (g : G) (t : TE) (a0 : Int) (a1 : Int) (a2 : Int) : Bool :=
  br (g.le a1 a0)
  (
   (g.le a0 a2))
  (
   false)
theorem c_S_l1In {g : G} {t : TE} {a0 : Int} {a1 : Int} {a2 : Int} {r : Bool} (hg : g = G.real) (ht : t = TE.real) (h : S_l1In g t a0 a1 a2 = r) : Fn Try.prog 62 [.c (.v (.int .i64 a0)), .c (.v (.int .i64 a1)), .c (.v (.int .i64 a2))] (.c (.r (.v (.bool r)))) := by
 obtain ⟨X, hX⟩ := hide (.c (.r (.v (.bool r))) : X); rw [← hX]; refine fn_of (rvs := rv62) (j := ir62) Try.func62 rfl (by kernel_rfl) (Nat.le_of_ble_eq_true rfl) (by kernel_rfl) prog_mixed ?_; intro g2 F hg2 hF; obtain rfl : g2 = g := hg2.unique.trans hg.symm; clear hg2; obtain ⟨_, _, le, _, _, _, _, _, _, _, _, _, _, _, _, _, _, _, _, _, _, _, _, _, _, _, _, _, _, _, _, _, _, _, _, _, _, _, _, _, _, _, _, _⟩ := g2; obtain ⟨_, _, _, _, _, _, _, _, _, _, _, _, _, _, _⟩ := t
 unfold S_l1In at h; try dsimp only at h
 cbv
 cases hb1 : (le a1 a0)
 rotate_left
 ·rw [br_true hb1] at h; cbv; iterate 3 try (rw [hb1]; cbv)
  subst h; exact ARet.mk trivial hX.symm
 rw [br_false hb1] at h; cbv; iterate 3 try (rw [hb1]; cbv)
 subst h; exact ARet.mk trivial hX.symm
def ir107 : J := .seq (.reg none [⟨some 2, none, .mv (.k (V.b false))⟩] [0]) (.seq (.seq (.reg none [⟨some 4, none, .mv (.t 0)⟩,⟨some 5, none, .len true (.t 4)⟩,⟨some 6, none, .bin .neq .i (.t 5) (.k (V.i 3))⟩] [0, 6]) (.cond (.t 6) (.seq (.reg none [⟨some 2, none, .mv (.k (V.b false))⟩] [2]) (.ret)) (.skip))) (.seq (.seq (.reg none [⟨some 3, none, .mv (.k (V.i 0))⟩] [0, 3]) (.bl 0 (.seq (.seq (.reg none [⟨some 7, none, .mv (.t 3)⟩,⟨some 8, none, .bin .lss .i (.t 7) (.k (V.i 3))⟩] [0, 3, 8]) (.cond (.t 8) (.skip) (.exit 0))) (.seq (.block 1 (.seq (.reg none [⟨some 11, none, .mv (.t 0)⟩,⟨some 12, none, .mv (.t 3)⟩,⟨some 13, none, .idx (.t 11) (.t 12)⟩,⟨some 14, none, .cvt .i64 (.t 13)⟩,⟨some 15, none, .call 62 true [(.t 14), (.k (V.i 65)), (.k (V.i 90))]⟩,⟨some 16, none, .not (.t 15)⟩] [0, 3, 16]) (.cond (.t 16) (.seq (.reg none [⟨some 2, none, .mv (.k (V.b false))⟩] [2]) (.ret)) (.skip)))) (.reg none [⟨some 9, none, .mv (.t 3)⟩,⟨some 10, none, .bin .add .i (.t 9) (.k (V.i 1))⟩,⟨some 3, none, .mv (.t 10)⟩] [0, 3]))))) (.seq (.reg none [⟨some 2, none, .mv (.k (V.b true))⟩] [2]) (.ret))))
def rv107 : List RV := [.t 2]
def S_IsPlace_l1 (g : G) (t : TE) (a0 : ByteArray) : Nat → Int → Option (LR Bool Unit)
  | 0, v1 =>
    some (LR.out ())
  | n1 + 1, v1 =>
    gd (((0 : Int) ≤ v1 ∧ v1 < (((a0.size) : Nat) : Int))) <|
    lP (S_l1In g t (g.wrap .i64 (g.byte a0 v1)) 65 90) fun x1 =>
    br x1
    (
     S_IsPlace_l1 g t a0 n1 (g.wrap .i64 (g.add v1 1)))
    (
     some (LR.ret false))
def S_IsPlace (g : G) (t : TE) (a0 : ByteArray) : Option Bool :=
  br (g.eq (g.int (g.slen a0)) 3)
  (
   cl (S_IsPlace_l1 g t a0 (cntLt 0 3) 0) fun o1 => lr o1 fun y1 =>
   some true)
  (
   some false)
theorem c_S_IsPlace {g : G} {t : TE} {a0 : ByteArray} {r : Bool} (hg : g = G.real) (ht : t = TE.real) (h : S_IsPlace g t a0 = some r) : Fn Try.prog 107 [.c (.v (.string a0))] (.c (.r (.v (.bool r)))) := by
 obtain ⟨X, hX⟩ := hide (.c (.r (.v (.bool r))) : X); rw [← hX]; refine fn_of (rvs := rv107) (j := ir107) Try.func107 rfl (by kernel_rfl) (Nat.le_of_ble_eq_true rfl) (by kernel_rfl) prog_mixed ?_; intro g2 F hg2 hF; obtain rfl : g2 = g := hg2.unique.trans hg.symm; clear hg2; obtain ⟨wrap, lt, _, eq, _, _, _, _, _, _, _, _, int, add, _, _, _, _, _, _, _, _, _, _, _, _, _, _, _, _, _, _, _, _, _, slen, _, _, _, _, _, _, _, _⟩ := g2; obtain ⟨_, _, _, _, _, _, _, _, _, _, _, _, _, _, _⟩ := t
 unfold S_IsPlace at h; try dsimp only at h
 cbv
 cases hb1 : (eq (int (slen a0)) 3)
 ·rw [br_false hb1] at h; cbv; obtain rfl := Option.some.inj h; exact ARet.mk trivial hX.symm
 rw [br_true hb1] at h; cbv; obtain ⟨o1, ho1, h⟩ := of_cl h; try dsimp only at h
 try rw [hg] at ho1
 try rw [ht] at ho1
 refine ABL.mk { p : Nat × Int // p.1 = cntLt p.2 3 ∧ 0 ≤ p.2 ∧ S_IsPlace_l1 G.real TE.real a0 p.1 p.2 = some o1 } (fun ⟨⟨n1, v1⟩, _⟩ => ({ sl := [(0, .c (.r (.v (.string a0)))), (3, .c (.r (.v (.int .i64 v1))))], tab := [] } : St)) 0 (fun p => p.1.1) ⟨(cntLt 0 3, 0), rfl, Int.le_refl _, ho1⟩ (Unit) (fun _ => ({ sl := [], tab := [] } : St)) 0 (fun y => o1 = LR.out y) ?_ ?_ ?_
 ·refine Wk.of [] rfl rfl ?_ ?_
  ·cbv; all_goals exact ⟨⟨_, rfl, rfl⟩, ⟨_, rfl, rfl⟩, trivial⟩
  cbv; all_goals exact trivial
 ·rintro ⟨⟨n1, v1⟩, hn1, hi1, h_1⟩ hq1; try dsimp only at hn1 hi1 h_1
  clear hq1; cbv; rcases n1 with _ | n1
  ·have hb2 : lt v1 3 = false := ltC_false hg hn1; rw [S_IsPlace_l1] at h_1; try rw [← hg] at h_1
   try rw [← ht] at h_1
   try dsimp only at h_1
   rw [hb2]; cbv; refine ⟨(), Wk.of [] rfl rfl ?_ ?_, (Option.some.inj h_1).symm⟩
   ·cbv; all_goals exact trivial
   cbv; all_goals exact trivial
  have hb2 : lt v1 3 = true := ltC_true hg hn1; have hl1 := ltC_le hn1; have hs1 := stepltC hg hn1 hi1 (by decide) (by decide); rw [S_IsPlace_l1] at h_1; try rw [← hg] at h_1
  try rw [← ht] at h_1
  try dsimp only at h_1
  rw [hb2]; cbv; obtain ⟨hc1, h_1⟩ := of_gd h_1; refine AStep.mk hc1 ?_; cbv; obtain ⟨x1, hx1, h_1⟩ := of_lP h_1; try dsimp only at h_1
  refine ACall.mk _ _ rfl (hF _ _ _ (c_S_l1In hg ht hx1)) (.inl rfl) (Nat.le_of_ble_eq_true rfl) ?_; cbv
  cases hb3 : x1
  ·rw [br_false hb3] at h_1; cbv; obtain rfl := Option.some.inj h_1; try dsimp only [lr, lrL, lrp, lrpL] at h
   obtain rfl := Option.some.inj h; exact ARet.mk trivial hX.symm
  rw [br_true hb3] at h_1; cbv; try rw [hg] at h_1
  try rw [ht] at h_1
  refine ⟨⟨(n1, (wrap .i64 (add v1 1))), hs1.1, hs1.2, h_1⟩, Wk.of [] rfl rfl ?_ ?_, Nat.lt_succ_self _⟩
  ·cbv; all_goals exact ⟨⟨_, rfl, rfl⟩, ⟨_, rfl, rfl⟩, trivial⟩
  cbv; all_goals exact trivial
 rintro _ hy1; replace hy1 := hy1.symm; subst hy1; try dsimp only [lr, lrL, lrp, lrpL] at h
 cbv; obtain rfl := Option.some.inj h; exact ARet.mk trivial hX.symm
def ir97 : J := .seq (.reg none [⟨some 1, none, .box (.t 0)⟩,⟨some 2, none, .mv (.k (V.b false))⟩] [1]) (.seq (.reg none [⟨some 3, none, .fa 0 (.t 1)⟩,⟨some 4, none, .ld false 1 (.t 3)⟩,⟨some 5, none, .call 107 true [(.t 4)]⟩,⟨some 6, none, .mv (.t 5)⟩,⟨some 7, (some (6, true)), .fa 1 (.t 1)⟩,⟨some 8, (some (6, true)), .ld false 1 (.t 7)⟩,⟨some 9, (some (6, true)), .call 107 true [(.t 8)]⟩,⟨some 10, none, .pick (.t 6) (.t 9) (.k (V.b false))⟩,⟨some 11, none, .mv (.t 10)⟩,⟨some 12, (some (11, true)), .fa 0 (.t 1)⟩,⟨some 13, (some (11, true)), .ld false 1 (.t 12)⟩,⟨some 14, (some (11, true)), .fa 1 (.t 1)⟩,⟨some 15, (some (11, true)), .ld false 1 (.t 14)⟩,⟨some 16, (some (11, true)), .bin .neq .s (.t 13) (.t 15)⟩,⟨some 17, none, .pick (.t 11) (.t 16) (.k (V.b false))⟩,⟨some 18, none, .mv (.t 17)⟩,⟨some 19, (some (18, true)), .fa 2 (.t 1)⟩,⟨some 20, (some (18, true)), .ld false 1 (.t 19)⟩,⟨some 21, (some (18, true)), .call 62 true [(.t 20), (.k (V.i 0)), (.k (V.i 1439))]⟩,⟨some 22, none, .pick (.t 18) (.t 21) (.k (V.b false))⟩,⟨some 23, none, .mv (.t 22)⟩,⟨some 24, (some (23, true)), .fa 3 (.t 1)⟩,⟨some 25, (some (23, true)), .ld false 1 (.t 24)⟩,⟨some 26, (some (23, true)), .call 62 true [(.t 25), (.k (V.i 1)), (.k (V.i 4320))]⟩,⟨some 27, none, .pick (.t 23) (.t 26) (.k (V.b false))⟩,⟨some 28, none, .mv (.t 27)⟩,⟨some 29, (some (28, true)), .fa 4 (.t 1)⟩,⟨some 30, (some (28, true)), .ld false 1 (.t 29)⟩,⟨some 31, (some (28, true)), .call 62 true [(.t 30), (.k (V.i 1)), (.k (V.i 127))]⟩,⟨some 32, none, .pick (.t 28) (.t 31) (.k (V.b false))⟩,⟨some 33, none, .mv (.t 32)⟩,⟨some 34, (some (33, true)), .fa 5 (.t 1)⟩,⟨some 35, (some (33, true)), .ld false 1 (.t 34)⟩,⟨some 36, (some (33, true)), .call 62 true [(.t 35), (.k (V.i 0)), (.k (V.i 1000000))]⟩,⟨some 37, none, .pick (.t 33) (.t 36) (.k (V.b false))⟩,⟨some 2, none, .mv (.t 37)⟩] [2]) (.ret))
def rv97 : List RV := [.t 2]
def S_IsLeg (g : G) (t : TE) (a0 : Leg) : Option Bool :=
  cl (S_IsPlace g t a0.From) fun x1 =>
  br x1
  (
   cl (S_IsPlace g t a0.To) fun x2 =>
   br x2
   (
    br (g.seq a0.From a0.To)
    (
     some false)
    (
     lP (S_l1In g t a0.Start 0 1439) fun x3 =>
     br x3
     (
      lP (S_l1In g t a0.Takes 1 4320) fun x4 =>
      br x4
      (
       lP (S_l1In g t a0.Days 1 127) fun x5 =>
       br x5
       (
        lP (S_l1In g t a0.Room 0 1000000) fun x6 =>
        some x6)
       (
        some false))
      (
       some false))
     (
      some false)))
   (
    some false))
  (
   some false)
theorem c_S_IsLeg {g : G} {t : TE} {a0 : Leg} {r : Bool} (hg : g = G.real) (ht : t = TE.real) (h : S_IsLeg g t a0 = some r) : Fn Try.prog 97 [.g (Leg.rs t a0)] (.c (.r (.v (.bool r)))) := by
 obtain ⟨X, hX⟩ := hide (.c (.r (.v (.bool r))) : X); rw [← hX]; refine fn_of (rvs := rv97) (j := ir97) Try.func97 rfl (by kernel_rfl) (Nat.le_of_ble_eq_true rfl) (by kernel_rfl) prog_mixed ?_; intro g2 F hg2 hF; obtain rfl : g2 = g := hg2.unique.trans hg.symm; clear hg2; obtain ⟨_, _, _, _, _, _, _, _, _, _, _, _, _, _, _, _, _, seq, _, _, _, _, _, _, _, _, _, _, _, _, _, _, _, _, _, _, _, _, _, _, _, _, _, _⟩ := g2; obtain ⟨_, _, _, _, _, _, _, _, _, _, _, _, _, _, _⟩ := t
 obtain ⟨a0_From, a0_To, a0_Start, a0_Takes, a0_Days, a0_Room⟩ := a0; unfold S_IsLeg at h; try dsimp only at h
 cbv; obtain ⟨x1, hx1, h⟩ := of_cl h; try dsimp only at h
 refine ACall.mk _ _ rfl (hF _ _ _ (c_S_IsPlace hg ht hx1)) (.inl rfl) (Nat.le_of_ble_eq_true rfl) ?_; cbv
 cases hb1 : x1
 ·rw [br_false hb1] at h; cbv; iterate 3 try (rw [hb1]; cbv)
  obtain rfl := Option.some.inj h; exact ARet.mk trivial hX.symm
 rw [br_true hb1] at h; cbv; iterate 2 try (rw [hb1]; cbv)
 obtain ⟨x2, hx2, h⟩ := of_cl h; try dsimp only at h
 refine ACall.mk _ _ rfl (hF _ _ _ (c_S_IsPlace hg ht hx2)) (.inl rfl) (Nat.le_of_ble_eq_true rfl) ?_; cbv; try (rw [hb1]; cbv)
 cases hb2 : x2
 ·rw [br_false hb2] at h; cbv; iterate 5 try (rw [hb2]; cbv)
  obtain rfl := Option.some.inj h; exact ARet.mk trivial hX.symm
 rw [br_true hb2] at h; cbv; iterate 5 try (rw [hb2]; cbv)
 cases hb3 : (seq a0_From a0_To)
 rotate_left
 ·rw [br_true hb3] at h; cbv; iterate 3 try (rw [hb3]; cbv)
  obtain rfl := Option.some.inj h; exact ARet.mk trivial hX.symm
 rw [br_false hb3] at h; cbv; iterate 2 try (rw [hb3]; cbv)
 obtain ⟨x3, hx3, h⟩ := of_lP h; try dsimp only at h
 refine ACall.mk _ _ rfl (hF _ _ _ (c_S_l1In hg ht hx3)) (.inl rfl) (Nat.le_of_ble_eq_true rfl) ?_; cbv; try (rw [hb3]; cbv)
 cases hb4 : x3
 ·rw [br_false hb4] at h; cbv; iterate 3 try (rw [hb4]; cbv)
  obtain rfl := Option.some.inj h; exact ARet.mk trivial hX.symm
 rw [br_true hb4] at h; cbv; iterate 2 try (rw [hb4]; cbv)
 obtain ⟨x4, hx4, h⟩ := of_lP h; try dsimp only at h
 refine ACall.mk _ _ rfl (hF _ _ _ (c_S_l1In hg ht hx4)) (.inl rfl) (Nat.le_of_ble_eq_true rfl) ?_; cbv; try (rw [hb4]; cbv)
 cases hb5 : x4
 ·rw [br_false hb5] at h; cbv; iterate 3 try (rw [hb5]; cbv)
  obtain rfl := Option.some.inj h; exact ARet.mk trivial hX.symm
 rw [br_true hb5] at h; cbv; iterate 2 try (rw [hb5]; cbv)
 obtain ⟨x5, hx5, h⟩ := of_lP h; try dsimp only at h
 refine ACall.mk _ _ rfl (hF _ _ _ (c_S_l1In hg ht hx5)) (.inl rfl) (Nat.le_of_ble_eq_true rfl) ?_; cbv; try (rw [hb5]; cbv)
 cases hb6 : x5
 ·rw [br_false hb6] at h; cbv; iterate 3 try (rw [hb6]; cbv)
  obtain rfl := Option.some.inj h; exact ARet.mk trivial hX.symm
 rw [br_true hb6] at h; cbv; iterate 2 try (rw [hb6]; cbv)
 obtain ⟨x6, hx6, h⟩ := of_lP h; try dsimp only at h
 refine ACall.mk _ _ rfl (hF _ _ _ (c_S_l1In hg ht hx6)) (.inl rfl) (Nat.le_of_ble_eq_true rfl) ?_; cbv; try (rw [hb6]; cbv)
 obtain rfl := Option.some.inj h; exact ARet.mk trivial hX.symm
def ir61 : J := .seq (.reg none [⟨some 1, none, .box (.t 0)⟩,⟨some 2, none, .mv (.k (V.b false))⟩] [1]) (.seq (.seq (.reg none [⟨some 3, none, .mv (.k (V.i 0))⟩] [1, 3]) (.bl 0 (.seq (.seq (.reg none [⟨some 5, none, .mv (.t 3)⟩,⟨some 6, none, .fa 0 (.t 1)⟩,⟨some 7, none, .ld false 1 (.t 6)⟩,⟨some 8, none, .len false (.t 7)⟩,⟨some 9, none, .bin .lss .i (.t 5) (.t 8)⟩] [1, 3, 9]) (.cond (.t 9) (.skip) (.exit 0))) (.seq (.block 1 (.seq (.reg none [⟨some 12, none, .fa 0 (.t 1)⟩,⟨some 13, none, .ld false 1 (.t 12)⟩,⟨some 14, none, .mv (.t 3)⟩,⟨some 15, none, .ia 6 (.t 13) (.t 14)⟩,⟨some 16, none, .ld true 6 (.t 15)⟩,⟨some 17, none, .call 97 true [(.t 16)]⟩,⟨some 18, none, .not (.t 17)⟩] [1, 3, 18]) (.cond (.t 18) (.seq (.reg none [⟨some 2, none, .mv (.k (V.b false))⟩] [2]) (.ret)) (.skip)))) (.reg none [⟨some 10, none, .mv (.t 3)⟩,⟨some 11, none, .bin .add .i (.t 10) (.k (V.i 1))⟩,⟨some 3, none, .mv (.t 11)⟩] [1, 3]))))) (.seq (.seq (.reg none [⟨some 4, none, .mv (.k (V.i 0))⟩] [1, 4]) (.bl 2 (.seq (.seq (.reg none [⟨some 19, none, .mv (.t 4)⟩,⟨some 20, none, .fa 1 (.t 1)⟩,⟨some 21, none, .ld false 1 (.t 20)⟩,⟨some 22, none, .len false (.t 21)⟩,⟨some 23, none, .bin .lss .i (.t 19) (.t 22)⟩] [1, 4, 23]) (.cond (.t 23) (.skip) (.exit 2))) (.seq (.block 3 (.seq (.reg (some [[], [0], [], [0, 1, 2], [0, 1, 2, 3], [0, 1, 2, 3, 4], [0, 1, 2, 3, 4, 5], [0, 1, 2, 3, 4, 5, 6], [0, 1, 2, 3, 4, 5, 6, 7], [0, 1, 2, 3, 4, 5, 6, 7, 8], [0, 1, 2, 3, 4, 5, 6, 7, 8, 9], [0, 1, 2, 3, 4, 5, 6, 7, 8, 9, 10], [0, 1, 2, 3, 4, 5, 6, 7, 8, 9, 10, 11], [0, 1, 2, 3, 4, 5, 6, 7, 8, 9, 10], [0, 1, 2, 3, 4, 5, 6, 7, 8, 9, 10, 13], [0, 1, 2, 3, 4, 5, 6, 7, 8, 9, 10, 11, 12, 13, 14], [0, 1, 2, 3, 4, 5, 6, 7, 8, 9, 10, 11, 12, 13, 14, 15], [0, 1, 2, 3, 4, 5, 6, 7, 8, 9, 10], [0, 1, 2, 3, 4, 5, 6, 7, 8, 9, 10, 17], [0, 1, 2, 3, 4, 5, 6, 7, 8, 9, 10], [0, 1, 2, 3, 4, 5, 6, 7, 8, 9, 10, 17, 18, 19], [0, 1, 2, 3, 4, 5, 6, 7, 8, 9, 10, 17, 18, 19, 20], [0, 1, 2, 3, 4, 5, 6, 7, 8, 9, 10, 11, 12, 13, 14, 15, 16, 17, 18, 19, 20, 21], [0, 1, 2, 3, 4, 5, 6, 7, 8, 9, 10, 11, 12, 13, 14, 15, 16, 17, 18, 19, 20, 21, 22], [0, 1, 2, 3, 4, 5, 6, 7, 8, 9, 10, 11, 12, 13, 14, 15, 16, 17, 18, 19, 20, 21, 22, 23]]) [⟨some 26, none, .fa 1 (.t 1)⟩,⟨some 27, none, .ld false 1 (.t 26)⟩,⟨some 28, none, .mv (.t 4)⟩,⟨some 29, none, .ia 1 (.t 27) (.t 28)⟩,⟨some 30, none, .ld false 1 (.t 29)⟩,⟨some 31, none, .call 62 true [(.t 30), (.k (V.i 0)), (.k (V.i 60))]⟩,⟨some 32, none, .not (.t 31)⟩,⟨some 33, none, .mv (.t 32)⟩,⟨some 34, (some (33, false)), .mv (.t 4)⟩,⟨some 35, (some (33, false)), .bin .gtr .i (.t 34) (.k (V.i 0))⟩,⟨some 36, (some (33, false)), .mv (.t 35)⟩,⟨some 37, (some (36, true)), .fa 1 (.t 1)⟩,⟨some 38, (some (36, true)), .ld false 1 (.t 37)⟩,⟨some 39, (some (36, true)), .mv (.t 4)⟩,⟨some 40, (some (36, true)), .bin .sub .i (.t 39) (.k (V.i 1))⟩,⟨some 41, (some (36, true)), .ia 1 (.t 38) (.t 40)⟩,⟨some 42, (some (36, true)), .ld false 1 (.t 41)⟩,⟨some 43, (some (36, true)), .fa 1 (.t 1)⟩,⟨some 44,
 (some (36, true)), .ld false 1 (.t 43)⟩,⟨some 45, (some (36, true)), .mv (.t 4)⟩,⟨some 46, (some (36, true)), .ia 1 (.t 44) (.t 45)⟩,⟨some 47, (some (36, true)), .ld false 1 (.t 46)⟩,⟨some 48, (some (36, true)), .bin .geq .i (.t 42) (.t 47)⟩,⟨some 49, (some (33, false)), .pick (.t 36) (.t 48) (.k (V.b false))⟩,⟨some 50, none, .pick (.t 33) (.k (V.b true)) (.t 49)⟩] [1, 4, 50]) (.cond (.t 50) (.seq (.reg none [⟨some 2, none, .mv (.k (V.b false))⟩] [2]) (.ret)) (.skip)))) (.reg none [⟨some 24, none, .mv (.t 4)⟩,⟨some 25, none, .bin .add .i (.t 24) (.k (V.i 1))⟩,⟨some 4, none, .mv (.t 25)⟩] [1, 4]))))) (.seq (.reg none [⟨some 51, none, .fa 0 (.t 1)⟩,⟨some 52, none, .ld false 1 (.t 51)⟩,⟨some 53, none, .len false (.t 52)⟩,⟨some 54, none, .bin .leq .i (.t 53) (.k (V.i 20))⟩,⟨some 55, none, .mv (.t 54)⟩,⟨some 56, (some (55, true)), .fa 1 (.t 1)⟩,⟨some 57, (some (55, true)), .ld false 1 (.t 56)⟩,⟨some 58, (some (55, true)), .len false (.t 57)⟩,⟨some 59, (some (55, true)), .bin .leq .i (.t 58) (.k (V.i 10))⟩,⟨some 60, none, .pick (.t 55) (.t 59) (.k (V.b false))⟩,⟨some 61, none, .mv (.t 60)⟩,⟨some 62, (some (61, true)), .fa 2 (.t 1)⟩,⟨some 63, (some (61, true)), .ld false 1 (.t 62)⟩,⟨some 64, (some (61, true)), .call 62 true [(.t 63), (.k (V.i 0)), (.k (V.i 240))]⟩,⟨some 65, none, .pick (.t 61) (.t 64) (.k (V.b false))⟩,⟨some 2, none, .mv (.t 65)⟩] [2]) (.ret))))
def rv61 : List RV := [.t 2]
def S_IsNetwork_l2 (g : G) (t : TE) (a0 : Network) : List Int → Int → Option (LR Bool Unit)
  | [], v2 =>
    some (LR.out ())
  | z2 :: ls2, v2 =>
    lP (S_l1In g t z2 0 60) fun x2 =>
    br x2
    (
     br (g.lt 0 v2)
     (
      gd (((0 : Int) ≤ (g.wrap .i64 (g.sub v2 1)))) <|
      gt a0.Off (g.nat (g.wrap .i64 (g.sub v2 1))) fun x3 =>
      br (g.le z2 x3)
      (
       some (LR.ret false))
      (
       S_IsNetwork_l2 g t a0 ls2 (g.wrap .i64 (g.add v2 1))))
     (
      S_IsNetwork_l2 g t a0 ls2 (g.wrap .i64 (g.add v2 1))))
    (
     some (LR.ret false))
def S_IsNetwork_l1 (g : G) (t : TE) : List Leg → Option (LR Bool Unit)
  | [] =>
    some (LR.out ())
  | z1 :: ls1 =>
    cl (S_IsLeg g t z1) fun x1 =>
    br x1
    (
     S_IsNetwork_l1 g t ls1)
    (
     some (LR.ret false))
def S_IsNetwork (g : G) (t : TE) (a0 : Network) : Option Bool :=
  cl (S_IsNetwork_l1 g t a0.Legs) fun o1 => lr o1 fun y1 =>
  cl (S_IsNetwork_l2 g t a0 a0.Off 0) fun o2 => lr o2 fun y2 =>
  br (g.le (g.llen (t.r_Leg a0.Legs)) 20)
  (
   br (g.le (g.llen (t.r_I64 a0.Off)) 10)
   (
    lP (S_l1In g t a0.Change 0 240) fun x4 =>
    some x4)
   (
    some false))
  (
   some false)
theorem c_S_IsNetwork {g : G} {t : TE} {a0 : Network} {r : Bool} (hg : g = G.real) (ht : t = TE.real) (h : S_IsNetwork g t a0 = some r) : Fn Try.prog 61 [.g (Network.rs t a0)] (.c (.r (.v (.bool r)))) := by
 obtain ⟨X, hX⟩ := hide (.c (.r (.v (.bool r))) : X); rw [← hX]; refine fn_of (rvs := rv61) (j := ir61) Try.func61 rfl (by kernel_rfl) (Nat.le_of_ble_eq_true rfl) (by kernel_rfl) prog_mixed ?_; intro g2 F hg2 hF; obtain rfl : g2 = g := hg2.unique.trans hg.symm; clear hg2; obtain ⟨wrap, lt, le, _, _, _, _, _, _, _, _, _, _, add, _, _, _, _, _, _, _, llen, _, _, _, _, _, _, _, _, _, _, _, _, _, _, _, _, _, _, _, _, _, _⟩ := g2; obtain ⟨r_Leg, _, r_I64, _, _, _, _, _, _, _, _, _, _, _, _⟩ := t
 obtain ⟨a0_Legs, a0_Off, a0_Change⟩ := a0; unfold S_IsNetwork at h; try dsimp only at h
 cbv; obtain ⟨o1, ho1, h⟩ := of_cl h; try dsimp only at h
 try rw [hg] at ho1
 try rw [ht] at ho1
 refine ABL.mk { p : Nat × Int // p.1 ≤ a0_Legs.length ∧ p.2 = ((p.1 : Nat) : Int) ∧ S_IsNetwork_l1 G.real TE.real (List.drop p.1 a0_Legs) = some o1 } (fun ⟨⟨k1, v1⟩, _⟩ => ({ sl := [(1, .c (.p 0 3 0 0)), (3, .c (.r (.v (.int .i64 v1))))], tab := [(0, some (.foc 3 [] [.r (.s 6 (r_Leg a0_Legs)), .r (.s 1 (r_I64 a0_Off)), .r (.v (.int .i64 a0_Change))] []))] } : St)) 1 (fun p => a0_Legs.length - p.1.1) ⟨(0, 0), Nat.zero_le _, rfl, ho1⟩ (Unit) (fun _ => ({ sl := [(1, .c (.p 0 3 0 0))], tab := [(0, some (.foc 3 [] [.r (.s 6 (r_Leg a0_Legs)), .r (.s 1 (r_I64 a0_Off)), .r (.v (.int .i64 a0_Change))] []))] } : St)) 1 (fun y => o1 = LR.out y) ?_ ?_ ?_
 ·refine Wk.of [(0, some 0)] rfl rfl ?_ ?_
  ·cbv; all_goals exact ⟨⟨_, rfl, rfl⟩, ⟨_, rfl, rfl⟩, trivial⟩
  cbv; all_goals exact ⟨⟨_, rfl, _, rfl, rfl, rfl, rfl, trivial⟩, trivial⟩
 ·rintro ⟨⟨k1, v1⟩, hk1, hi1, h_1⟩ hq1; have hm1 := (hq1.2.2.1 0 _ _ _ _ 0 _ _ rfl rfl); try dsimp only at hk1 hi1 h_1
  clear hq1; cbv
  by_cases hc1_ : k1 < a0_Legs.length
  ·have hb1 : lt v1 (llen (r_Leg a0_Legs)) = true := ltL_true_Leg hg ht hi1 hc1_; have hs1 := stepL_Leg hg ht hi1 hc1_ hm1; obtain ⟨z1, hz1⟩ := some_of_lt hc1_; rw [drop_of_some hz1] at h_1; rw [S_IsNetwork_l1] at h_1; obtain ⟨z1_From, z1_To, z1_Start, z1_Takes, z1_Days, z1_Room⟩ := z1; try rw [← hg] at h_1
   try rw [← ht] at h_1
   try dsimp only at h_1
   rw [hb1]; cbv; refine AStep.mk (nn_L hi1) ?_; cbv; refine AGet.mk _ (r_getL_Leg hg ht hi1 hz1) ?_; cbv; obtain ⟨x1, hx1, h_1⟩ := of_cl h_1; try dsimp only at h_1
   refine ACall.mk _ _ rfl (hF _ _ _ (c_S_IsLeg hg ht hx1)) (.inl rfl) (Nat.le_of_ble_eq_true rfl) ?_; cbv
   cases hb2 : x1
   ·rw [br_false hb2] at h_1; cbv; obtain rfl := Option.some.inj h_1; try dsimp only [lr, lrL, lrp, lrpL] at h
    obtain rfl := Option.some.inj h; exact ARet.mk trivial hX.symm
   rw [br_true hb2] at h_1; cbv; try rw [hg] at h_1
   try rw [ht] at h_1
   refine ⟨⟨(k1 + 1, (wrap .i64 (add v1 1))), hc1_, hs1, h_1⟩, Wk.of [(0, some 0)] rfl rfl ?_ ?_, meas_L hc1_⟩
   ·cbv; all_goals exact ⟨⟨_, rfl, rfl⟩, ⟨_, rfl, rfl⟩, trivial⟩
   cbv; all_goals exact ⟨⟨_, rfl, _, rfl, rfl, rfl, rfl, trivial⟩, trivial⟩
  have hb1 : lt v1 (llen (r_Leg a0_Legs)) = false := ltL_false_Leg hg ht hi1 hc1_; rw [List.drop_of_length_le (Nat.le_of_not_lt hc1_)] at h_1; rw [S_IsNetwork_l1] at h_1; try rw [← hg] at h_1
  try rw [← ht] at h_1
  try dsimp only at h_1
  rw [hb1]; cbv; refine ⟨(), Wk.of [(0, some 0)] rfl rfl ?_ ?_, (Option.some.inj h_1).symm⟩
  ·cbv; all_goals exact ⟨⟨_, rfl, rfl⟩, trivial⟩
  cbv; all_goals exact ⟨⟨_, rfl, _, rfl, rfl, rfl, rfl, trivial⟩, trivial⟩
 rintro _ hy1; replace hy1 := hy1.symm; subst hy1; try dsimp only [lr, lrL, lrp, lrpL] at h
 cbv; obtain ⟨o2, ho2, h⟩ := of_cl h; try dsimp only at h
 try rw [hg] at ho2
 try rw [ht] at ho2
 refine ABL.mk { p : Nat × Int // p.1 ≤ a0_Off.length ∧ p.2 = ((p.1 : Nat) : Int) ∧ S_IsNetwork_l2 G.real TE.real (Network.mk a0_Legs a0_Off a0_Change) (List.drop p.1 a0_Off) p.2 = some o2 } (fun ⟨⟨k2, v2⟩, _⟩ => ({ sl := [(1, .c (.p 0 3 0 0)), (4, .c (.r (.v (.int .i64 v2))))], tab := [(0, some (.foc 3 [] [.r (.s 6 (r_Leg a0_Legs)), .r (.s 1 (r_I64 a0_Off)), .r (.v (.int .i64 a0_Change))] []))] } : St)) 1 (fun p => a0_Off.length - p.1.1) ⟨(0, 0), Nat.zero_le _, rfl, ho2⟩ (Unit) (fun _ => ({ sl := [(1, .c (.p 0 3 0 0))], tab := [(0, some (.foc 3 [] [.r (.s 6 (r_Leg a0_Legs)), .r (.s 1 (r_I64 a0_Off)), .r (.v (.int .i64 a0_Change))] []))] } : St)) 1 (fun y => o2 = LR.out y) ?_ ?_ ?_
 ·refine Wk.of [(0, some 0)] rfl rfl ?_ ?_
  ·cbv; all_goals exact ⟨⟨_, rfl, rfl⟩, ⟨_, rfl, rfl⟩, trivial⟩
  cbv; all_goals exact ⟨⟨_, rfl, _, rfl, rfl, rfl, rfl, trivial⟩, trivial⟩
 ·rintro ⟨⟨k2, v2⟩, hk2, hi2, h_2⟩ hq2; have hm2 := (hq2.2.2.1 0 _ _ _ _ 1 _ _ rfl rfl); try dsimp only at hk2 hi2 h_2
  clear hq2; cbv
  by_cases hc2_ : k2 < a0_Off.length
  ·have hb3 : lt v2 (llen (r_I64 a0_Off)) = true := ltL_true_I64 hg ht hi2 hc2_; have hs2 := stepL_I64 hg ht hi2 hc2_ hm2; obtain ⟨z2, hz2⟩ := some_of_lt hc2_; rw [drop_of_some hz2] at h_2; rw [S_IsNetwork_l2] at h_2; try rw [← hg] at h_2
   try rw [← ht] at h_2
   try dsimp only at h_2
   rw [hb3]; cbv; refine AStep.mk (nn_L hi2) ?_; cbv; refine AGet.mk _ (r_getL_I64 hg ht hi2 hz2) ?_; cbv; obtain ⟨x2, hx2, h_2⟩ := of_lP h_2; try dsimp only at h_2
   refine ACall.mk _ _ rfl (hF _ _ _ (c_S_l1In hg ht hx2)) (.inl rfl) (Nat.le_of_ble_eq_true rfl) ?_; cbv
   cases hb4 : x2
   ·rw [br_false hb4] at h_2; cbv; iterate 4 try (rw [hb4]; cbv)
    obtain rfl := Option.some.inj h_2; try dsimp only [lr, lrL, lrp, lrpL] at h
    obtain rfl := Option.some.inj h; exact ARet.mk trivial hX.symm
   rw [br_true hb4] at h_2; cbv; iterate 2 try (rw [hb4]; cbv)
   cases hb5 : (lt 0 v2)
   ·rw [br_false hb5] at h_2; cbv; iterate 11 try (rw [hb5]; cbv)
    try (rw [hb4]; cbv)
    try (rw [hb5]; cbv)
    try (rw [hb4]; cbv)
    try rw [hg] at h_2
    try rw [ht] at h_2
    refine ⟨⟨(k2 + 1, (wrap .i64 (add v2 1))), hc2_, hs2, h_2⟩, Wk.of [(0, some 0)] rfl rfl ?_ ?_, meas_L hc2_⟩
    ·cbv; all_goals exact ⟨⟨_, rfl, rfl⟩, ⟨_, rfl, rfl⟩, trivial⟩
    cbv; all_goals exact ⟨⟨_, rfl, _, rfl, rfl, rfl, rfl, trivial⟩, trivial⟩
   rw [br_true hb5] at h_2; cbv; iterate 4 try (rw [hb5]; cbv)
   obtain ⟨hc1, h_2⟩ := of_gd h_2; refine AStep.mk hc1 ?_; cbv; obtain ⟨x3, hx3, h_2⟩ := of_gt h_2; try dsimp only at h_2
   refine AGet.mk _ (r_get_I64 hg ht hx3) ?_; cbv; iterate 5 try (rw [hb5]; cbv)
   refine AStep.mk (nn_L hi2) ?_; cbv; refine AGet.mk _ (r_getL_I64 hg ht hi2 hz2) ?_; cbv; iterate 2 try (rw [hb5]; cbv)
   try (rw [hb4]; cbv)
   try (rw [hb5]; cbv)
   try (rw [hb4]; cbv)
   cases hb6 : (le z2 x3)
   rotate_left
   ·rw [br_true hb6] at h_2; cbv; obtain rfl := Option.some.inj h_2; try dsimp only [lr, lrL, lrp, lrpL] at h
    obtain rfl := Option.some.inj h; exact ARet.mk trivial hX.symm
   rw [br_false hb6] at h_2; cbv; try rw [hg] at h_2
   try rw [ht] at h_2
   refine ⟨⟨(k2 + 1, (wrap .i64 (add v2 1))), hc2_, hs2, h_2⟩, Wk.of [(0, some 0)] rfl rfl ?_ ?_, meas_L hc2_⟩
   ·cbv; all_goals exact ⟨⟨_, rfl, rfl⟩, ⟨_, rfl, rfl⟩, trivial⟩
   cbv; all_goals exact ⟨⟨_, rfl, _, rfl, rfl, rfl, rfl, trivial⟩, trivial⟩
  have hb3 : lt v2 (llen (r_I64 a0_Off)) = false := ltL_false_I64 hg ht hi2 hc2_; rw [List.drop_of_length_le (Nat.le_of_not_lt hc2_)] at h_2; rw [S_IsNetwork_l2] at h_2; try rw [← hg] at h_2
  try rw [← ht] at h_2
  try dsimp only at h_2
  rw [hb3]; cbv; refine ⟨(), Wk.of [(0, some 0)] rfl rfl ?_ ?_, (Option.some.inj h_2).symm⟩
  ·cbv; all_goals exact ⟨⟨_, rfl, rfl⟩, trivial⟩
  cbv; all_goals exact ⟨⟨_, rfl, _, rfl, rfl, rfl, rfl, trivial⟩, trivial⟩
 rintro _ hy2; replace hy2 := hy2.symm; subst hy2; try dsimp only [lr, lrL, lrp, lrpL] at h
 cbv
 cases hb7 : (le (llen (r_Leg a0_Legs)) 20)
 ·rw [br_false hb7] at h; cbv; iterate 4 try (rw [hb7]; cbv)
  obtain rfl := Option.some.inj h; exact ARet.mk trivial hX.symm
 rw [br_true hb7] at h; cbv; iterate 4 try (rw [hb7]; cbv)
 cases hb8 : (le (llen (r_I64 a0_Off)) 10)
 ·rw [br_false hb8] at h; cbv; iterate 3 try (rw [hb8]; cbv)
  obtain rfl := Option.some.inj h; exact ARet.mk trivial hX.symm
 rw [br_true hb8] at h; cbv; iterate 2 try (rw [hb8]; cbv)
 obtain ⟨x4, hx4, h⟩ := of_lP h; try dsimp only at h
 refine ACall.mk _ _ rfl (hF _ _ _ (c_S_l1In hg ht hx4)) (.inl rfl) (Nat.le_of_ble_eq_true rfl) ?_; cbv; try (rw [hb8]; cbv)
 obtain rfl := Option.some.inj h; exact ARet.mk trivial hX.symm
def ir105 : J := .seq (.reg none [⟨some 4, none, .mv (.k (V.b false))⟩] [0, 1]) (.seq (.seq (.reg none [⟨some 5, none, .mv (.k (V.i 0))⟩] [0, 1, 5]) (.bl 0 (.seq (.seq (.reg none [⟨some 6, none, .mv (.t 5)⟩,⟨some 7, none, .mv (.t 0)⟩,⟨some 8, none, .len false (.t 7)⟩,⟨some 9, none, .bin .lss .i (.t 6) (.t 8)⟩] [0, 1, 5, 9]) (.cond (.t 9) (.skip) (.exit 0))) (.seq (.block 1 (.seq (.reg none [⟨some 12, none, .mv (.t 0)⟩,⟨some 13, none, .mv (.t 5)⟩,⟨some 14, none, .ia 1 (.t 12) (.t 13)⟩,⟨some 15, none, .ld false 1 (.t 14)⟩,⟨some 16, none, .mv (.t 1)⟩,⟨some 17, none, .bin .eql .i (.t 15) (.t 16)⟩] [0, 1, 5, 17]) (.cond (.t 17) (.seq (.reg none [⟨some 4, none, .mv (.k (V.b true))⟩] [4]) (.ret)) (.skip)))) (.reg none [⟨some 10, none, .mv (.t 5)⟩,⟨some 11, none, .bin .add .i (.t 10) (.k (V.i 1))⟩,⟨some 5, none, .mv (.t 11)⟩] [0, 1, 5]))))) (.seq (.reg none [⟨some 4, none, .mv (.k (V.b false))⟩] [4]) (.ret)))
def rv105 : List RV := [.t 4]
def S_l1Has_l1 (g : G) (t : TE) (a1 : Int) : List Int → LR Bool Unit
  | [] =>
    (LR.out ())
  | z1 :: ls1 =>
    br (g.eq z1 a1)
    (
     (LR.ret true))
    (
     S_l1Has_l1 g t a1 ls1)
def S_l1Has (g : G) (t : TE) (a0 : List Int) (a1 : Int) : Bool :=
  lP (S_l1Has_l1 g t a1 a0) fun o1 => lrp o1 fun y1 =>
  false
theorem c_S_l1Has {g : G} {t : TE} {a0 : List Int} {a1 : Int} {r : Bool} (hg : g = G.real) (ht : t = TE.real) (h : S_l1Has g t a0 a1 = r) : Fn Try.prog 105 [.c (.s 1 (t.r_I64 a0)), .c (.v (.int .i64 a1))] (.c (.r (.v (.bool r)))) := by
 obtain ⟨X, hX⟩ := hide (.c (.r (.v (.bool r))) : X); rw [← hX]; refine fn_of (rvs := rv105) (j := ir105) Try.func105 rfl (by kernel_rfl) (Nat.le_of_ble_eq_true rfl) (by kernel_rfl) prog_mixed ?_; intro g2 F hg2 hF; obtain rfl : g2 = g := hg2.unique.trans hg.symm; clear hg2; obtain ⟨wrap, lt, _, eq, _, _, _, _, _, _, _, _, _, add, _, _, _, _, _, _, _, llen, _, _, _, _, _, _, _, _, _, _, _, _, _, _, _, _, _, _, _, _, _, _⟩ := g2; obtain ⟨_, _, r_I64, _, _, _, _, _, _, _, _, _, _, _, _⟩ := t
 unfold S_l1Has at h; try dsimp only at h
 cbv; obtain ⟨o1, ho1, h⟩ := of_lP h; try dsimp only at h
 try rw [hg] at ho1
 try rw [ht] at ho1
 refine ABL.mk { p : Nat × Int // p.1 ≤ a0.length ∧ p.2 = ((p.1 : Nat) : Int) ∧ S_l1Has_l1 G.real TE.real a1 (List.drop p.1 a0) = o1 } (fun ⟨⟨k1, v1⟩, _⟩ => ({ sl := [(0, .c (.r (.s 1 (r_I64 a0)))), (1, .c (.r (.v (.int .i64 a1)))), (5, .c (.r (.v (.int .i64 v1))))], tab := [] } : St)) 0 (fun p => a0.length - p.1.1) ⟨(0, 0), Nat.zero_le _, rfl, ho1⟩ (Unit) (fun _ => ({ sl := [], tab := [] } : St)) 0 (fun y => o1 = LR.out y) ?_ ?_ ?_
 ·refine Wk.of [] rfl rfl ?_ ?_
  ·cbv; all_goals exact ⟨⟨_, rfl, rfl⟩, ⟨_, rfl, rfl⟩, ⟨_, rfl, rfl⟩, trivial⟩
  cbv; all_goals exact trivial
 ·rintro ⟨⟨k1, v1⟩, hk1, hi1, h_1⟩ hq1; have hm1 := (hq1.1 0 _ _ rfl); try dsimp only at hk1 hi1 h_1
  clear hq1; cbv
  by_cases hc1_ : k1 < a0.length
  ·have hb1 : lt v1 (llen (r_I64 a0)) = true := ltL_true_I64 hg ht hi1 hc1_; have hs1 := stepL_I64 hg ht hi1 hc1_ hm1; obtain ⟨z1, hz1⟩ := some_of_lt hc1_; rw [drop_of_some hz1] at h_1; rw [S_l1Has_l1] at h_1; try rw [← hg] at h_1
   try rw [← ht] at h_1
   try dsimp only at h_1
   rw [hb1]; cbv; refine AStep.mk (nn_L hi1) ?_; cbv; refine AGet.mk _ (r_getL_I64 hg ht hi1 hz1) ?_; cbv
   cases hb2 : (eq z1 a1)
   rotate_left
   ·rw [br_true hb2] at h_1; cbv; subst h_1; try dsimp only [lr, lrL, lrp, lrpL] at h
    subst h; exact ARet.mk trivial hX.symm
   rw [br_false hb2] at h_1; cbv; try rw [hg] at h_1
   try rw [ht] at h_1
   refine ⟨⟨(k1 + 1, (wrap .i64 (add v1 1))), hc1_, hs1, h_1⟩, Wk.of [] rfl rfl ?_ ?_, meas_L hc1_⟩
   ·cbv; all_goals exact ⟨⟨_, rfl, rfl⟩, ⟨_, rfl, rfl⟩, ⟨_, rfl, rfl⟩, trivial⟩
   cbv; all_goals exact trivial
  have hb1 : lt v1 (llen (r_I64 a0)) = false := ltL_false_I64 hg ht hi1 hc1_; rw [List.drop_of_length_le (Nat.le_of_not_lt hc1_)] at h_1; rw [S_l1Has_l1] at h_1; try rw [← hg] at h_1
  try rw [← ht] at h_1
  try dsimp only at h_1
  rw [hb1]; cbv; refine ⟨(), Wk.of [] rfl rfl ?_ ?_, h_1.symm⟩
  ·cbv; all_goals exact trivial
  cbv; all_goals exact trivial
 rintro _ hy1; replace hy1 := hy1.symm; subst hy1; try dsimp only [lr, lrL, lrp, lrpL] at h
 cbv; subst h; exact ARet.mk trivial hX.symm
def ir82 : J := .seq (.reg none [⟨some 3, none, .box (.t 0)⟩,⟨some 6, none, .mv (.k (V.b false))⟩] [1, 2, 3]) (.seq (.reg none [⟨some 7, none, .mv (.t 1)⟩,⟨some 8, none, .fa 0 (.t 3)⟩,⟨some 9, none, .ld false 1 (.t 8)⟩,⟨some 10, none, .len false (.t 9)⟩,⟨some 11, none, .bin .sub .i (.t 10) (.k (V.i 1))⟩,⟨some 12, none, .call 62 true [(.t 7), (.k (V.i 0)), (.t 11)]⟩,⟨some 13, none, .mv (.t 12)⟩,⟨some 14, (some (13, true)), .mv (.t 2)⟩,⟨some 15, (some (13, true)), .call 62 true [(.t 14), (.k (V.i 0)), (.k (V.i 60))]⟩,⟨some 16, none, .pick (.t 13) (.t 15) (.k (V.b false))⟩,⟨some 17, none, .mv (.t 16)⟩,⟨some 18, (some (17, true)), .fa 0 (.t 3)⟩,⟨some 19, (some (17, true)), .ld false 1 (.t 18)⟩,⟨some 20, (some (17, true)), .mv (.t 1)⟩,⟨some 21, (some (17, true)), .ia 6 (.t 19) (.t 20)⟩,⟨some 22, (some (17, true)), .fa 4 (.t 21)⟩,⟨some 23, (some (17, true)), .ld false 1 (.t 22)⟩,⟨some 24, (some (17, true)), .mv (.t 2)⟩,⟨some 25, (some (17, true)), .bin .rem .i (.t 24) (.k (V.i 7))⟩,⟨some 26, (some (17, true)), .bin .shr .i (.t 23) (.t 25)⟩,⟨some 27, (some (17, true)), .bin .and .i (.t 26) (.k (V.i 1))⟩,⟨some 28, (some (17, true)), .bin .eql .i (.t 27) (.k (V.i 1))⟩,⟨some 29, none, .pick (.t 17) (.t 28) (.k (V.b false))⟩,⟨some 30, none, .mv (.t 29)⟩,⟨some 31, (some (30, true)), .fa 1 (.t 3)⟩,⟨some 32, (some (30, true)), .ld false 1 (.t 31)⟩,⟨some 33, (some (30, true)), .mv (.t 2)⟩,⟨some 34, (some (30, true)), .call 105 true [(.t 32), (.t 33)]⟩,⟨some 35, (some (30, true)), .not (.t 34)⟩,⟨some 36, none, .pick (.t 30) (.t 35) (.k (V.b false))⟩,⟨some 6, none, .mv (.t 36)⟩] [6]) (.ret))
def rv82 : List RV := [.t 6]
def S_l3Runs (g : G) (t : TE) (a0 : Network) (a1 : Int) (a2 : Int) : Option Bool :=
  lP (S_l1In g t a1 0 (g.wrap .i64 (g.sub (g.llen (t.r_Leg a0.Legs)) 1))) fun x1 =>
  br x1
  (
   lP (S_l1In g t a2 0 60) fun x2 =>
   br x2
   (
    gd (((0 : Int) ≤ a1)) <|
    gt a0.Legs (g.nat a1) fun x3 =>
    gd (((0 : Int) ≤ (g.rem a2 7))) <|
    br (g.eq (g.band .i64 (g.shr .i64 x3.Days (g.rem a2 7)) 1) 1)
    (
     lP (S_l1Has g t a0.Off a2) fun x4 =>
     some (!x4))
    (
     some false))
   (
    some false))
  (
   some false)
theorem c_S_l3Runs {g : G} {t : TE} {a0 : Network} {a1 : Int} {a2 : Int} {r : Bool} (hg : g = G.real) (ht : t = TE.real) (h : S_l3Runs g t a0 a1 a2 = some r) : Fn Try.prog 82 [.g (Network.rs t a0), .c (.v (.int .i64 a1)), .c (.v (.int .i64 a2))] (.c (.r (.v (.bool r)))) := by
 obtain ⟨X, hX⟩ := hide (.c (.r (.v (.bool r))) : X); rw [← hX]; refine fn_of (rvs := rv82) (j := ir82) Try.func82 rfl (by kernel_rfl) (Nat.le_of_ble_eq_true rfl) (by kernel_rfl) prog_mixed ?_; intro g2 F hg2 hF; obtain rfl : g2 = g := hg2.unique.trans hg.symm; clear hg2; obtain ⟨_, _, _, eq, _, rem, band, _, _, _, shr, _, _, _, _, _, _, _, _, _, _, _, _, _, _, _, _, _, _, _, _, _, _, _, _, _, _, _, _, _, _, _, _, _⟩ := g2; obtain ⟨_, _, _, _, _, _, _, _, _, _, _, _, _, _, _⟩ := t
 obtain ⟨a0_Legs, a0_Off, a0_Change⟩ := a0; unfold S_l3Runs at h; try dsimp only at h
 cbv; obtain ⟨x1, hx1, h⟩ := of_lP h; try dsimp only at h
 refine ACall.mk _ _ rfl (hF _ _ _ (c_S_l1In hg ht hx1)) (.inl rfl) (Nat.le_of_ble_eq_true rfl) ?_; cbv
 cases hb1 : x1
 ·rw [br_false hb1] at h; cbv; iterate 2 try (rw [hb1]; cbv)
  obtain rfl := Option.some.inj h; exact ARet.mk trivial hX.symm
 rw [br_true hb1] at h; cbv; try (rw [hb1]; cbv)
 obtain ⟨x2, hx2, h⟩ := of_lP h; try dsimp only at h
 refine ACall.mk _ _ rfl (hF _ _ _ (c_S_l1In hg ht hx2)) (.inl rfl) (Nat.le_of_ble_eq_true rfl) ?_; cbv; try (rw [hb1]; cbv)
 cases hb2 : x2
 ·rw [br_false hb2] at h; cbv; iterate 11 try (rw [hb2]; cbv)
  obtain rfl := Option.some.inj h; exact ARet.mk trivial hX.symm
 rw [br_true hb2] at h; cbv; iterate 3 try (rw [hb2]; cbv)
 obtain ⟨hc1, h⟩ := of_gd h; refine AStep.mk hc1 ?_; cbv; obtain ⟨x3, hx3, h⟩ := of_gt h; obtain ⟨x3_From, x3_To, x3_Start, x3_Takes, x3_Days, x3_Room⟩ := x3; try dsimp only at h
 refine AGet.mk _ (r_get_Leg hg ht hx3) ?_; cbv; iterate 4 try (rw [hb2]; cbv)
 refine AStep.mk (by decide) ?_; cbv; try (rw [hb2]; cbv)
 obtain ⟨hc2, h⟩ := of_gd h; refine AStep.mk hc2 ?_; cbv; iterate 3 try (rw [hb2]; cbv)
 cases hb3 : (eq (band .i64 (shr .i64 x3_Days (rem a2 7)) 1) 1)
 ·rw [br_false hb3] at h; cbv; iterate 5 try (rw [hb3]; cbv)
  obtain rfl := Option.some.inj h; exact ARet.mk trivial hX.symm
 rw [br_true hb3] at h; cbv; iterate 3 try (rw [hb3]; cbv)
 obtain ⟨x4, hx4, h⟩ := of_lP h; try dsimp only at h
 refine ACall.mk _ _ rfl (hF _ _ _ (c_S_l1Has hg ht hx4)) (.inl rfl) (Nat.le_of_ble_eq_true rfl) ?_; cbv; iterate 2 try (rw [hb3]; cbv)
 obtain rfl := Option.some.inj h; exact ARet.mk trivial hX.symm
def ir83 : J := .seq (.reg none [⟨some 2, none, .box (.t 0)⟩,⟨some 3, none, .box (.t 1)⟩,⟨some 4, none, .mv (.k (V.b false))⟩] [2, 3]) (.seq (.block 0 (.seq (.reg none [⟨some 6, none, .fa 1 (.t 2)⟩,⟨some 7, none, .fa 1 (.t 6)⟩,⟨some 8, none, .ld false 1 (.t 7)⟩,⟨some 9, none, .fa 1 (.t 3)⟩,⟨some 10, none, .fa 1 (.t 9)⟩,⟨some 11, none, .ld false 1 (.t 10)⟩,⟨some 12, none, .bin .neq .i (.t 8) (.t 11)⟩,⟨some 5, none, .mv (.t 12)⟩] [2, 3, 5]) (.cond (.t 5) (.seq (.reg none [⟨some 13, none, .fa 1 (.t 2)⟩,⟨some 14, none, .fa 1 (.t 13)⟩,⟨some 15, none, .ld false 1 (.t 14)⟩,⟨some 16, none, .fa 1 (.t 3)⟩,⟨some 17, none, .fa 1 (.t 16)⟩,⟨some 18, none, .ld false 1 (.t 17)⟩,⟨some 19, none, .bin .lss .i (.t 15) (.t 18)⟩,⟨some 4, none, .mv (.t 19)⟩] [4]) (.ret)) (.seq (.reg none [⟨some 21, none, .fa 1 (.t 2)⟩,⟨some 22, none, .fa 0 (.t 21)⟩,⟨some 23, none, .ld false 1 (.t 22)⟩,⟨some 24, none, .fa 1 (.t 3)⟩,⟨some 25, none, .fa 0 (.t 24)⟩,⟨some 26, none, .ld false 1 (.t 25)⟩,⟨some 27, none, .bin .neq .i (.t 23) (.t 26)⟩,⟨some 20, none, .mv (.t 27)⟩] [2, 3, 20]) (.cond (.t 20) (.seq (.reg none [⟨some 28, none, .fa 1 (.t 2)⟩,⟨some 29, none, .fa 0 (.t 28)⟩,⟨some 30, none, .ld false 1 (.t 29)⟩,⟨some 31, none, .fa 1 (.t 3)⟩,⟨some 32, none, .fa 0 (.t 31)⟩,⟨some 33, none, .ld false 1 (.t 32)⟩,⟨some 34, none, .bin .lss .i (.t 30) (.t 33)⟩,⟨some 4, none, .mv (.t 34)⟩] [4]) (.ret)) (.skip)))))) (.seq (.reg none [⟨some 35, none, .fa 0 (.t 2)⟩,⟨some 36, none, .ld false 1 (.t 35)⟩,⟨some 37, none, .fa 0 (.t 3)⟩,⟨some 38, none, .ld false 1 (.t 37)⟩,⟨some 39, none, .bin .lss .i (.t 36) (.t 38)⟩,⟨some 4, none, .mv (.t 39)⟩] [4]) (.ret)))
def rv83 : List RV := [.t 4]
def S_l6Before (g : G) (t : TE) (a0 : Booking) (a1 : Booking) : Bool :=
  br (g.eq a0.Trip.Day a1.Trip.Day)
  (
   br (g.eq a0.Trip.Leg a1.Trip.Leg)
   (
    (g.lt a0.Thing a1.Thing))
   (
    (g.lt a0.Trip.Leg a1.Trip.Leg)))
  (
   (g.lt a0.Trip.Day a1.Trip.Day))
theorem c_S_l6Before {g : G} {t : TE} {a0 : Booking} {a1 : Booking} {r : Bool} (hg : g = G.real) (ht : t = TE.real) (h : S_l6Before g t a0 a1 = r) : Fn Try.prog 83 [.g (Booking.rs t a0), .g (Booking.rs t a1)] (.c (.r (.v (.bool r)))) := by
 obtain ⟨X, hX⟩ := hide (.c (.r (.v (.bool r))) : X); rw [← hX]; refine fn_of (rvs := rv83) (j := ir83) Try.func83 rfl (by kernel_rfl) (Nat.le_of_ble_eq_true rfl) (by kernel_rfl) prog_mixed ?_; intro g2 F hg2 hF; obtain rfl : g2 = g := hg2.unique.trans hg.symm; clear hg2; obtain ⟨_, _, _, eq, _, _, _, _, _, _, _, _, _, _, _, _, _, _, _, _, _, _, _, _, _, _, _, _, _, _, _, _, _, _, _, _, _, _, _, _, _, _, _, _⟩ := g2; obtain ⟨_, _, _, _, _, _, _, _, _, _, _, _, _, _, _⟩ := t
 obtain ⟨a0_Thing, ⟨a0_Trip_Leg, a0_Trip_Day⟩, a0_Weight⟩ := a0; obtain ⟨a1_Thing, ⟨a1_Trip_Leg, a1_Trip_Day⟩, a1_Weight⟩ := a1; unfold S_l6Before at h; try dsimp only at h
 cbv
 cases hb1 : (eq a0_Trip_Day a1_Trip_Day)
 ·rw [br_false hb1] at h; cbv; subst h; exact ARet.mk trivial hX.symm
 rw [br_true hb1] at h; cbv
 cases hb2 : (eq a0_Trip_Leg a1_Trip_Leg)
 rotate_left
 ·rw [br_true hb2] at h; cbv; subst h; exact ARet.mk trivial hX.symm
 rw [br_false hb2] at h; cbv; subst h; exact ARet.mk trivial hX.symm
def ir84 : J := .seq (.reg none [⟨some 3, none, .box (.t 1)⟩,⟨some 4, none, .mv (.k (V.i 0))⟩] [0, 3]) (.seq (.reg none [⟨some 5, none, .mv (.k (V.i 0))⟩] [0, 3, 5]) (.seq (.seq (.reg none [⟨some 6, none, .mv (.k (V.i 0))⟩] [0, 3, 5, 6]) (.bl 0 (.seq (.seq (.reg none [⟨some 7, none, .mv (.t 6)⟩,⟨some 8, none, .mv (.t 0)⟩,⟨some 9, none, .len false (.t 8)⟩,⟨some 10, none, .bin .lss .i (.t 7) (.t 9)⟩] [0, 3, 5, 6, 10]) (.cond (.t 10) (.skip) (.exit 0))) (.seq (.block 1 (.seq (.reg (some [[], [], [0, 1], [0, 1, 2], [0, 1, 2, 3], [], [0, 1, 2, 3, 4, 5]]) [⟨some 13, none, .mv (.t 0)⟩,⟨some 14, none, .mv (.t 6)⟩,⟨some 15, none, .ia 4 (.t 13) (.t 14)⟩,⟨some 16, none, .fa 1 (.t 15)⟩,⟨some 17, none, .ld true 2 (.t 16)⟩,⟨some 18, none, .ld true 2 (.t 3)⟩,⟨some 19, none, .eqs false [.i, .i] (.t 17) (.t 18)⟩] [0, 3, 5, 6, 19]) (.cond (.t 19) (.reg none [⟨some 20, none, .mv (.t 5)⟩,⟨some 21, none, .mv (.t 0)⟩,⟨some 22, none, .mv (.t 6)⟩,⟨some 23, none, .ia 4 (.t 21) (.t 22)⟩,⟨some 24, none, .fa 3 (.t 23)⟩,⟨some 25, none, .ld false 1 (.t 24)⟩,⟨some 26, none, .bin .add .i (.t 20) (.t 25)⟩,⟨some 5, none, .mv (.t 26)⟩] [0, 3, 5, 6]) (.skip)))) (.reg none [⟨some 11, none, .mv (.t 6)⟩,⟨some 12, none, .bin .add .i (.t 11) (.k (V.i 1))⟩,⟨some 6, none, .mv (.t 12)⟩] [0, 3, 5, 6]))))) (.seq (.reg none [⟨some 27, none, .mv (.t 5)⟩,⟨some 4, none, .mv (.t 27)⟩] [4]) (.ret))))
def rv84 : List RV := [.t 4]
def S_LoadOf_l1 (g : G) (t : TE) (a1 : Trip) : List Booking → Int → Int
  | [], v1 =>
    v1
  | z1 :: ls1, v1 =>
    br (g.all [(g.eq z1.Trip.Leg a1.Leg), (g.eq z1.Trip.Day a1.Day)])
    (
     S_LoadOf_l1 g t a1 ls1 (g.wrap .i64 (g.add v1 z1.Weight)))
    (
     S_LoadOf_l1 g t a1 ls1 v1)
def S_LoadOf (g : G) (t : TE) (a0 : List Booking) (a1 : Trip) : Int :=
  lP (S_LoadOf_l1 g t a1 a0 0) fun y1 =>
  y1
theorem c_S_LoadOf {g : G} {t : TE} {a0 : List Booking} {a1 : Trip} {r : Int} (hg : g = G.real) (ht : t = TE.real) (h : S_LoadOf g t a0 a1 = r) : Fn Try.prog 84 [.c (.s 4 (t.r_Booking a0)), .g (Trip.rs t a1)] (.c (.r (.v (.int .i64 r)))) := by
 obtain ⟨X, hX⟩ := hide (.c (.r (.v (.int .i64 r))) : X); rw [← hX]; refine fn_of (rvs := rv84) (j := ir84) Try.func84 rfl (by kernel_rfl) (Nat.le_of_ble_eq_true rfl) (by kernel_rfl) prog_mixed ?_; intro g2 F hg2 hF; obtain rfl : g2 = g := hg2.unique.trans hg.symm; clear hg2; obtain ⟨wrap, lt, _, eq, _, _, _, _, _, _, _, _, _, add, _, _, _, _, _, _, _, llen, _, _, _, _, _, _, _, _, _, _, _, all, _, _, _, _, _, _, _, _, _, _⟩ := g2; obtain ⟨_, _, _, _, r_Booking, _, _, _, _, _, _, _, _, _, _⟩ := t
 obtain ⟨a1_Leg, a1_Day⟩ := a1; unfold S_LoadOf at h; try dsimp only at h
 cbv; obtain ⟨o1, ho1, h⟩ := of_lP h; try dsimp only at h
 try rw [hg] at ho1
 try rw [ht] at ho1
 refine ABL.mk { p : Nat × Int × Int // p.1 ≤ a0.length ∧ p.2.1 = ((p.1 : Nat) : Int) ∧ S_LoadOf_l1 G.real TE.real (Trip.mk a1_Leg a1_Day) (List.drop p.1 a0) p.2.2 = o1 } (fun ⟨⟨k1, v2, v1⟩, _⟩ => ({ sl := [(0, .c (.r (.s 4 (r_Booking a0)))), (3, .c (.p 0 2 0 0)), (5, .c (.r (.v (.int .i64 v1)))), (6, .c (.r (.v (.int .i64 v2))))], tab := [(0, some (.foc 2 [] [.r (.v (.int .i64 a1_Leg)), .r (.v (.int .i64 a1_Day))] []))] } : St)) 1 (fun p => a0.length - p.1.1) ⟨(0, 0, 0), Nat.zero_le _, rfl, ho1⟩ (Int) (fun y1 => ({ sl := [(5, .c (.r (.v (.int .i64 y1))))], tab := [] } : St)) 0 (fun y => o1 = y) ?_ ?_ ?_
 ·refine Wk.of [(0, some 0)] rfl rfl ?_ ?_
  ·cbv; all_goals exact ⟨⟨_, rfl, rfl⟩, ⟨_, rfl, rfl⟩, ⟨_, rfl, rfl⟩, ⟨_, rfl, rfl⟩, trivial⟩
  cbv; all_goals exact ⟨⟨_, rfl, _, rfl, rfl, rfl, trivial⟩, trivial⟩
 ·rintro ⟨⟨k1, v2, v1⟩, hk1, hi1, h_1⟩ hq1; have hm1 := (hq1.1 0 _ _ rfl); try dsimp only at hk1 hi1 h_1
  clear hq1; cbv
  by_cases hc1_ : k1 < a0.length
  ·have hb1 : lt v2 (llen (r_Booking a0)) = true := ltL_true_Booking hg ht hi1 hc1_; have hs1 := stepL_Booking hg ht hi1 hc1_ hm1; obtain ⟨z1, hz1⟩ := some_of_lt hc1_; rw [drop_of_some hz1] at h_1; rw [S_LoadOf_l1] at h_1; obtain ⟨z1_Thing, ⟨z1_Trip_Leg, z1_Trip_Day⟩, z1_Weight⟩ := z1; try rw [← hg] at h_1
   try rw [← ht] at h_1
   try dsimp only at h_1
   rw [hb1]; cbv; refine AStep.mk (nn_L hi1) ?_; cbv; refine AGet.mk _ (r_getL_Booking hg ht hi1 hz1) ?_; cbv
   cases hb2 : (all [(eq z1_Trip_Leg a1_Leg), (eq z1_Trip_Day a1_Day)])
   ·rw [br_false hb2] at h_1; cbv; try rw [hg] at h_1
    try rw [ht] at h_1
    refine ⟨⟨(k1 + 1, (wrap .i64 (add v2 1)), v1), hc1_, hs1, h_1⟩, Wk.of [(0, some 0)] rfl rfl ?_ ?_, meas_L hc1_⟩
    ·cbv; all_goals exact ⟨⟨_, rfl, rfl⟩, ⟨_, rfl, rfl⟩, ⟨_, rfl, rfl⟩, ⟨_, rfl, rfl⟩, trivial⟩
    cbv; all_goals exact ⟨⟨_, rfl, _, rfl, rfl, rfl, trivial⟩, trivial⟩
   rw [br_true hb2] at h_1; cbv; refine AStep.mk (nn_L hi1) ?_; cbv; refine AGet.mk _ (r_getL_Booking hg ht hi1 hz1) ?_; cbv; try rw [hg] at h_1
   try rw [ht] at h_1
   refine ⟨⟨(k1 + 1, (wrap .i64 (add v2 1)), (wrap .i64 (add v1 z1_Weight))), hc1_, hs1, h_1⟩, Wk.of [(0, some 0)] rfl rfl ?_ ?_, meas_L hc1_⟩
   ·cbv; all_goals exact ⟨⟨_, rfl, rfl⟩, ⟨_, rfl, rfl⟩, ⟨_, rfl, rfl⟩, ⟨_, rfl, rfl⟩, trivial⟩
   cbv; all_goals exact ⟨⟨_, rfl, _, rfl, rfl, rfl, trivial⟩, trivial⟩
  have hb1 : lt v2 (llen (r_Booking a0)) = false := ltL_false_Booking hg ht hi1 hc1_; rw [List.drop_of_length_le (Nat.le_of_not_lt hc1_)] at h_1; rw [S_LoadOf_l1] at h_1; try rw [← hg] at h_1
  try rw [← ht] at h_1
  try dsimp only at h_1
  rw [hb1]; cbv; refine ⟨v1, Wk.of [] rfl rfl ?_ ?_, h_1.symm⟩
  ·cbv; all_goals exact ⟨⟨_, rfl, rfl⟩, trivial⟩
  cbv; all_goals exact trivial
 rintro y1 hy1; replace hy1 := hy1.symm; subst hy1; try dsimp only [lr, lrL, lrp, lrpL] at h
 cbv; subst h; exact ARet.mk trivial hX.symm
def ir48 : J := .seq (.reg none [⟨some 2, none, .box (.t 0)⟩,⟨some 4, none, .mv (.k (V.b false))⟩] [1, 2]) (.seq (.seq (.reg none [⟨some 8, none, .ld true 3 (.t 2)⟩,⟨some 9, none, .call 61 true [(.t 8)]⟩,⟨some 10, none, .not (.t 9)⟩,⟨some 11, none, .mv (.t 10)⟩,⟨some 12, (some (11, false)), .mv (.t 1)⟩,⟨some 13, (some (11, false)), .len false (.t 12)⟩,⟨some 14, (some (11, false)), .bin .gtr .i (.t 13) (.k (V.i 120))⟩,⟨some 15, none, .pick (.t 11) (.k (V.b true)) (.t 14)⟩] [1, 2, 15]) (.cond (.t 15) (.seq (.reg none [⟨some 4, none, .mv (.k (V.b false))⟩] [4]) (.ret)) (.skip))) (.seq (.seq (.reg none [⟨some 5, none, .mv (.k (V.i 0))⟩] [1, 2, 5]) (.bl 0 (.seq (.seq (.reg none [⟨some 16, none, .mv (.t 5)⟩,⟨some 17, none, .mv (.t 1)⟩,⟨some 18, none, .len false (.t 17)⟩,⟨some 19, none, .bin .lss .i (.t 16) (.t 18)⟩] [1, 2, 5, 19]) (.cond (.t 19) (.skip) (.exit 0))) (.seq (.block 1 (.seq (.reg none [⟨some 22, none, .mv (.t 1)⟩,⟨some 23, none, .mv (.t 5)⟩,⟨some 24, none, .ia 4 (.t 22) (.t 23)⟩,⟨some 25, none, .ld true 4 (.t 24)⟩,⟨some 6, none, .alloc [.r (.v (.int .i64 0)), .r (.v (.int .i64 0)), .r (.v (.int .i64 0)), .r (.v (.int .i64 0))]⟩,⟨none, none, .st 4 (.t 6) (.t 25)⟩] [1, 2, 5, 6]) (.seq (.reg (some [[], [], [1], [1, 2], [], [4], [4, 5], [0, 1, 2, 3, 4, 5, 6], [0, 1, 2, 3, 4, 5, 6, 7], [0, 1, 2, 3, 4, 5, 6, 7, 8], [0, 1, 2, 3, 4, 5, 6, 7, 8, 9], [0, 1, 2, 3, 4, 5, 6, 7, 8, 9, 10], [0, 1, 2, 3, 4, 5, 6, 7, 8, 9, 10, 11], [0, 1, 2, 3, 4, 5, 6, 7, 8, 9, 10, 11, 12], [0, 1, 2, 3, 4, 5, 6, 7, 8, 9, 10, 11, 12, 13], [0, 1, 2, 3, 4, 5, 6, 7, 8, 9, 10, 11, 12, 13, 14], [0, 1, 2, 3, 4, 5, 6, 7, 8, 9, 10, 11, 12, 13, 14, 15], [0, 1, 2, 3, 4, 5, 6, 7, 8, 9, 10, 11, 12, 13, 14, 15, 16], [0, 1, 2, 3, 4, 5, 6, 7, 8, 9, 10, 11, 12, 13, 14, 15, 16, 17], [0, 1, 2, 3, 4, 5, 6, 7, 8, 9, 10, 11, 12, 13, 14, 15, 16, 17, 18], [0, 1, 2, 3, 4, 5, 6, 7, 8, 9, 10, 11, 12, 13, 14, 15, 16, 17, 18, 19], [0, 1, 2, 3, 4, 5, 6, 7, 8, 9, 10, 11, 12, 13, 14, 15, 16, 17, 18, 19, 20], [0, 1, 2, 3, 4, 5, 6, 7, 8, 9, 10, 11, 12, 13, 14, 15, 16, 17, 18, 19, 20, 21], [0, 1, 2, 3, 4, 5, 6, 7, 8, 9, 10, 11, 12, 13, 14, 15, 16, 17, 18, 19, 20, 21, 22], [0, 1, 2, 3, 4, 5, 6, 7, 8, 9, 10, 11, 12, 13, 14, 15, 16, 17, 18, 19, 20, 21, 22, 23], [0, 1, 2, 3, 4, 5, 6, 7, 8, 9, 10, 11, 12, 13, 14, 15, 16, 17, 18, 19, 20, 21, 22, 23, 24], [0, 1, 2, 3, 4, 5, 6, 7, 8, 9, 10, 11, 12, 13, 14, 15, 16, 17, 18, 19, 20, 21, 22, 23, 24], [0, 1, 2, 3, 4, 5, 6, 7, 8, 9, 10, 11, 12, 13, 14, 15, 16, 17, 18, 19, 20, 21, 22, 23, 24, 26], [0, 1, 2, 3, 4, 5, 6, 7, 8, 9, 10, 11, 12, 13, 14, 15, 16, 17, 18, 19, 20, 21, 22, 23, 24, 25, 26, 27], [0, 1, 2, 3, 4, 5, 6, 7, 8, 9, 10, 11, 12, 13, 14, 15, 16, 17, 18, 19, 20, 21, 22, 23, 24, 25, 26, 27, 28], [0, 1, 2, 3, 4, 5, 6, 7, 8, 9, 10, 11, 12, 13, 14, 15, 16, 17, 18, 19, 20, 21, 22, 23, 24], [0, 1, 2, 3, 4, 5, 6, 7, 8, 9, 10, 11, 12, 13, 14, 15, 16, 17, 18, 19, 20, 21, 22, 23, 24, 25, 26, 27, 28, 29, 30], [0, 1, 2, 3, 4, 5, 6, 7, 8, 9, 10, 11, 12, 13, 14, 15, 16, 17,
 18, 19, 20, 21, 22, 23, 24, 25, 26, 27, 28, 29, 30, 31], [0, 1, 2, 3, 4, 5, 6, 7, 8, 9, 10, 11, 12, 13, 14, 15, 16, 17, 18, 19, 20, 21, 22, 23, 24, 25, 26, 27, 28, 29, 30, 31, 32], [0, 1, 2, 3, 4, 5, 6, 7, 8, 9, 10, 11, 12, 13, 14, 15, 16, 17, 18, 19, 20, 21, 22, 23, 24, 25, 26, 27, 28, 29, 30, 31, 32, 33]]) [⟨some 26, none, .ld true 3 (.t 2)⟩,⟨some 27, none, .fa 1 (.t 6)⟩,⟨some 28, none, .fa 0 (.t 27)⟩,⟨some 29, none, .ld false 1 (.t 28)⟩,⟨some 30, none, .fa 1 (.t 6)⟩,⟨some 31, none, .fa 1 (.t 30)⟩,⟨some 32, none, .ld false 1 (.t 31)⟩,⟨some 33, none, .call 82 true [(.t 26), (.t 29), (.t 32)]⟩,⟨some 34, none, .not (.t 33)⟩,⟨some 35, none, .mv (.t 34)⟩,⟨some 36, (some (35, false)), .fa 0 (.t 6)⟩,⟨some 37, (some (35, false)), .ld false 1 (.t 36)⟩,⟨some 38, (some (35, false)), .call 62 true [(.t 37), (.k (V.i 1)), (.k (V.i 9999))]⟩,⟨some 39, (some (35, false)), .not (.t 38)⟩,⟨some 40, none, .pick (.t 35) (.k (V.b true)) (.t 39)⟩,⟨some 41, none, .mv (.t 40)⟩,⟨some 42, (some (41, false)), .fa 3 (.t 6)⟩,⟨some 43, (some (41, false)), .ld false 1 (.t 42)⟩,⟨some 44, (some (41, false)), .call 62 true [(.t 43), (.k (V.i 1)), (.k (V.i 1000000))]⟩,⟨some 45, (some (41, false)), .not (.t 44)⟩,⟨some 46, none, .pick (.t 41) (.k (V.b true)) (.t 45)⟩,⟨some 47, none, .mv (.t 46)⟩,⟨some 48, (some (47, false)), .mv (.t 5)⟩,⟨some 49, (some (47, false)), .bin .gtr .i (.t 48) (.k (V.i 0))⟩,⟨some 50, (some (47, false)), .mv (.t 49)⟩,⟨some 51, (some (50, true)), .mv (.t 1)⟩,⟨some 52, (some (50, true)), .mv (.t 5)⟩,⟨some 53, (some (50, true)), .bin .sub .i (.t 52) (.k (V.i 1))⟩,⟨some 54, (some (50, true)), .ia 4 (.t 51) (.t 53)⟩,⟨some 55, (some (50, true)), .ld true 4 (.t 54)⟩,⟨some 56, (some (50, true)), .ld true 4 (.t 6)⟩,⟨some 57, (some (50, true)), .call 83 true [(.t 55), (.t 56)]⟩,⟨some 58, (some (50, true)), .not (.t 57)⟩,⟨some 59, (some (47, false)), .pick (.t 50) (.t 58) (.k (V.b false))⟩,⟨some 60, none, .pick (.t 47) (.k (V.b true)) (.t 59)⟩] [1, 2, 5, 60]) (.cond (.t 60) (.seq (.reg none [⟨some 4, none, .mv (.k (V.b false))⟩] [4]) (.ret)) (.skip))))) (.reg none [⟨some 20, none, .mv (.t 5)⟩,⟨some 21, none, .bin .add .i (.t 20) (.k (V.i 1))⟩,⟨some 5, none, .mv (.t 21)⟩] [1, 2, 5]))))) (.seq (.seq (.reg none [⟨some 7, none, .mv (.k (V.i 0))⟩] [1, 2, 7]) (.bl 2 (.seq (.seq (.reg none [⟨some 61, none, .mv (.t 7)⟩,⟨some 62, none, .mv (.t 1)⟩,⟨some 63, none, .len false (.t 62)⟩,⟨some 64, none, .bin .lss .i (.t 61) (.t 63)⟩] [1, 2, 7, 64]) (.cond (.t 64) (.skip) (.exit 2))) (.seq (.block 3 (.seq (.reg (some [[], [], [], [1, 2], [1, 2, 3], [1, 2, 3, 4], [0, 1, 2, 3, 4, 5], [], [7], [], [], [9, 10], [9, 10, 11], [9, 10, 11, 12], [9, 10, 11, 12, 13], [7, 8, 9, 10, 11, 12, 13, 14], [7, 8, 9, 10, 11, 12, 13, 14, 15], [7, 8, 9, 10, 11, 12, 13, 14, 15, 16], [0, 1, 2, 3, 4, 5, 6, 7, 8, 9, 10, 11, 12, 13, 14, 15, 16, 17]]) [⟨some 67, none, .mv (.t 1)⟩,⟨some 68, none, .mv (.t 1)⟩,⟨some 69, none, .mv (.t 7)⟩,⟨some 70, none, .ia 4 (.t 68) (.t 69)⟩,⟨some 71, none, .fa 1 (.t 70)⟩,⟨some
 72, none, .ld true 2 (.t 71)⟩,⟨some 73, none, .call 84 true [(.t 67), (.t 72)]⟩,⟨some 74, none, .fa 0 (.t 2)⟩,⟨some 75, none, .ld false 1 (.t 74)⟩,⟨some 76, none, .mv (.t 1)⟩,⟨some 77, none, .mv (.t 7)⟩,⟨some 78, none, .ia 4 (.t 76) (.t 77)⟩,⟨some 79, none, .fa 1 (.t 78)⟩,⟨some 80, none, .fa 0 (.t 79)⟩,⟨some 81, none, .ld false 1 (.t 80)⟩,⟨some 82, none, .ia 6 (.t 75) (.t 81)⟩,⟨some 83, none, .fa 5 (.t 82)⟩,⟨some 84, none, .ld false 1 (.t 83)⟩,⟨some 85, none, .bin .gtr .i (.t 73) (.t 84)⟩] [1, 2, 7, 85]) (.cond (.t 85) (.seq (.reg none [⟨some 4, none, .mv (.k (V.b false))⟩] [4]) (.ret)) (.skip)))) (.reg none [⟨some 65, none, .mv (.t 7)⟩,⟨some 66, none, .bin .add .i (.t 65) (.k (V.i 1))⟩,⟨some 7, none, .mv (.t 66)⟩] [1, 2, 7]))))) (.seq (.reg none [⟨some 4, none, .mv (.k (V.b true))⟩] [4]) (.ret)))))
def rv48 : List RV := [.t 4]
def S_AreBookings_l2 (g : G) (t : TE) (a0 : Network) (a1 : List Booking) : List Booking → Option (LR Bool Unit)
  | [] =>
    some (LR.out ())
  | z2 :: ls2 =>
    lP (S_LoadOf g t a1 (Trip.mk z2.Trip.Leg z2.Trip.Day)) fun x7 =>
    gd (((0 : Int) ≤ z2.Trip.Leg)) <|
    gt a0.Legs (g.nat z2.Trip.Leg) fun x8 =>
    br (g.lt x8.Room x7)
    (
     some (LR.ret false))
    (
     S_AreBookings_l2 g t a0 a1 ls2)
def S_AreBookings_l1 (g : G) (t : TE) (a0 : Network) (a1 : List Booking) : List Booking → Int → Option (LR Bool Unit)
  | [], v1 =>
    some (LR.out ())
  | z1 :: ls1, v1 =>
    cl (S_l3Runs g t a0 z1.Trip.Leg z1.Trip.Day) fun x2 =>
    br x2
    (
     lP (S_l1In g t z1.Thing 1 9999) fun x3 =>
     br x3
     (
      lP (S_l1In g t z1.Weight 1 1000000) fun x4 =>
      br x4
      (
       br (g.lt 0 v1)
       (
        gd (((0 : Int) ≤ (g.wrap .i64 (g.sub v1 1)))) <|
        gt a1 (g.nat (g.wrap .i64 (g.sub v1 1))) fun x5 =>
        lP (S_l6Before g t (Booking.mk x5.Thing (Trip.mk x5.Trip.Leg x5.Trip.Day) x5.Weight) (Booking.mk z1.Thing (Trip.mk z1.Trip.Leg z1.Trip.Day) z1.Weight)) fun x6 =>
        br x6
        (
         S_AreBookings_l1 g t a0 a1 ls1 (g.wrap .i64 (g.add v1 1)))
        (
         some (LR.ret false)))
       (
        S_AreBookings_l1 g t a0 a1 ls1 (g.wrap .i64 (g.add v1 1))))
      (
       some (LR.ret false)))
     (
      some (LR.ret false)))
    (
     some (LR.ret false))
def S_AreBookings (g : G) (t : TE) (a0 : Network) (a1 : List Booking) : Option Bool :=
  cl (S_IsNetwork g t a0) fun x1 =>
  br x1
  (
   br (g.lt 120 (g.llen (t.r_Booking a1)))
   (
    some false)
   (
    cl (S_AreBookings_l1 g t a0 a1 a1 0) fun o1 => lr o1 fun y1 =>
    cl (S_AreBookings_l2 g t a0 a1 a1) fun o2 => lr o2 fun y2 =>
    some true))
  (
   some false)
theorem c_S_AreBookings {g : G} {t : TE} {a0 : Network} {a1 : List Booking} {r : Bool} (hg : g = G.real) (ht : t = TE.real) (h : S_AreBookings g t a0 a1 = some r) : Fn Try.prog 48 [.g (Network.rs t a0), .c (.s 4 (t.r_Booking a1))] (.c (.r (.v (.bool r)))) := by
 obtain ⟨X, hX⟩ := hide (.c (.r (.v (.bool r))) : X); rw [← hX]; refine fn_of (rvs := rv48) (j := ir48) Try.func48 rfl (by kernel_rfl) (Nat.le_of_ble_eq_true rfl) (by kernel_rfl) prog_mixed ?_; intro g2 F hg2 hF; obtain rfl : g2 = g := hg2.unique.trans hg.symm; clear hg2; obtain ⟨wrap, lt, _, _, _, _, _, _, _, _, _, _, _, add, _, _, _, _, _, _, _, llen, _, _, _, _, _, _, _, _, _, _, _, _, _, _, _, _, _, _, _, _, _, _⟩ := g2; obtain ⟨r_Leg, _, r_I64, _, r_Booking, _, _, _, _, _, _, _, _, _, _⟩ := t
 obtain ⟨a0_Legs, a0_Off, a0_Change⟩ := a0; unfold S_AreBookings at h; try dsimp only at h
 cbv; obtain ⟨x1, hx1, h⟩ := of_cl h; try dsimp only at h
 refine ACall.mk _ _ rfl (hF _ _ _ (c_S_IsNetwork hg ht hx1)) (.inl rfl) (Nat.le_of_ble_eq_true rfl) ?_; cbv
 cases hb1 : x1
 ·rw [br_false hb1] at h; cbv; iterate 3 try (rw [hb1]; cbv)
  obtain rfl := Option.some.inj h; exact ARet.mk trivial hX.symm
 rw [br_true hb1] at h; cbv; iterate 3 try (rw [hb1]; cbv)
 cases hb2 : (lt 120 (llen (r_Booking a1)))
 rotate_left
 ·rw [br_true hb2] at h; cbv; obtain rfl := Option.some.inj h; exact ARet.mk trivial hX.symm
 rw [br_false hb2] at h; cbv; obtain ⟨o1, ho1, h⟩ := of_cl h; try dsimp only at h
 try rw [hg] at ho1
 try rw [ht] at ho1
 refine ABL.mk { p : Nat × Int // p.1 ≤ a1.length ∧ p.2 = ((p.1 : Nat) : Int) ∧ S_AreBookings_l1 G.real TE.real (Network.mk a0_Legs a0_Off a0_Change) a1 (List.drop p.1 a1) p.2 = some o1 } (fun ⟨⟨k1, v1⟩, _⟩ => ({ sl := [(1, .c (.r (.s 4 (r_Booking a1)))), (2, .c (.p 0 3 0 0)), (5, .c (.r (.v (.int .i64 v1))))], tab := [(0, some (.foc 3 [] [.r (.s 6 (r_Leg a0_Legs)), .r (.s 1 (r_I64 a0_Off)), .r (.v (.int .i64 a0_Change))] []))] } : St)) 1 (fun p => a1.length - p.1.1) ⟨(0, 0), Nat.zero_le _, rfl, ho1⟩ (Unit) (fun _ => ({ sl := [(1, .c (.r (.s 4 (r_Booking a1)))), (2, .c (.p 0 3 0 0))], tab := [(0, some (.foc 3 [] [.r (.s 6 (r_Leg a0_Legs)), .r (.s 1 (r_I64 a0_Off)), .r (.v (.int .i64 a0_Change))] []))] } : St)) 1 (fun y => o1 = LR.out y) ?_ ?_ ?_
 ·refine Wk.of [(0, some 0)] rfl rfl ?_ ?_
  ·cbv; all_goals exact ⟨⟨_, rfl, rfl⟩, ⟨_, rfl, rfl⟩, ⟨_, rfl, rfl⟩, trivial⟩
  cbv; all_goals exact ⟨⟨_, rfl, _, rfl, rfl, rfl, rfl, trivial⟩, trivial⟩
 ·rintro ⟨⟨k1, v1⟩, hk1, hi1, h_1⟩ hq1; have hm1 := (hq1.1 1 _ _ rfl); try dsimp only at hk1 hi1 h_1
  clear hq1; cbv
  by_cases hc1_ : k1 < a1.length
  ·have hb3 : lt v1 (llen (r_Booking a1)) = true := ltL_true_Booking hg ht hi1 hc1_; have hs1 := stepL_Booking hg ht hi1 hc1_ hm1; obtain ⟨z1, hz1⟩ := some_of_lt hc1_; rw [drop_of_some hz1] at h_1; rw [S_AreBookings_l1] at h_1; obtain ⟨z1_Thing, ⟨z1_Trip_Leg, z1_Trip_Day⟩, z1_Weight⟩ := z1; try rw [← hg] at h_1
   try rw [← ht] at h_1
   try dsimp only at h_1
   rw [hb3]; cbv; refine AStep.mk (nn_L hi1) ?_; cbv; refine AGet.mk _ (r_getL_Booking hg ht hi1 hz1) ?_; cbv; obtain ⟨x2, hx2, h_1⟩ := of_cl h_1; try dsimp only at h_1
   refine ACall.mk _ _ rfl (hF _ _ _ (c_S_l3Runs hg ht hx2)) (.inl rfl) (Nat.le_of_ble_eq_true rfl) ?_; cbv
   cases hb4 : x2
   ·rw [br_false hb4] at h_1; cbv; iterate 4 try (rw [hb4]; cbv)
    obtain rfl := Option.some.inj h_1; try dsimp only [lr, lrL, lrp, lrpL] at h
    obtain rfl := Option.some.inj h; exact ARet.mk trivial hX.symm
   rw [br_true hb4] at h_1; cbv; iterate 2 try (rw [hb4]; cbv)
   obtain ⟨x3, hx3, h_1⟩ := of_lP h_1; try dsimp only at h_1
   refine ACall.mk _ _ rfl (hF _ _ _ (c_S_l1In hg ht hx3)) (.inl rfl) (Nat.le_of_ble_eq_true rfl) ?_; cbv; iterate 2 try (rw [hb4]; cbv)
   cases hb5 : x3
   ·rw [br_false hb5] at h_1; cbv; iterate 4 try (rw [hb5]; cbv)
    obtain rfl := Option.some.inj h_1; try dsimp only [lr, lrL, lrp, lrpL] at h
    obtain rfl := Option.some.inj h; exact ARet.mk trivial hX.symm
   rw [br_true hb5] at h_1; cbv; iterate 2 try (rw [hb5]; cbv)
   obtain ⟨x4, hx4, h_1⟩ := of_lP h_1; try dsimp only at h_1
   refine ACall.mk _ _ rfl (hF _ _ _ (c_S_l1In hg ht hx4)) (.inl rfl) (Nat.le_of_ble_eq_true rfl) ?_; cbv; iterate 2 try (rw [hb5]; cbv)
   cases hb6 : x4
   ·rw [br_false hb6] at h_1; cbv; iterate 4 try (rw [hb6]; cbv)
    obtain rfl := Option.some.inj h_1; try dsimp only [lr, lrL, lrp, lrpL] at h
    obtain rfl := Option.some.inj h; exact ARet.mk trivial hX.symm
   rw [br_true hb6] at h_1; cbv; iterate 2 try (rw [hb6]; cbv)
   cases hb7 : (lt 0 v1)
   ·rw [br_false hb7] at h_1; cbv; iterate 7 try (rw [hb7]; cbv)
    try (rw [hb6]; cbv)
    try (rw [hb7]; cbv)
    try (rw [hb6]; cbv)
    try rw [hg] at h_1
    try rw [ht] at h_1
    refine ⟨⟨(k1 + 1, (wrap .i64 (add v1 1))), hc1_, hs1, h_1⟩, Wk.of [(0, some 0)] rfl rfl ?_ ?_, meas_L hc1_⟩
    ·cbv; all_goals exact ⟨⟨_, rfl, rfl⟩, ⟨_, rfl, rfl⟩, ⟨_, rfl, rfl⟩, trivial⟩
    cbv; all_goals exact ⟨⟨_, rfl, _, rfl, rfl, rfl, rfl, trivial⟩, trivial⟩
   rw [br_true hb7] at h_1; cbv; iterate 3 try (rw [hb7]; cbv)
   obtain ⟨hc1, h_1⟩ := of_gd h_1; refine AStep.mk hc1 ?_; cbv; obtain ⟨x5, hx5, h_1⟩ := of_gt h_1; obtain ⟨x5_Thing, ⟨x5_Trip_Leg, x5_Trip_Day⟩, x5_Weight⟩ := x5; try dsimp only at h_1
   refine AGet.mk _ (r_get_Booking hg ht hx5) ?_; cbv; iterate 3 try (rw [hb7]; cbv)
   obtain ⟨x6, hx6, h_1⟩ := of_lP h_1; try dsimp only at h_1
   refine ACall.mk _ _ rfl (hF _ _ _ (c_S_l6Before hg ht hx6)) (.inl rfl) (Nat.le_of_ble_eq_true rfl) ?_; cbv; try (rw [hb7]; cbv)
   try (rw [hb6]; cbv)
   try (rw [hb7]; cbv)
   try (rw [hb6]; cbv)
   cases hb8 : x6
   ·rw [br_false hb8] at h_1; cbv; obtain rfl := Option.some.inj h_1; try dsimp only [lr, lrL, lrp, lrpL] at h
    obtain rfl := Option.some.inj h; exact ARet.mk trivial hX.symm
   rw [br_true hb8] at h_1; cbv; try rw [hg] at h_1
   try rw [ht] at h_1
   refine ⟨⟨(k1 + 1, (wrap .i64 (add v1 1))), hc1_, hs1, h_1⟩, Wk.of [(0, some 0)] rfl rfl ?_ ?_, meas_L hc1_⟩
   ·cbv; all_goals exact ⟨⟨_, rfl, rfl⟩, ⟨_, rfl, rfl⟩, ⟨_, rfl, rfl⟩, trivial⟩
   cbv; all_goals exact ⟨⟨_, rfl, _, rfl, rfl, rfl, rfl, trivial⟩, trivial⟩
  have hb3 : lt v1 (llen (r_Booking a1)) = false := ltL_false_Booking hg ht hi1 hc1_; rw [List.drop_of_length_le (Nat.le_of_not_lt hc1_)] at h_1; rw [S_AreBookings_l1] at h_1; try rw [← hg] at h_1
  try rw [← ht] at h_1
  try dsimp only at h_1
  rw [hb3]; cbv; refine ⟨(), Wk.of [(0, some 0)] rfl rfl ?_ ?_, (Option.some.inj h_1).symm⟩
  ·cbv; all_goals exact ⟨⟨_, rfl, rfl⟩, ⟨_, rfl, rfl⟩, trivial⟩
  cbv; all_goals exact ⟨⟨_, rfl, _, rfl, rfl, rfl, rfl, trivial⟩, trivial⟩
 rintro _ hy1; replace hy1 := hy1.symm; subst hy1; try dsimp only [lr, lrL, lrp, lrpL] at h
 cbv; obtain ⟨o2, ho2, h⟩ := of_cl h; try dsimp only at h
 try rw [hg] at ho2
 try rw [ht] at ho2
 refine ABL.mk { p : Nat × Int // p.1 ≤ a1.length ∧ p.2 = ((p.1 : Nat) : Int) ∧ S_AreBookings_l2 G.real TE.real (Network.mk a0_Legs a0_Off a0_Change) a1 (List.drop p.1 a1) = some o2 } (fun ⟨⟨k2, v2⟩, _⟩ => ({ sl := [(1, .c (.r (.s 4 (r_Booking a1)))), (2, .c (.p 0 3 0 0)), (7, .c (.r (.v (.int .i64 v2))))], tab := [(0, some (.foc 3 [] [.r (.s 6 (r_Leg a0_Legs)), .r (.s 1 (r_I64 a0_Off)), .r (.v (.int .i64 a0_Change))] []))] } : St)) 1 (fun p => a1.length - p.1.1) ⟨(0, 0), Nat.zero_le _, rfl, ho2⟩ (Unit) (fun _ => ({ sl := [], tab := [] } : St)) 0 (fun y => o2 = LR.out y) ?_ ?_ ?_
 ·refine Wk.of [(0, some 0)] rfl rfl ?_ ?_
  ·cbv; all_goals exact ⟨⟨_, rfl, rfl⟩, ⟨_, rfl, rfl⟩, ⟨_, rfl, rfl⟩, trivial⟩
  cbv; all_goals exact ⟨⟨_, rfl, _, rfl, rfl, rfl, rfl, trivial⟩, trivial⟩
 ·rintro ⟨⟨k2, v2⟩, hk2, hi2, h_2⟩ hq2; have hm2 := (hq2.1 1 _ _ rfl); try dsimp only at hk2 hi2 h_2
  clear hq2; cbv
  by_cases hc2_ : k2 < a1.length
  ·have hb9 : lt v2 (llen (r_Booking a1)) = true := ltL_true_Booking hg ht hi2 hc2_; have hs2 := stepL_Booking hg ht hi2 hc2_ hm2; obtain ⟨z2, hz2⟩ := some_of_lt hc2_; rw [drop_of_some hz2] at h_2; rw [S_AreBookings_l2] at h_2; obtain ⟨z2_Thing, ⟨z2_Trip_Leg, z2_Trip_Day⟩, z2_Weight⟩ := z2; try rw [← hg] at h_2
   try rw [← ht] at h_2
   try dsimp only at h_2
   rw [hb9]; cbv; refine AStep.mk (nn_L hi2) ?_; cbv; refine AGet.mk _ (r_getL_Booking hg ht hi2 hz2) ?_; cbv; obtain ⟨x7, hx7, h_2⟩ := of_lP h_2; try dsimp only at h_2
   refine ACall.mk _ _ rfl (hF _ _ _ (c_S_LoadOf hg ht hx7)) (.inl rfl) (Nat.le_of_ble_eq_true rfl) ?_; cbv; refine AStep.mk (nn_L hi2) ?_; cbv; refine AGet.mk _ (r_getL_Booking hg ht hi2 hz2) ?_; cbv; obtain ⟨hc2, h_2⟩ := of_gd h_2; refine AStep.mk hc2 ?_; cbv; obtain ⟨x8, hx8, h_2⟩ := of_gt h_2; obtain ⟨x8_From, x8_To, x8_Start, x8_Takes, x8_Days, x8_Room⟩ := x8; try dsimp only at h_2
   refine AGet.mk _ (r_get_Leg hg ht hx8) ?_; cbv
   cases hb10 : (lt x8_Room x7)
   rotate_left
   ·rw [br_true hb10] at h_2; cbv; obtain rfl := Option.some.inj h_2; try dsimp only [lr, lrL, lrp, lrpL] at h
    obtain rfl := Option.some.inj h; exact ARet.mk trivial hX.symm
   rw [br_false hb10] at h_2; cbv; try rw [hg] at h_2
   try rw [ht] at h_2
   refine ⟨⟨(k2 + 1, (wrap .i64 (add v2 1))), hc2_, hs2, h_2⟩, Wk.of [(0, some 0)] rfl rfl ?_ ?_, meas_L hc2_⟩
   ·cbv; all_goals exact ⟨⟨_, rfl, rfl⟩, ⟨_, rfl, rfl⟩, ⟨_, rfl, rfl⟩, trivial⟩
   cbv; all_goals exact ⟨⟨_, rfl, _, rfl, rfl, rfl, rfl, trivial⟩, trivial⟩
  have hb9 : lt v2 (llen (r_Booking a1)) = false := ltL_false_Booking hg ht hi2 hc2_; rw [List.drop_of_length_le (Nat.le_of_not_lt hc2_)] at h_2; rw [S_AreBookings_l2] at h_2; try rw [← hg] at h_2
  try rw [← ht] at h_2
  try dsimp only at h_2
  rw [hb9]; cbv; refine ⟨(), Wk.of [] rfl rfl ?_ ?_, (Option.some.inj h_2).symm⟩
  ·cbv; all_goals exact trivial
  cbv; all_goals exact trivial
 rintro _ hy2; replace hy2 := hy2.symm; subst hy2; try dsimp only [lr, lrL, lrp, lrpL] at h
 cbv; obtain rfl := Option.some.inj h; exact ARet.mk trivial hX.symm
def ir85 : J := .seq (.reg none [⟨some 4, none, .mv (.k (V.i 0))⟩] [0, 1]) (.seq (.seq (.reg none [⟨some 5, none, .mv (.t 1)⟩,⟨some 6, none, .mv (.t 0)⟩,⟨some 7, none, .bin .gtr .i (.t 5) (.t 6)⟩] [0, 1, 7]) (.cond (.t 7) (.seq (.reg none [⟨some 8, none, .mv (.t 1)⟩,⟨some 4, none, .mv (.t 8)⟩] [4]) (.ret)) (.skip))) (.seq (.reg none [⟨some 9, none, .mv (.t 0)⟩,⟨some 4, none, .mv (.t 9)⟩] [4]) (.ret)))
def rv85 : List RV := [.t 4]
def S_Max (g : G) (t : TE) (a0 : Int) (a1 : Int) : Int :=
  br (g.lt a0 a1)
  (
   a1)
  (
   a0)
theorem c_S_Max {g : G} {t : TE} {a0 : Int} {a1 : Int} {r : Int} (hg : g = G.real) (ht : t = TE.real) (h : S_Max g t a0 a1 = r) : Fn Try.prog 85 [.c (.v (.int .i64 a0)), .c (.v (.int .i64 a1))] (.c (.r (.v (.int .i64 r)))) := by
 obtain ⟨X, hX⟩ := hide (.c (.r (.v (.int .i64 r))) : X); rw [← hX]; refine fn_of (rvs := rv85) (j := ir85) Try.func85 rfl (by kernel_rfl) (Nat.le_of_ble_eq_true rfl) (by kernel_rfl) prog_mixed ?_; intro g2 F hg2 hF; obtain rfl : g2 = g := hg2.unique.trans hg.symm; clear hg2; obtain ⟨_, lt, _, _, _, _, _, _, _, _, _, _, _, _, _, _, _, _, _, _, _, _, _, _, _, _, _, _, _, _, _, _, _, _, _, _, _, _, _, _, _, _, _, _⟩ := g2; obtain ⟨_, _, _, _, _, _, _, _, _, _, _, _, _, _, _⟩ := t
 unfold S_Max at h; try dsimp only at h
 cbv
 cases hb1 : (lt a0 a1)
 rotate_left
 ·rw [br_true hb1] at h; cbv; subst h; exact ARet.mk trivial hX.symm
 rw [br_false hb1] at h; cbv; subst h; exact ARet.mk trivial hX.symm
def ir49 : J := .seq (.reg none [⟨some 6, none, .mv (.k (.c (.n 1)))⟩] [0, 1, 2]) (.seq (.reg none [⟨some 9, none, .bsl 1 []⟩,⟨some 7, none, .mv (.t 9)⟩] [0, 1, 2, 7]) (.seq (.seq (.reg none [⟨some 8, none, .mv (.k (V.i 0))⟩] [0, 1, 2, 7, 8]) (.bl 0 (.seq (.seq (.reg none [⟨some 10, none, .mv (.t 8)⟩,⟨some 11, none, .mv (.t 0)⟩,⟨some 12, none, .len false (.t 11)⟩,⟨some 13, none, .bin .lss .i (.t 10) (.t 12)⟩] [0, 1, 2, 7, 8, 13]) (.cond (.t 13) (.skip) (.exit 0))) (.seq (.block 1 (.seq (.reg none [⟨some 16, none, .mv (.t 8)⟩,⟨some 17, none, .mv (.t 1)⟩,⟨some 18, none, .bin .eql .i (.t 16) (.t 17)⟩] [0, 1, 2, 7, 8, 18]) (.cond (.t 18) (.reg none [⟨some 19, none, .mv (.t 7)⟩,⟨some 20, none, .mv (.t 2)⟩,⟨some 21, none, .call 85 true [(.t 20), (.k (V.i 0))]⟩,⟨some 22, none, .bsl 1 [(.t 21)]⟩,⟨some 23, none, .app 1 8 true (.t 19) (.t 22)⟩,⟨some 7, none, .mv (.t 23)⟩] [0, 1, 2, 7, 8]) (.reg none [⟨some 24, none, .mv (.t 7)⟩,⟨some 25, none, .bsl 1 [(.k (V.i (-1)))]⟩,⟨some 26, none, .app 1 8 true (.t 24) (.t 25)⟩,⟨some 7, none, .mv (.t 26)⟩] [0, 1, 2, 7, 8])))) (.reg none [⟨some 14, none, .mv (.t 8)⟩,⟨some 15, none, .bin .add .i (.t 14) (.k (V.i 1))⟩,⟨some 8, none, .mv (.t 15)⟩] [0, 1, 2, 7, 8]))))) (.seq (.reg none [⟨some 27, none, .mv (.t 7)⟩,⟨some 6, none, .mv (.t 27)⟩] [6]) (.ret))))
def rv49 : List RV := [.t 6]
def S_l4First_l1 (g : G) (t : TE) (a1 : Int) (a2 : Int) : List ByteArray → Int → List Int → Option (List Int)
  | [], v1, w1 =>
    some w1
  | z1 :: ls1, v1, w1 =>
    br (g.eq v1 a1)
    (
     lP (S_Max g t a2 0) fun x1 =>
     lP ([x1]) fun (l2 : List Int) =>
     gd (((w1.length + l2.length) * 8 ≤ 70368744177664)) <|
     lP (w1 ++ l2) fun (l3 : List Int) =>
     S_l4First_l1 g t a1 a2 ls1 (g.wrap .i64 (g.add v1 1)) l3)
    (
     lP ([(-1)]) fun (l4 : List Int) =>
     gd (((w1.length + l4.length) * 8 ≤ 70368744177664)) <|
     lP (w1 ++ l4) fun (l5 : List Int) =>
     S_l4First_l1 g t a1 a2 ls1 (g.wrap .i64 (g.add v1 1)) l5)
def S_l4First (g : G) (t : TE) (a0 : List ByteArray) (a1 : Int) (a2 : Int) : Option (List Int) :=
  lP ([]) fun (l1 : List Int) =>
  cl (S_l4First_l1 g t a1 a2 a0 0 l1) fun y1 =>
  some y1
theorem c_S_l4First {g : G} {t : TE} {a0 : List ByteArray} {a1 : Int} {a2 : Int} {r : List Int} (hg : g = G.real) (ht : t = TE.real) (h : S_l4First g t a0 a1 a2 = some r) : Fn Try.prog 49 [.c (.s 1 (t.r_S a0)), .c (.v (.int .i64 a1)), .c (.v (.int .i64 a2))] (.c (.o 1 (t.d_I64 r))) := by
 obtain ⟨X, hX⟩ := hide (.c (.o 1 (t.d_I64 r)) : X); rw [← hX]; refine fn_of (rvs := rv49) (j := ir49) Try.func49 rfl (by kernel_rfl) (Nat.le_of_ble_eq_true rfl) (by kernel_rfl) prog_mixed ?_; intro g2 F hg2 hF; obtain rfl : g2 = g := hg2.unique.trans hg.symm; clear hg2; obtain ⟨wrap, lt, _, eq, _, _, _, _, _, _, _, _, _, add, _, _, _, _, _, _, _, llen, _, _, dlen, _, _, _, _, _, _, _, _, _, _, _, _, _, _, _, _, _, _, _⟩ := g2; obtain ⟨_, _, _, d_I64, _, _, _, _, r_S, _, _, _, _, _, _⟩ := t
 unfold S_l4First at h; try dsimp only at h
 cbv; obtain ⟨l1, hl1, h⟩ := of_lP h; try dsimp only at h
 refine ANew.mk (d_I64 l1) (dlen (d_I64 l1)) (by rw [← hl1]; exact lit_I64 hg ht []) (by rw [← hl1]; exact litn_I64 hg ht []) ?_; cbv; obtain ⟨o1, ho1, h⟩ := of_cl h; try dsimp only at h
 try rw [hg] at ho1
 try rw [ht] at ho1
 refine ABL.mk { p : Nat × Int × List Int // p.1 ≤ a0.length ∧ p.2.1 = ((p.1 : Nat) : Int) ∧ S_l4First_l1 G.real TE.real a1 a2 (List.drop p.1 a0) p.2.1 p.2.2 = some o1 } (fun ⟨⟨k1, v1, w1⟩, _⟩ => ({ sl := [(0, .c (.r (.s 1 (r_S a0)))), (1, .c (.r (.v (.int .i64 a1)))), (2, .c (.r (.v (.int .i64 a2)))), (7, .c (.f 0 1 0 (dlen (d_I64 w1)))), (8, .c (.r (.v (.int .i64 v1))))], tab := [(0, some (.arr 1 (d_I64 w1)))] } : St)) 1 (fun p => a0.length - p.1.1) ⟨(0, 0, l1), Nat.zero_le _, rfl, ho1⟩ (List Int) (fun y1 => ({ sl := [(7, .c (.f 0 1 0 (dlen (d_I64 y1))))], tab := [(0, some (.arr 1 (d_I64 y1)))] } : St)) 1 (fun y => o1 = y) ?_ ?_ ?_
 ·refine Wk.of [(0, some 16)] rfl rfl ?_ ?_
  ·cbv; all_goals exact ⟨⟨_, rfl, rfl⟩, ⟨_, rfl, rfl⟩, ⟨_, rfl, rfl⟩, ⟨_, rfl, rfl⟩, ⟨_, rfl, rfl⟩, trivial⟩
  cbv; all_goals exact ⟨⟨_, rfl, rfl⟩, trivial⟩
 ·rintro ⟨⟨k1, v1, w1⟩, hk1, hi1, h_1⟩ hq1; have hm1 := (hq1.1 0 _ _ rfl); try dsimp only at hk1 hi1 h_1
  clear hq1; cbv
  by_cases hc1_ : k1 < a0.length
  ·have hb1 : lt v1 (llen (r_S a0)) = true := ltL_true_S hg ht hi1 hc1_; have hs1 := stepL_S hg ht hi1 hc1_ hm1; obtain ⟨z1, hz1⟩ := some_of_lt hc1_; rw [drop_of_some hz1] at h_1; rw [S_l4First_l1] at h_1; try rw [← hg] at h_1
   try rw [← ht] at h_1
   try dsimp only at h_1
   rw [hb1]; cbv
   cases hb2 : (eq v1 a1)
   ·rw [br_false hb2] at h_1; cbv; obtain ⟨l4, hl4, h_1⟩ := of_lP h_1; try dsimp only at h_1
    refine ANew.mk (d_I64 l4) (dlen (d_I64 l4)) (by rw [← hl4]; exact lit_I64 hg ht [(-1)]) (by rw [← hl4]; exact litn_I64 hg ht [(-1)]) ?_; cbv; obtain ⟨hc2, h_1⟩ := of_gd h_1; refine AStep.mk ⟨⟨rfl, (dlen_I64 hg ht _)⟩, (app_ok_I64 hg ht (dlen_I64 hg ht _) rfl hc2)⟩ ?_; cbv; obtain ⟨l5, hl5, h_1⟩ := of_lP h_1; try dsimp only at h_1
    refine ANew.mk (d_I64 l5) (dlen (d_I64 l5)) (by rw [← hl5]; exact app_I64 hg ht (dlen_I64 hg ht _) rfl) (by rw [← hl5]; exact appl_I64 hg ht (dlen_I64 hg ht _) rfl) ?_; cbv; try rw [hg] at h_1
    try rw [ht] at h_1
    refine ⟨⟨(k1 + 1, (wrap .i64 (add v1 1)), l5), hc1_, hs1, h_1⟩, Wk.of [(0, some 145)] rfl rfl ?_ ?_, meas_L hc1_⟩
    ·cbv; all_goals exact ⟨⟨_, rfl, rfl⟩, ⟨_, rfl, rfl⟩, ⟨_, rfl, rfl⟩, ⟨_, rfl, rfl⟩, ⟨_, rfl, rfl⟩, trivial⟩
    cbv; all_goals exact ⟨⟨_, rfl, rfl⟩, trivial⟩
   rw [br_true hb2] at h_1; cbv; obtain ⟨x1, hx1, h_1⟩ := of_lP h_1; try dsimp only at h_1
   refine ACall.mk _ _ rfl (hF _ _ _ (c_S_Max hg ht hx1)) (.inl rfl) (Nat.le_of_ble_eq_true rfl) ?_; cbv; obtain ⟨l2, hl2, h_1⟩ := of_lP h_1; try dsimp only at h_1
   refine ANew.mk (d_I64 l2) (dlen (d_I64 l2)) (by rw [← hl2]; exact lit_I64 hg ht [x1]) (by rw [← hl2]; exact litn_I64 hg ht [x1]) ?_; cbv; obtain ⟨hc1, h_1⟩ := of_gd h_1; refine AStep.mk ⟨⟨rfl, (dlen_I64 hg ht _)⟩, (app_ok_I64 hg ht (dlen_I64 hg ht _) rfl hc1)⟩ ?_; cbv; obtain ⟨l3, hl3, h_1⟩ := of_lP h_1; try dsimp only at h_1
   refine ANew.mk (d_I64 l3) (dlen (d_I64 l3)) (by rw [← hl3]; exact app_I64 hg ht (dlen_I64 hg ht _) rfl) (by rw [← hl3]; exact appl_I64 hg ht (dlen_I64 hg ht _) rfl) ?_; cbv; try rw [hg] at h_1
   try rw [ht] at h_1
   refine ⟨⟨(k1 + 1, (wrap .i64 (add v1 1)), l3), hc1_, hs1, h_1⟩, Wk.of [(0, some 177)] rfl rfl ?_ ?_, meas_L hc1_⟩
   ·cbv; all_goals exact ⟨⟨_, rfl, rfl⟩, ⟨_, rfl, rfl⟩, ⟨_, rfl, rfl⟩, ⟨_, rfl, rfl⟩, ⟨_, rfl, rfl⟩, trivial⟩
   cbv; all_goals exact ⟨⟨_, rfl, rfl⟩, trivial⟩
  have hb1 : lt v1 (llen (r_S a0)) = false := ltL_false_S hg ht hi1 hc1_; rw [List.drop_of_length_le (Nat.le_of_not_lt hc1_)] at h_1; rw [S_l4First_l1] at h_1; try rw [← hg] at h_1
  try rw [← ht] at h_1
  try dsimp only at h_1
  rw [hb1]; cbv; refine ⟨w1, Wk.of [(0, some 0)] rfl rfl ?_ ?_, (Option.some.inj h_1).symm⟩
  ·cbv; all_goals exact ⟨⟨_, rfl, rfl⟩, trivial⟩
  cbv; all_goals exact ⟨⟨_, rfl, rfl⟩, trivial⟩
 rintro y1 hy1; replace hy1 := hy1.symm; subst hy1; try dsimp only [lr, lrL, lrp, lrpL] at h
 cbv; obtain rfl := Option.some.inj h; exact ARet.mk ⟨rfl, (dlen_I64 hg ht _)⟩ hX.symm
def ir64 : J := .seq (.reg none [⟨some 2, none, .box (.t 0)⟩,⟨some 3, none, .box (.t 1)⟩,⟨some 4, none, .mv (.k (V.i 0))⟩] [2, 3]) (.seq (.reg (some [[], [0], [0, 1], [], [3], [], [5], [3, 4, 5, 6], [3, 4, 5, 6, 7], [3, 4, 5, 6, 7, 8], [0, 1, 2, 3, 4, 5, 6, 7, 8, 9], [0, 1, 2, 3, 4, 5, 6, 7, 8, 9, 10]]) [⟨some 5, none, .fa 1 (.t 3)⟩,⟨some 6, none, .ld false 1 (.t 5)⟩,⟨some 7, none, .bin .mul .i (.t 6) (.k (V.i 1440))⟩,⟨some 8, none, .fa 0 (.t 2)⟩,⟨some 9, none, .ld false 1 (.t 8)⟩,⟨some 10, none, .fa 0 (.t 3)⟩,⟨some 11, none, .ld false 1 (.t 10)⟩,⟨some 12, none, .ia 6 (.t 9) (.t 11)⟩,⟨some 13, none, .fa 2 (.t 12)⟩,⟨some 14, none, .ld false 1 (.t 13)⟩,⟨some 15, none, .bin .add .i (.t 7) (.t 14)⟩,⟨some 4, none, .mv (.t 15)⟩] [4]) (.ret))
def rv64 : List RV := [.t 4]
def S_l3Starts (g : G) (t : TE) (a0 : Network) (a1 : Trip) : Option Int :=
  gd (((0 : Int) ≤ a1.Leg)) <|
  gt a0.Legs (g.nat a1.Leg) fun x1 =>
  some (g.wrap .i64 (g.add (g.wrap .i64 (g.mul a1.Day 1440)) x1.Start))
theorem c_S_l3Starts {g : G} {t : TE} {a0 : Network} {a1 : Trip} {r : Int} (hg : g = G.real) (ht : t = TE.real) (h : S_l3Starts g t a0 a1 = some r) : Fn Try.prog 64 [.g (Network.rs t a0), .g (Trip.rs t a1)] (.c (.r (.v (.int .i64 r)))) := by
 obtain ⟨X, hX⟩ := hide (.c (.r (.v (.int .i64 r))) : X); rw [← hX]; refine fn_of (rvs := rv64) (j := ir64) Try.func64 rfl (by kernel_rfl) (Nat.le_of_ble_eq_true rfl) (by kernel_rfl) prog_mixed ?_; intro g2 F hg2 hF; obtain rfl : g2 = g := hg2.unique.trans hg.symm; clear hg2; obtain ⟨_, _, _, _, _, _, _, _, _, _, _, _, _, _, _, _, _, _, _, _, _, _, _, _, _, _, _, _, _, _, _, _, _, _, _, _, _, _, _, _, _, _, _, _⟩ := g2; obtain ⟨_, _, _, _, _, _, _, _, _, _, _, _, _, _, _⟩ := t
 obtain ⟨a0_Legs, a0_Off, a0_Change⟩ := a0; obtain ⟨a1_Leg, a1_Day⟩ := a1; unfold S_l3Starts at h; try dsimp only at h
 cbv; obtain ⟨hc1, h⟩ := of_gd h; refine AStep.mk hc1 ?_; cbv; obtain ⟨x1, hx1, h⟩ := of_gt h; obtain ⟨x1_From, x1_To, x1_Start, x1_Takes, x1_Days, x1_Room⟩ := x1; try dsimp only at h
 refine AGet.mk _ (r_get_Leg hg ht hx1) ?_; cbv; obtain rfl := Option.some.inj h; exact ARet.mk trivial hX.symm
end Go.Vs
