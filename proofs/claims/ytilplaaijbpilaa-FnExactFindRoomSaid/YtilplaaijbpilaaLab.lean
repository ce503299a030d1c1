/- Part of the proofs of this seat's laws: Lab. No condition. -/
import Derived.Test.YtilplaaijbpilaaTy
import Derived.Test.YtilplaaijbpilaaTIRall
import Derived.Test.YtilplaaijbpilaaLaa
import Derived.Test.YtilplaaijbpilaaVg
import Derived.Test.YtilplaaijbpilaaProg
import Derived.Shelf.Sort.AssemblysIn
import Derived.Shelf.Sort.So_math_bits_LenInS
import Derived.Shelf.Lay
import Derived.Sort.EveryDepth
import Derived.Lib.Walk
import Derived.LoopN
set_option linter.unusedVariables false
set_option linter.unusedSimpArgs false
set_option linter.unusedSectionVars false
namespace Go.Vs
set_option maxRecDepth 100000
def ir65 : J := .seq (.reg none [⟨some 2, none, .box (.t 0)⟩,⟨some 3, none, .box (.t 1)⟩,⟨some 4, none, .mv (.k (V.i 0))⟩] [2, 3]) (.seq (.reg (some [[], [], [0, 1], [], [3], [], [5], [3, 4, 5, 6], [3, 4, 5, 6, 7], [3, 4, 5, 6, 7, 8], [0, 1, 2, 3, 4, 5, 6, 7, 8, 9], [0, 1, 2, 3, 4, 5, 6, 7, 8, 9, 10]]) [⟨some 5, none, .ld true 3 (.t 2)⟩,⟨some 6, none, .ld true 2 (.t 3)⟩,⟨some 7, none, .call 64 true [(.t 5), (.t 6)]⟩,⟨some 8, none, .fa 0 (.t 2)⟩,⟨some 9, none, .ld false 1 (.t 8)⟩,⟨some 10, none, .fa 0 (.t 3)⟩,⟨some 11, none, .ld false 1 (.t 10)⟩,⟨some 12, none, .ia 6 (.t 9) (.t 11)⟩,⟨some 13, none, .fa 3 (.t 12)⟩,⟨some 14, none, .ld false 1 (.t 13)⟩,⟨some 15, none, .bin .add .i (.t 7) (.t 14)⟩,⟨some 4, none, .mv (.t 15)⟩] [4]) (.ret))
def rv65 : List RV := [.t 4]
open Go.Proofs Go.IntWalk
set_option linter.unusedVariables false
set_option maxHeartbeats 4000000
def S_l3Ends (g : G) (t : TE) (a0 : Network) (a1 : Trip) : Option Int :=
  cl (S_l3Starts g t a0 a1) fun x1 =>
  gd (((0 : Int) ≤ a1.Leg)) <|
  gt a0.Legs (g.nat a1.Leg) fun x2 =>
  some (g.wrap .i64 (g.add x1 x2.Takes))
theorem c_S_l3Ends {g : G} {t : TE} {a0 : Network} {a1 : Trip} {r : Int} (hg : g = G.real) (ht : t = TE.real) (h : S_l3Ends g t a0 a1 = some r) : Fn Try.prog 65 [.g (Network.rs t a0), .g (Trip.rs t a1)] (.c (.r (.v (.int .i64 r)))) := by
 obtain ⟨X, hX⟩ := hide (.c (.r (.v (.int .i64 r))) : X); rw [← hX]; refine fn_of (rvs := rv65) (j := ir65) Try.func65 rfl (by kernel_rfl) (Nat.le_of_ble_eq_true rfl) (by kernel_rfl) prog_mixed ?_; intro g2 F hg2 hF; obtain rfl : g2 = g := hg2.unique.trans hg.symm; clear hg2; obtain ⟨_, _, _, _, _, _, _, _, _, _, _, _, _, _, _, _, _, _, _, _, _, _, _, _, _, _, _, _, _, _, _, _, _, _, _, _, _, _, _, _, _, _, _, _⟩ := g2; obtain ⟨_, _, _, _, _, _, _, _, _, _, _, _, _, _, _⟩ := t
 obtain ⟨a0_Legs, a0_Off, a0_Change⟩ := a0; obtain ⟨a1_Leg, a1_Day⟩ := a1; unfold S_l3Ends at h; try dsimp only at h
 cbv; obtain ⟨x1, hx1, h⟩ := of_cl h; try dsimp only at h
 refine ACall.mk _ _ rfl (hF _ _ _ (c_S_l3Starts hg ht hx1)) (.inl rfl) (Nat.le_of_ble_eq_true rfl) ?_; cbv; obtain ⟨hc1, h⟩ := of_gd h; refine AStep.mk hc1 ?_; cbv; obtain ⟨x2, hx2, h⟩ := of_gt h; obtain ⟨x2_From, x2_To, x2_Start, x2_Takes, x2_Days, x2_Room⟩ := x2; try dsimp only at h
 refine AGet.mk _ (r_get_Leg hg ht hx2) ?_; cbv; obtain rfl := Option.some.inj h; exact ARet.mk trivial hX.symm
def ir86 : J := .seq (.reg none [⟨some 2, none, .mv (.k (.c (.n 1)))⟩] [0]) (.seq (.reg none [⟨some 3, none, .bsl 1 []⟩,⟨some 4, none, .mv (.t 0)⟩,⟨some 5, none, .app 1 8 false (.t 3) (.t 4)⟩,⟨some 2, none, .mv (.t 5)⟩] [2]) (.ret))
def rv86 : List RV := [.t 2]
def S_l1Ints (g : G) (t : TE) (a0 : List Int) : Option (List Int) :=
  lP ([]) fun (l1 : List Int) =>
  gd (((l1.length + a0.length) * 8 ≤ 70368744177664)) <|
  lP (l1 ++ a0) fun (l2 : List Int) =>
  some l2
theorem c_S_l1Ints {g : G} {t : TE} {a0 : List Int} {r : List Int} (hg : g = G.real) (ht : t = TE.real) (h : S_l1Ints g t a0 = some r) : Fn Try.prog 86 [.c (.s 1 (t.r_I64 a0))] (.c (.o 1 (t.d_I64 r))) := by
 obtain ⟨X, hX⟩ := hide (.c (.o 1 (t.d_I64 r)) : X); rw [← hX]; refine fn_of (rvs := rv86) (j := ir86) Try.func86 rfl (by kernel_rfl) (Nat.le_of_ble_eq_true rfl) (by kernel_rfl) prog_mixed ?_; intro g2 F hg2 hF; obtain rfl : g2 = g := hg2.unique.trans hg.symm; clear hg2; obtain ⟨_, _, _, _, _, _, _, _, _, _, _, _, _, _, _, _, _, _, _, _, _, _, _, _, dlen, _, _, _, _, _, _, _, _, _, _, _, _, _, _, _, _, _, _, _⟩ := g2; obtain ⟨_, _, _, d_I64, _, _, _, _, _, _, _, _, _, _, _⟩ := t
 unfold S_l1Ints at h; try dsimp only at h
 cbv; obtain ⟨l1, hl1, h⟩ := of_lP h; try dsimp only at h
 refine ANew.mk (d_I64 l1) (dlen (d_I64 l1)) (by rw [← hl1]; exact lit_I64 hg ht []) (by rw [← hl1]; exact litn_I64 hg ht []) ?_; cbv; obtain ⟨hc1, h⟩ := of_gd h; refine AStep.mk (app_ok_I64 hg ht (dlen_I64 hg ht _) (up_I64 hg ht _) hc1) ?_; cbv; obtain ⟨l2, hl2, h⟩ := of_lP h; try dsimp only at h
 refine ANew.mk (d_I64 l2) (dlen (d_I64 l2)) (by rw [← hl2]; exact app_I64 hg ht (dlen_I64 hg ht _) (up_I64 hg ht _)) (by rw [← hl2]; exact appl_I64 hg ht (dlen_I64 hg ht _) (up_I64 hg ht _)) ?_; cbv; obtain rfl := Option.some.inj h; exact ARet.mk ⟨rfl, (dlen_I64 hg ht _)⟩ hX.symm
def ir106 : J := .seq (.reg none [⟨some 3, none, .box (.t 1)⟩,⟨some 4, none, .mv (.k (V.b false))⟩] [0, 3]) (.seq (.seq (.reg none [⟨some 5, none, .mv (.k (V.i 0))⟩] [0, 3, 5]) (.bl 0 (.seq (.seq (.reg none [⟨some 6, none, .mv (.t 5)⟩,⟨some 7, none, .mv (.t 0)⟩,⟨some 8, none, .len false (.t 7)⟩,⟨some 9, none, .bin .lss .i (.t 6) (.t 8)⟩] [0, 3, 5, 9]) (.cond (.t 9) (.skip) (.exit 0))) (.seq (.block 1 (.seq (.reg (some [[], [], [0, 1], [0, 1, 2], [], [0, 1, 2, 3, 4]]) [⟨some 12, none, .mv (.t 0)⟩,⟨some 13, none, .mv (.t 5)⟩,⟨some 14, none, .ia 2 (.t 12) (.t 13)⟩,⟨some 15, none, .ld true 2 (.t 14)⟩,⟨some 16, none, .ld true 2 (.t 3)⟩,⟨some 17, none, .eqs false [.i, .i] (.t 15) (.t 16)⟩] [0, 3, 5, 17]) (.cond (.t 17) (.seq (.reg none [⟨some 4, none, .mv (.k (V.b true))⟩] [4]) (.ret)) (.skip)))) (.reg none [⟨some 10, none, .mv (.t 5)⟩,⟨some 11, none, .bin .add .i (.t 10) (.k (V.i 1))⟩,⟨some 5, none, .mv (.t 11)⟩] [0, 3, 5]))))) (.seq (.reg none [⟨some 4, none, .mv (.k (V.b false))⟩] [4]) (.ret)))
def rv106 : List RV := [.t 4]
def S_l6Closed_l1 (g : G) (t : TE) (a1 : Trip) : List Trip → LR Bool Unit
  | [] =>
    (LR.out ())
  | z1 :: ls1 =>
    br (g.all [(g.eq z1.Leg a1.Leg), (g.eq z1.Day a1.Day)])
    (
     (LR.ret true))
    (
     S_l6Closed_l1 g t a1 ls1)
def S_l6Closed (g : G) (t : TE) (a0 : List Trip) (a1 : Trip) : Bool :=
  lP (S_l6Closed_l1 g t a1 a0) fun o1 => lrp o1 fun y1 =>
  false
theorem c_S_l6Closed {g : G} {t : TE} {a0 : List Trip} {a1 : Trip} {r : Bool} (hg : g = G.real) (ht : t = TE.real) (h : S_l6Closed g t a0 a1 = r) : Fn Try.prog 106 [.c (.s 2 (t.r_Trip a0)), .g (Trip.rs t a1)] (.c (.r (.v (.bool r)))) := by
 obtain ⟨X, hX⟩ := hide (.c (.r (.v (.bool r))) : X); rw [← hX]; refine fn_of (rvs := rv106) (j := ir106) Try.func106 rfl (by kernel_rfl) (Nat.le_of_ble_eq_true rfl) (by kernel_rfl) prog_mixed ?_; intro g2 F hg2 hF; obtain rfl : g2 = g := hg2.unique.trans hg.symm; clear hg2; obtain ⟨wrap, lt, _, eq, _, _, _, _, _, _, _, _, _, add, _, _, _, _, _, _, _, llen, _, _, _, _, _, _, _, _, _, _, _, all, _, _, _, _, _, _, _, _, _, _⟩ := g2; obtain ⟨_, _, _, _, _, _, r_Trip, _, _, _, _, _, _, _, _⟩ := t
 obtain ⟨a1_Leg, a1_Day⟩ := a1; unfold S_l6Closed at h; try dsimp only at h
 cbv; obtain ⟨o1, ho1, h⟩ := of_lP h; try dsimp only at h
 try rw [hg] at ho1
 try rw [ht] at ho1
 refine ABL.mk { p : Nat × Int // p.1 ≤ a0.length ∧ p.2 = ((p.1 : Nat) : Int) ∧ S_l6Closed_l1 G.real TE.real (Trip.mk a1_Leg a1_Day) (List.drop p.1 a0) = o1 } (fun ⟨⟨k1, v1⟩, _⟩ => ({ sl := [(0, .c (.r (.s 2 (r_Trip a0)))), (3, .c (.p 0 2 0 0)), (5, .c (.r (.v (.int .i64 v1))))], tab := [(0, some (.foc 2 [] [.r (.v (.int .i64 a1_Leg)), .r (.v (.int .i64 a1_Day))] []))] } : St)) 1 (fun p => a0.length - p.1.1) ⟨(0, 0), Nat.zero_le _, rfl, ho1⟩ (Unit) (fun _ => ({ sl := [], tab := [] } : St)) 0 (fun y => o1 = LR.out y) ?_ ?_ ?_
 ·refine Wk.of [(0, some 0)] rfl rfl ?_ ?_
  ·cbv; all_goals exact ⟨⟨_, rfl, rfl⟩, ⟨_, rfl, rfl⟩, ⟨_, rfl, rfl⟩, trivial⟩
  cbv; all_goals exact ⟨⟨_, rfl, _, rfl, rfl, rfl, trivial⟩, trivial⟩
 ·rintro ⟨⟨k1, v1⟩, hk1, hi1, h_1⟩ hq1; have hm1 := (hq1.1 0 _ _ rfl); try dsimp only at hk1 hi1 h_1
  clear hq1; cbv
  by_cases hc1_ : k1 < a0.length
  ·have hb1 : lt v1 (llen (r_Trip a0)) = true := ltL_true_Trip hg ht hi1 hc1_; have hs1 := stepL_Trip hg ht hi1 hc1_ hm1; obtain ⟨z1, hz1⟩ := some_of_lt hc1_; rw [drop_of_some hz1] at h_1; rw [S_l6Closed_l1] at h_1; obtain ⟨z1_Leg, z1_Day⟩ := z1; try rw [← hg] at h_1
   try rw [← ht] at h_1
   try dsimp only at h_1
   rw [hb1]; cbv; refine AStep.mk (nn_L hi1) ?_; cbv; refine AGet.mk _ (r_getL_Trip hg ht hi1 hz1) ?_; cbv
   cases hb2 : (all [(eq z1_Leg a1_Leg), (eq z1_Day a1_Day)])
   rotate_left
   ·rw [br_true hb2] at h_1; cbv; subst h_1; try dsimp only [lr, lrL, lrp, lrpL] at h
    subst h; exact ARet.mk trivial hX.symm
   rw [br_false hb2] at h_1; cbv; try rw [hg] at h_1
   try rw [ht] at h_1
   refine ⟨⟨(k1 + 1, (wrap .i64 (add v1 1))), hc1_, hs1, h_1⟩, Wk.of [(0, some 0)] rfl rfl ?_ ?_, meas_L hc1_⟩
   ·cbv; all_goals exact ⟨⟨_, rfl, rfl⟩, ⟨_, rfl, rfl⟩, ⟨_, rfl, rfl⟩, trivial⟩
   cbv; all_goals exact ⟨⟨_, rfl, _, rfl, rfl, rfl, trivial⟩, trivial⟩
  have hb1 : lt v1 (llen (r_Trip a0)) = false := ltL_false_Trip hg ht hi1 hc1_; rw [List.drop_of_length_le (Nat.le_of_not_lt hc1_)] at h_1; rw [S_l6Closed_l1] at h_1; try rw [← hg] at h_1
  try rw [← ht] at h_1
  try dsimp only at h_1
  rw [hb1]; cbv; refine ⟨(), Wk.of [] rfl rfl ?_ ?_, h_1.symm⟩
  ·cbv; all_goals exact trivial
  cbv; all_goals exact trivial
 rintro _ hy1; replace hy1 := hy1.symm; subst hy1; try dsimp only [lr, lrL, lrp, lrpL] at h
 cbv; subst h; exact ARet.mk trivial hX.symm
def ir87 : J := .seq (.reg none [⟨some 6, none, .box (.t 0)⟩,⟨some 12, none, .mv (.k (V.i 0))⟩] [1, 2, 3, 4, 5, 6]) (.seq (.seq (.reg none [⟨some 13, none, .mv (.k (V.i 0))⟩] [1, 2, 3, 4, 5, 6, 13]) (.bl 0 (.seq (.seq (.reg none [⟨some 15, none, .mv (.t 13)⟩,⟨some 16, none, .bin .leq .i (.t 15) (.k (V.i 60))⟩] [1, 2, 3, 4, 5, 6, 13, 16]) (.cond (.t 16) (.skip) (.exit 0))) (.seq (.block 1 (.seq (.reg none [⟨some 19, none, .mv (.t 3)⟩,⟨some 20, none, .mv (.t 13)⟩,⟨some 21, none, .bld [.r (.v (.int .i64 0)), .r (.v (.int .i64 0))] [(0, 1, (.t 19)), (1, 1, (.t 20))]⟩,⟨some 14, none, .alloc [.r (.v (.int .i64 0)), .r (.v (.int .i64 0))]⟩,⟨none, none, .st 2 (.t 14) (.t 21)⟩] [1, 2, 3, 4, 5, 6, 13, 14]) (.seq (.reg (some [[], [], [], [0, 1, 2], [0, 1, 2, 3], [0, 1, 2, 3, 4], [0, 1, 2, 3, 4], [0, 1, 2, 3, 4, 5, 6], [0, 1, 2, 3, 4], [0, 1, 2, 3, 4, 5, 6, 7, 8], [0, 1, 2, 3, 4, 5, 6, 7, 8, 9], [0, 1, 2, 3, 4, 5, 6, 7, 8, 9, 10], [0, 1, 2, 3, 4, 5, 6, 7, 8, 9, 10, 11], [0, 1, 2, 3, 4, 5, 6, 7, 8, 9, 10, 11], [0, 1, 2, 3, 4, 5, 6, 7, 8, 9, 10, 11, 12, 13], [0, 1, 2, 3, 4, 5, 6, 7, 8, 9, 10, 11, 12, 13, 14], [0, 1, 2, 3, 4, 5, 6, 7, 8, 9, 10, 11, 12, 13, 14, 15], [0, 1, 2, 3, 4, 5, 6, 7, 8, 9, 10, 11, 12, 13, 14, 15, 16], [0, 1, 2, 3, 4, 5, 6, 7, 8, 9, 10, 11, 12, 13, 14, 15, 16, 17], [0, 1, 2, 3, 4, 5, 6, 7, 8, 9, 10, 11, 12, 13, 14, 15, 16, 17, 18], [0, 1, 2, 3, 4, 5, 6, 7, 8, 9, 10, 11, 12, 13, 14, 15, 16, 17], [0, 1, 2, 3, 4, 5, 6, 7, 8, 9, 10, 11, 12, 13, 14, 15, 16, 17, 18, 19, 20], [0, 1, 2, 3, 4, 5, 6, 7, 8, 9, 10, 11, 12, 13, 14, 15, 16, 17, 18, 19, 20, 21], [0, 1, 2, 3, 4, 5, 6, 7, 8, 9, 10, 11, 12, 13, 14, 15, 16, 17, 18, 19, 20, 21, 22], [0, 1, 2, 3, 4, 5, 6, 7, 8, 9, 10, 11, 12, 13, 14, 15, 16, 17], [0, 1, 2, 3, 4, 5, 6, 7, 8, 9, 10, 11, 12, 13, 14, 15, 16, 17], [0, 1, 2, 3, 4, 5, 6, 7, 8, 9, 10, 11, 12, 13, 14, 15, 16, 17, 24, 25], [0, 1, 2, 3, 4, 5, 6, 7, 8, 9, 10, 11, 12, 13, 14, 15, 16, 17, 18, 19, 20, 21, 22, 23, 24, 25, 26], [0, 1, 2, 3, 4, 5, 6, 7, 8, 9, 10, 11, 12, 13, 14, 15, 16, 17], [0, 1, 2, 3, 4, 5, 6, 7, 8, 9, 10, 11, 12, 13, 14, 15, 16, 17, 18, 19, 20, 21, 22, 23, 24, 25, 26, 27, 28], [0, 1, 2, 3, 4, 5, 6, 7, 8, 9, 10, 11, 12, 13, 14, 15, 16, 17, 18, 19, 20, 21, 22, 23, 24, 25, 26, 27, 28, 29]]) [⟨some 22, none, .ld true 3 (.t 6)⟩,⟨some 23, none, .mv (.t 3)⟩,⟨some 24, none, .mv (.t 13)⟩,⟨some 25, none, .call 82 true [(.t 22), (.t 23), (.t 24)]⟩,⟨some 26, none, .mv (.t 25)⟩,⟨some 27, (some (26, true)), .ld true 3 (.t 6)⟩,⟨some 28, (some (26, true)), .ld true 2 (.t 14)⟩,⟨some 29, (some (26, true)), .call 64 true [(.t 27), (.t 28)]⟩,⟨some 30, (some (26, true)), .mv (.t 4)⟩,⟨some 31, (some (26, true)), .bin .geq .i (.t 29) (.t 30)⟩,⟨some 32, none, .pick (.t 26) (.t 31) (.k (V.b false))⟩,⟨some 33, none, .mv (.t 32)⟩,⟨some 34, (some (33, true)), .mv (.t 2)⟩,⟨some 35, (some (33, true)), .ld true 2 (.t 14)⟩,⟨some 36, (some (33, true)), .call 106 true [(.t 34), (.t 35)]⟩,⟨some 37, (some (33, true)), .not (.t 36)⟩,⟨some 38, none, .pick (.t 33)
 (.t 37) (.k (V.b false))⟩,⟨some 39, none, .mv (.t 38)⟩,⟨some 40, (some (39, true)), .fa 0 (.t 6)⟩,⟨some 41, (some (39, true)), .ld false 1 (.t 40)⟩,⟨some 42, (some (39, true)), .mv (.t 3)⟩,⟨some 43, (some (39, true)), .ia 6 (.t 41) (.t 42)⟩,⟨some 44, (some (39, true)), .fa 5 (.t 43)⟩,⟨some 45, (some (39, true)), .ld false 1 (.t 44)⟩,⟨some 46, (some (39, true)), .mv (.t 1)⟩,⟨some 47, (some (39, true)), .ld true 2 (.t 14)⟩,⟨some 48, (some (39, true)), .call 84 true [(.t 46), (.t 47)]⟩,⟨some 49, (some (39, true)), .bin .sub .i (.t 45) (.t 48)⟩,⟨some 50, (some (39, true)), .mv (.t 5)⟩,⟨some 51, (some (39, true)), .bin .geq .i (.t 49) (.t 50)⟩,⟨some 52, none, .pick (.t 39) (.t 51) (.k (V.b false))⟩] [1, 2, 3, 4, 5, 6, 13, 52]) (.cond (.t 52) (.seq (.reg none [⟨some 53, none, .mv (.t 13)⟩,⟨some 12, none, .mv (.t 53)⟩] [12]) (.ret)) (.skip))))) (.reg none [⟨some 17, none, .mv (.t 13)⟩,⟨some 18, none, .bin .add .i (.t 17) (.k (V.i 1))⟩,⟨some 13, none, .mv (.t 18)⟩] [1, 2, 3, 4, 5, 6, 13]))))) (.seq (.reg none [⟨some 12, none, .mv (.k (V.i (-1)))⟩] [12]) (.ret)))
def rv87 : List RV := [.t 12]
def S_l6Next_l1 (g : G) (t : TE) (a0 : Network) (a1 : List Booking) (a2 : List Trip) (a3 : Int) (a4 : Int) (a5 : Int) : Nat → Int → Option (LR Int Unit)
  | 0, v1 =>
    some (LR.out ())
  | n1 + 1, v1 =>
    cl (S_l3Runs g t a0 a3 v1) fun x1 =>
    br x1
    (
     cl (S_l3Starts g t a0 (Trip.mk a3 v1)) fun x2 =>
     br (g.le a4 x2)
     (
      lP (S_l6Closed g t a2 (Trip.mk a3 v1)) fun x3 =>
      br x3
      (
       S_l6Next_l1 g t a0 a1 a2 a3 a4 a5 n1 (g.wrap .i64 (g.add v1 1)))
      (
       gd (((0 : Int) ≤ a3)) <|
       gt a0.Legs (g.nat a3) fun x4 =>
       lP (S_LoadOf g t a1 (Trip.mk a3 v1)) fun x5 =>
       br (g.le a5 (g.wrap .i64 (g.sub x4.Room x5)))
       (
        some (LR.ret v1))
       (
        S_l6Next_l1 g t a0 a1 a2 a3 a4 a5 n1 (g.wrap .i64 (g.add v1 1)))))
     (
      S_l6Next_l1 g t a0 a1 a2 a3 a4 a5 n1 (g.wrap .i64 (g.add v1 1))))
    (
     S_l6Next_l1 g t a0 a1 a2 a3 a4 a5 n1 (g.wrap .i64 (g.add v1 1)))
def S_l6Next (g : G) (t : TE) (a0 : Network) (a1 : List Booking) (a2 : List Trip) (a3 : Int) (a4 : Int) (a5 : Int) : Option Int :=
  cl (S_l6Next_l1 g t a0 a1 a2 a3 a4 a5 (cntLe 0 60) 0) fun o1 => lr o1 fun y1 =>
  some (-1)
theorem c_S_l6Next {g : G} {t : TE} {a0 : Network} {a1 : List Booking} {a2 : List Trip} {a3 : Int} {a4 : Int} {a5 : Int} {r : Int} (hg : g = G.real) (ht : t = TE.real) (h : S_l6Next g t a0 a1 a2 a3 a4 a5 = some r) : Fn Try.prog 87 [.g (Network.rs t a0), .c (.s 4 (t.r_Booking a1)), .c (.s 2 (t.r_Trip a2)), .c (.v (.int .i64 a3)), .c (.v (.int .i64 a4)), .c (.v (.int .i64 a5))] (.c (.r (.v (.int .i64 r)))) := by
 obtain ⟨X, hX⟩ := hide (.c (.r (.v (.int .i64 r))) : X); rw [← hX]; refine fn_of (rvs := rv87) (j := ir87) Try.func87 rfl (by kernel_rfl) (Nat.le_of_ble_eq_true rfl) (by kernel_rfl) prog_mixed ?_; intro g2 F hg2 hF; obtain rfl : g2 = g := hg2.unique.trans hg.symm; clear hg2; obtain ⟨wrap, _, le, _, _, _, _, _, _, _, _, _, _, add, sub, _, _, _, _, _, _, _, _, _, _, _, _, _, _, _, _, _, _, _, _, _, _, _, _, _, _, _, _, _⟩ := g2; obtain ⟨r_Leg, _, r_I64, _, r_Booking, _, r_Trip, _, _, _, _, _, _, _, _⟩ := t
 obtain ⟨a0_Legs, a0_Off, a0_Change⟩ := a0; unfold S_l6Next at h; try dsimp only at h
 cbv; obtain ⟨o1, ho1, h⟩ := of_cl h; try dsimp only at h
 try rw [hg] at ho1
 try rw [ht] at ho1
 refine ABL.mk { p : Nat × Int // p.1 = cntLe p.2 60 ∧ 0 ≤ p.2 ∧ S_l6Next_l1 G.real TE.real (Network.mk a0_Legs a0_Off a0_Change) a1 a2 a3 a4 a5 p.1 p.2 = some o1 } (fun ⟨⟨n1, v1⟩, _⟩ => ({ sl := [(1, .c (.r (.s 4 (r_Booking a1)))), (2, .c (.r (.s 2 (r_Trip a2)))), (3, .c (.r (.v (.int .i64 a3)))), (4, .c (.r (.v (.int .i64 a4)))), (5, .c (.r (.v (.int .i64 a5)))), (6, .c (.p 0 3 0 0)), (13, .c (.r (.v (.int .i64 v1))))], tab := [(0, some (.foc 3 [] [.r (.s 6 (r_Leg a0_Legs)), .r (.s 1 (r_I64 a0_Off)), .r (.v (.int .i64 a0_Change))] []))] } : St)) 1 (fun p => p.1.1) ⟨(cntLe 0 60, 0), rfl, Int.le_refl _, ho1⟩ (Unit) (fun _ => ({ sl := [], tab := [] } : St)) 0 (fun y => o1 = LR.out y) ?_ ?_ ?_
 ·refine Wk.of [(0, some 0)] rfl rfl ?_ ?_
  ·cbv; all_goals exact ⟨⟨_, rfl, rfl⟩, ⟨_, rfl, rfl⟩, ⟨_, rfl, rfl⟩, ⟨_, rfl, rfl⟩, ⟨_, rfl, rfl⟩, ⟨_, rfl, rfl⟩, ⟨_, rfl, rfl⟩, trivial⟩
  cbv; all_goals exact ⟨⟨_, rfl, _, rfl, rfl, rfl, rfl, trivial⟩, trivial⟩
 ·rintro ⟨⟨n1, v1⟩, hn1, hi1, h_1⟩ hq1; try dsimp only at hn1 hi1 h_1
  clear hq1; cbv; rcases n1 with _ | n1
  ·have hb1 : le v1 60 = false := leC_false hg hn1; rw [S_l6Next_l1] at h_1; try rw [← hg] at h_1
   try rw [← ht] at h_1
   try dsimp only at h_1
   rw [hb1]; cbv; refine ⟨(), Wk.of [] rfl rfl ?_ ?_, (Option.some.inj h_1).symm⟩
   ·cbv; all_goals exact trivial
   cbv; all_goals exact trivial
  have hb1 : le v1 60 = true := leC_true hg hn1; have hl1 := leC_le hn1; have hs1 := stepleC hg hn1 hi1 (by decide) (by decide); rw [S_l6Next_l1] at h_1; try rw [← hg] at h_1
  try rw [← ht] at h_1
  try dsimp only at h_1
  rw [hb1]; cbv; obtain ⟨x1, hx1, h_1⟩ := of_cl h_1; try dsimp only at h_1
  refine ACall.mk _ _ rfl (hF _ _ _ (c_S_l3Runs hg ht hx1)) (.inl rfl) (Nat.le_of_ble_eq_true rfl) ?_; cbv
  cases hb2 : x1
  ·rw [br_false hb2] at h_1; cbv; iterate 5 try (rw [hb2]; cbv)
   try rw [hg] at h_1
   try rw [ht] at h_1
   refine ⟨⟨(n1, (wrap .i64 (add v1 1))), hs1.1, hs1.2, h_1⟩, Wk.of [(0, some 0)] rfl rfl ?_ ?_, Nat.lt_succ_self _⟩
   ·cbv; all_goals exact ⟨⟨_, rfl, rfl⟩, ⟨_, rfl, rfl⟩, ⟨_, rfl, rfl⟩, ⟨_, rfl, rfl⟩, ⟨_, rfl, rfl⟩, ⟨_, rfl, rfl⟩, ⟨_, rfl, rfl⟩, trivial⟩
   cbv; all_goals exact ⟨⟨_, rfl, _, rfl, rfl, rfl, rfl, trivial⟩, trivial⟩
  rw [br_true hb2] at h_1; cbv; iterate 2 try (rw [hb2]; cbv)
  obtain ⟨x2, hx2, h_1⟩ := of_cl h_1; try dsimp only at h_1
  refine ACall.mk _ _ rfl (hF _ _ _ (c_S_l3Starts hg ht hx2)) (.inl rfl) (Nat.le_of_ble_eq_true rfl) ?_; cbv; iterate 3 try (rw [hb2]; cbv)
  cases hb3 : (le a4 x2)
  ·rw [br_false hb3] at h_1; cbv; iterate 4 try (rw [hb3]; cbv)
   try rw [hg] at h_1
   try rw [ht] at h_1
   refine ⟨⟨(n1, (wrap .i64 (add v1 1))), hs1.1, hs1.2, h_1⟩, Wk.of [(0, some 0)] rfl rfl ?_ ?_, Nat.lt_succ_self _⟩
   ·cbv; all_goals exact ⟨⟨_, rfl, rfl⟩, ⟨_, rfl, rfl⟩, ⟨_, rfl, rfl⟩, ⟨_, rfl, rfl⟩, ⟨_, rfl, rfl⟩, ⟨_, rfl, rfl⟩, ⟨_, rfl, rfl⟩, trivial⟩
   cbv; all_goals exact ⟨⟨_, rfl, _, rfl, rfl, rfl, rfl, trivial⟩, trivial⟩
  rw [br_true hb3] at h_1; cbv; iterate 2 try (rw [hb3]; cbv)
  obtain ⟨x3, hx3, h_1⟩ := of_lP h_1; try dsimp only at h_1
  refine ACall.mk _ _ rfl (hF _ _ _ (c_S_l6Closed hg ht hx3)) (.inl rfl) (Nat.le_of_ble_eq_true rfl) ?_; cbv; iterate 2 try (rw [hb3]; cbv)
  cases hb4 : x3
  rotate_left
  ·rw [br_true hb4] at h_1; cbv; iterate 12 try (rw [hb4]; cbv)
   try rw [hg] at h_1
   try rw [ht] at h_1
   refine ⟨⟨(n1, (wrap .i64 (add v1 1))), hs1.1, hs1.2, h_1⟩, Wk.of [(0, some 0)] rfl rfl ?_ ?_, Nat.lt_succ_self _⟩
   ·cbv; all_goals exact ⟨⟨_, rfl, rfl⟩, ⟨_, rfl, rfl⟩, ⟨_, rfl, rfl⟩, ⟨_, rfl, rfl⟩, ⟨_, rfl, rfl⟩, ⟨_, rfl, rfl⟩, ⟨_, rfl, rfl⟩, trivial⟩
   cbv; all_goals exact ⟨⟨_, rfl, _, rfl, rfl, rfl, rfl, trivial⟩, trivial⟩
  rw [br_false hb4] at h_1; cbv; iterate 3 try (rw [hb4]; cbv)
  obtain ⟨hc1, h_1⟩ := of_gd h_1; refine AStep.mk hc1 ?_; cbv; obtain ⟨x4, hx4, h_1⟩ := of_gt h_1; obtain ⟨x4_From, x4_To, x4_Start, x4_Takes, x4_Days, x4_Room⟩ := x4; try dsimp only at h_1
  refine AGet.mk _ (r_get_Leg hg ht hx4) ?_; cbv; iterate 5 try (rw [hb4]; cbv)
  obtain ⟨x5, hx5, h_1⟩ := of_lP h_1; try dsimp only at h_1
  refine ACall.mk _ _ rfl (hF _ _ _ (c_S_LoadOf hg ht hx5)) (.inl rfl) (Nat.le_of_ble_eq_true rfl) ?_; cbv; iterate 4 try (rw [hb4]; cbv)
  cases hb5 : (le a5 (wrap .i64 (sub x4_Room x5)))
  rotate_left
  ·rw [br_true hb5] at h_1; cbv; obtain rfl := Option.some.inj h_1; try dsimp only [lr, lrL, lrp, lrpL] at h
   obtain rfl := Option.some.inj h; exact ARet.mk trivial hX.symm
  rw [br_false hb5] at h_1; cbv; try rw [hg] at h_1
  try rw [ht] at h_1
  refine ⟨⟨(n1, (wrap .i64 (add v1 1))), hs1.1, hs1.2, h_1⟩, Wk.of [(0, some 0)] rfl rfl ?_ ?_, Nat.lt_succ_self _⟩
  ·cbv; all_goals exact ⟨⟨_, rfl, rfl⟩, ⟨_, rfl, rfl⟩, ⟨_, rfl, rfl⟩, ⟨_, rfl, rfl⟩, ⟨_, rfl, rfl⟩, ⟨_, rfl, rfl⟩, ⟨_, rfl, rfl⟩, trivial⟩
  cbv; all_goals exact ⟨⟨_, rfl, _, rfl, rfl, rfl, rfl, trivial⟩, trivial⟩
 rintro _ hy1; replace hy1 := hy1.symm; subst hy1; try dsimp only [lr, lrL, lrp, lrpL] at h
 cbv; obtain rfl := Option.some.inj h; exact ARet.mk trivial hX.symm
def ir88 : J := .seq (.reg none [⟨some 3, none, .box (.t 0)⟩,⟨some 6, none, .mv (.k (V.i 0))⟩] [1, 2, 3]) (.seq (.seq (.reg none [⟨some 7, none, .mv (.t 2)⟩] [1, 3, 7]) (.cond (.t 7) (.seq (.reg none [⟨some 8, none, .mv (.t 1)⟩,⟨some 6, none, .mv (.t 8)⟩] [6]) (.ret)) (.skip))) (.seq (.reg none [⟨some 9, none, .mv (.t 1)⟩,⟨some 10, none, .fa 2 (.t 3)⟩,⟨some 11, none, .ld false 1 (.t 10)⟩,⟨some 12, none, .bin .add .i (.t 9) (.t 11)⟩,⟨some 6, none, .mv (.t 12)⟩] [6]) (.ret)))
def rv88 : List RV := [.t 6]
def S_l4Ready (g : G) (t : TE) (a0 : Network) (a1 : Int) (a2 : Bool) : Int :=
  br a2
  (
   a1)
  (
   (g.wrap .i64 (g.add a1 a0.Change)))
theorem c_S_l4Ready {g : G} {t : TE} {a0 : Network} {a1 : Int} {a2 : Bool} {r : Int} (hg : g = G.real) (ht : t = TE.real) (h : S_l4Ready g t a0 a1 a2 = r) : Fn Try.prog 88 [.g (Network.rs t a0), .c (.v (.int .i64 a1)), .c (.v (.bool a2))] (.c (.r (.v (.int .i64 r)))) := by
 obtain ⟨X, hX⟩ := hide (.c (.r (.v (.int .i64 r))) : X); rw [← hX]; refine fn_of (rvs := rv88) (j := ir88) Try.func88 rfl (by kernel_rfl) (Nat.le_of_ble_eq_true rfl) (by kernel_rfl) prog_mixed ?_; intro g2 F hg2 hF; obtain rfl : g2 = g := hg2.unique.trans hg.symm; clear hg2; obtain ⟨_, _, _, _, _, _, _, _, _, _, _, _, _, _, _, _, _, _, _, _, _, _, _, _, _, _, _, _, _, _, _, _, _, _, _, _, _, _, _, _, _, _, _, _⟩ := g2; obtain ⟨_, _, _, _, _, _, _, _, _, _, _, _, _, _, _⟩ := t
 obtain ⟨a0_Legs, a0_Off, a0_Change⟩ := a0; unfold S_l4Ready at h; try dsimp only at h
 cbv
 cases hb1 : a2
 rotate_left
 ·rw [br_true hb1] at h; cbv; subst h; exact ARet.mk trivial hX.symm
 rw [br_false hb1] at h; cbv; subst h; exact ARet.mk trivial hX.symm
def ir50 : J := .seq (.reg none [⟨some 7, none, .box (.t 0)⟩,⟨some 14, none, .mv (.k (.c (.n 1)))⟩] [1, 2, 3, 4, 5, 6, 7]) (.seq (.reg none [⟨some 21, none, .mv (.t 5)⟩,⟨some 22, none, .call 86 true [(.t 21)]⟩,⟨some 15, none, .mv (.t 22)⟩] [1, 2, 3, 4, 5, 6, 7, 15]) (.seq (.seq (.reg none [⟨some 16, none, .mv (.k (V.i 0))⟩] [1, 2, 3, 4, 5, 6, 7, 15, 16]) (.bl 0 (.seq (.seq (.reg none [⟨some 23, none, .mv (.t 16)⟩,⟨some 24, none, .fa 0 (.t 7)⟩,⟨some 25, none, .ld false 1 (.t 24)⟩,⟨some 26, none, .len false (.t 25)⟩,⟨some 27, none, .bin .lss .i (.t 23) (.t 26)⟩] [1, 2, 3, 4, 5, 6, 7, 15, 16, 27]) (.cond (.t 27) (.skip) (.exit 0))) (.seq (.block 1 (.seq (.reg none [⟨some 30, none, .mv (.t 4)⟩,⟨some 31, none, .fa 0 (.t 7)⟩,⟨some 32, none, .ld false 1 (.t 31)⟩,⟨some 33, none, .mv (.t 16)⟩,⟨some 34, none, .ia 6 (.t 32) (.t 33)⟩,⟨some 35, none, .fa 0 (.t 34)⟩,⟨some 36, none, .ld false 1 (.t 35)⟩,⟨some 37, none, .call 47 true [(.t 30), (.t 36)]⟩,⟨some 17, none, .mv (.t 37)⟩] [1, 2, 3, 4, 5, 6, 7, 15, 16, 17]) (.seq (.reg none [⟨some 38, none, .mv (.t 4)⟩,⟨some 39, none, .fa 0 (.t 7)⟩,⟨some 40, none, .ld false 1 (.t 39)⟩,⟨some 41, none, .mv (.t 16)⟩,⟨some 42, none, .ia 6 (.t 40) (.t 41)⟩,⟨some 43, none, .fa 1 (.t 42)⟩,⟨some 44, none, .ld false 1 (.t 43)⟩,⟨some 45, none, .call 47 true [(.t 38), (.t 44)]⟩,⟨some 18, none, .mv (.t 45)⟩] [1, 2, 3, 4, 5, 6, 7, 15, 16, 17, 18]) (.seq (.seq (.reg none [⟨some 46, none, .mv (.t 5)⟩,⟨some 47, none, .mv (.t 17)⟩,⟨some 48, none, .ia 1 (.t 46) (.t 47)⟩,⟨some 49, none, .ld false 1 (.t 48)⟩,⟨some 50, none, .bin .lss .i (.t 49) (.k (V.i 0))⟩] [1, 2, 3, 4, 5, 6, 7, 15, 16, 17, 18, 50]) (.cond (.t 50) (.exit 1) (.skip))) (.seq (.reg (some [[], [], [], [], [], [], [], [5, 6], [5, 6, 7], [], [], [9, 10], [4, 5, 6, 7, 8, 9, 10, 11], [], [0, 1, 2, 3, 4, 5, 6, 7, 8, 9, 10, 11, 12, 13], [0, 1, 2, 3, 4, 5, 6, 7, 8, 9, 10, 11, 12, 13, 14]]) [⟨some 51, none, .ld true 3 (.t 7)⟩,⟨some 52, none, .mv (.t 1)⟩,⟨some 53, none, .mv (.t 2)⟩,⟨some 54, none, .mv (.t 16)⟩,⟨some 55, none, .ld true 3 (.t 7)⟩,⟨some 56, none, .mv (.t 5)⟩,⟨some 57, none, .mv (.t 17)⟩,⟨some 58, none, .ia 1 (.t 56) (.t 57)⟩,⟨some 59, none, .ld false 1 (.t 58)⟩,⟨some 60, none, .mv (.t 17)⟩,⟨some 61, none, .mv (.t 6)⟩,⟨some 62, none, .bin .eql .i (.t 60) (.t 61)⟩,⟨some 63, none, .call 88 true [(.t 55), (.t 59), (.t 62)]⟩,⟨some 64, none, .mv (.t 3)⟩,⟨some 65, none, .call 87 true [(.t 51), (.t 52), (.t 53), (.t 54), (.t 63), (.t 64)]⟩,⟨some 19, none, .mv (.t 65)⟩] [1, 2, 3, 4, 5, 6, 7, 15, 16, 18, 19]) (.seq (.seq (.reg none [⟨some 66, none, .mv (.t 19)⟩,⟨some 67, none, .bin .lss .i (.t 66) (.k (V.i 0))⟩] [1, 2, 3, 4, 5, 6, 7, 15, 16, 18, 19, 67]) (.cond (.t 67) (.exit 1) (.skip))) (.seq (.reg none [⟨some 68, none, .ld true 3 (.t 7)⟩,⟨some 69, none, .mv (.t 16)⟩,⟨some 70, none, .mv (.t 19)⟩,⟨some 71, none, .bld [.r (.v (.int .i64 0)), .r (.v (.int .i64 0))] [(0, 1, (.t 69)), (1, 1, (.t 70))]⟩,⟨some 72, none, .call 65 true [(.t 68), (.t 71)]⟩,⟨some 20, none, .mv (.t 72)⟩] [1,
 2, 3, 4, 5, 6, 7, 15, 16, 18, 20]) (.seq (.reg none [⟨some 73, none, .mv (.t 15)⟩,⟨some 74, none, .mv (.t 18)⟩,⟨some 75, none, .ia 1 (.t 73) (.t 74)⟩,⟨some 76, none, .ld false 1 (.t 75)⟩,⟨some 77, none, .bin .lss .i (.t 76) (.k (V.i 0))⟩,⟨some 78, none, .mv (.t 77)⟩,⟨some 79, (some (78, false)), .mv (.t 20)⟩,⟨some 80, (some (78, false)), .mv (.t 15)⟩,⟨some 81, (some (78, false)), .mv (.t 18)⟩,⟨some 82, (some (78, false)), .ia 1 (.t 80) (.t 81)⟩,⟨some 83, (some (78, false)), .ld false 1 (.t 82)⟩,⟨some 84, (some (78, false)), .bin .lss .i (.t 79) (.t 83)⟩,⟨some 85, none, .pick (.t 78) (.k (V.b true)) (.t 84)⟩] [1, 2, 3, 4, 5, 6, 7, 15, 16, 18, 20, 85]) (.cond (.t 85) (.reg none [⟨some 86, none, .mv (.t 15)⟩,⟨some 87, none, .mv (.t 18)⟩,⟨some 88, none, .mv (.t 20)⟩,⟨some 89, none, .ia 1 (.t 86) (.t 87)⟩,⟨none, none, .st 1 (.t 89) (.t 88)⟩] [1, 2, 3, 4, 5, 6, 7, 15, 16]) (.skip)))))))))) (.reg none [⟨some 28, none, .mv (.t 16)⟩,⟨some 29, none, .bin .add .i (.t 28) (.k (V.i 1))⟩,⟨some 16, none, .mv (.t 29)⟩] [1, 2, 3, 4, 5, 6, 7, 15, 16]))))) (.seq (.reg none [⟨some 90, none, .mv (.t 15)⟩,⟨some 14, none, .mv (.t 90)⟩] [14]) (.ret))))
def rv50 : List RV := [.t 14]
def S_l6Round_l1 (g : G) (t : TE) (a0 : Network) (a1 : List Booking) (a2 : List Trip) (a3 : Int) (a4 : List ByteArray) (a5 : List Int) (a6 : Int) : List Leg → Int → List Int → Option (List Int)
  | [], v1, w1 =>
    some w1
  | z1 :: ls1, v1, w1 =>
    lP (S_l4Index g t a4 z1.From) fun x2 =>
    lP (S_l4Index g t a4 z1.To) fun x3 =>
    gd (((0 : Int) ≤ x2)) <|
    gt a5 (g.nat x2) fun x4 =>
    br (g.lt x4 0)
    (
     S_l6Round_l1 g t a0 a1 a2 a3 a4 a5 a6 ls1 (g.wrap .i64 (g.add v1 1)) w1)
    (
     gd (((0 : Int) ≤ x2)) <|
     lP (S_l4Ready g t a0 x4 (g.eq x2 a6)) fun x5 =>
     cl (S_l6Next g t a0 a1 a2 v1 x5 a3) fun x6 =>
     br (g.lt x6 0)
     (
      S_l6Round_l1 g t a0 a1 a2 a3 a4 a5 a6 ls1 (g.wrap .i64 (g.add v1 1)) w1)
     (
      cl (S_l3Ends g t a0 (Trip.mk v1 x6)) fun x7 =>
      gd (((0 : Int) ≤ x3 ∧ x3 < (((g.dlen (t.d_I64 w1)) : Nat) : Int))) <|
      gt w1 (g.nat x3) fun x8 =>
      br (g.lt x8 0)
      (
       gd (((0 : Int) ≤ x3 ∧ x3 < (((g.dlen (t.d_I64 w1)) : Nat) : Int))) <|
       lP (List.set w1 (g.nat x3) x7) fun (l1 : List Int) =>
       S_l6Round_l1 g t a0 a1 a2 a3 a4 a5 a6 ls1 (g.wrap .i64 (g.add v1 1)) l1)
      (
       gd (((0 : Int) ≤ x3 ∧ x3 < (((g.dlen (t.d_I64 w1)) : Nat) : Int))) <|
       br (g.lt x7 x8)
       (
        gd (((0 : Int) ≤ x3 ∧ x3 < (((g.dlen (t.d_I64 w1)) : Nat) : Int))) <|
        lP (List.set w1 (g.nat x3) x7) fun (l2 : List Int) =>
        S_l6Round_l1 g t a0 a1 a2 a3 a4 a5 a6 ls1 (g.wrap .i64 (g.add v1 1)) l2)
       (
        S_l6Round_l1 g t a0 a1 a2 a3 a4 a5 a6 ls1 (g.wrap .i64 (g.add v1 1)) w1))))
def S_l6Round (g : G) (t : TE) (a0 : Network) (a1 : List Booking) (a2 : List Trip) (a3 : Int) (a4 : List ByteArray) (a5 : List Int) (a6 : Int) : Option (List Int) :=
  cl (S_l1Ints g t a5) fun x1 =>
  cl (S_l6Round_l1 g t a0 a1 a2 a3 a4 a5 a6 a0.Legs 0 x1) fun y1 =>
  some y1
theorem c_S_l6Round {g : G} {t : TE} {a0 : Network} {a1 : List Booking} {a2 : List Trip} {a3 : Int} {a4 : List ByteArray} {a5 : List Int} {a6 : Int} {r : List Int} (hg : g = G.real) (ht : t = TE.real) (h : S_l6Round g t a0 a1 a2 a3 a4 a5 a6 = some r) : Fn Try.prog 50 [.g (Network.rs t a0), .c (.s 4 (t.r_Booking a1)), .c (.s 2 (t.r_Trip a2)), .c (.v (.int .i64 a3)), .c (.s 1 (t.r_S a4)), .c (.s 1 (t.r_I64 a5)), .c (.v (.int .i64 a6))] (.c (.o 1 (t.d_I64 r))) := by
 obtain ⟨X, hX⟩ := hide (.c (.o 1 (t.d_I64 r)) : X); rw [← hX]; refine fn_of (rvs := rv50) (j := ir50) Try.func50 rfl (by kernel_rfl) (Nat.le_of_ble_eq_true rfl) (by kernel_rfl) prog_mixed ?_; intro g2 F hg2 hF; obtain rfl : g2 = g := hg2.unique.trans hg.symm; clear hg2; obtain ⟨wrap, lt, _, _, _, _, _, _, _, _, _, _, _, add, _, _, _, _, _, _, _, llen, _, _, dlen, _, _, _, _, _, _, _, _, _, _, _, _, _, _, _, _, _, _, _⟩ := g2; obtain ⟨r_Leg, _, r_I64, d_I64, r_Booking, _, r_Trip, _, r_S, _, _, _, _, _, _⟩ := t
 obtain ⟨a0_Legs, a0_Off, a0_Change⟩ := a0; unfold S_l6Round at h; try dsimp only at h
 cbv; obtain ⟨x1, hx1, h⟩ := of_cl h; try dsimp only at h
 refine ACall.mk _ _ rfl (hF _ _ _ (c_S_l1Ints hg ht hx1)) (.inl rfl) (Nat.le_of_ble_eq_true rfl) ?_; cbv; obtain ⟨o1, ho1, h⟩ := of_cl h; try dsimp only at h
 try rw [hg] at ho1
 try rw [ht] at ho1
 refine ABL.mk { p : Nat × Int × List Int // p.1 ≤ a0_Legs.length ∧ p.2.1 = ((p.1 : Nat) : Int) ∧ S_l6Round_l1 G.real TE.real (Network.mk a0_Legs a0_Off a0_Change) a1 a2 a3 a4 a5 a6 (List.drop p.1 a0_Legs) p.2.1 p.2.2 = some o1 } (fun ⟨⟨k1, v1, w1⟩, _⟩ => ({ sl := [(1, .c (.r (.s 4 (r_Booking a1)))), (2, .c (.r (.s 2 (r_Trip a2)))), (3, .c (.r (.v (.int .i64 a3)))), (4, .c (.r (.s 1 (r_S a4)))), (5, .c (.r (.s 1 (r_I64 a5)))), (6, .c (.r (.v (.int .i64 a6)))), (7, .c (.p 0 3 0 0)), (15, .c (.f 1 1 0 (dlen (d_I64 w1)))), (16, .c (.r (.v (.int .i64 v1))))], tab := [(0, some (.foc 3 [] [.r (.s 6 (r_Leg a0_Legs)), .r (.s 1 (r_I64 a0_Off)), .r (.v (.int .i64 a0_Change))] [])), (1, some (.arr 1 (d_I64 w1)))] } : St)) 2 (fun p => a0_Legs.length - p.1.1) ⟨(0, 0, x1), Nat.zero_le _, rfl, ho1⟩ (List Int) (fun y1 => ({ sl := [(15, .c (.f 0 1 0 (dlen (d_I64 y1))))], tab := [(0, some (.arr 1 (d_I64 y1)))] } : St)) 1 (fun y => o1 = y) ?_ ?_ ?_
 ·refine Wk.of [(0, some 0), (1, some 48)] rfl rfl ?_ ?_
  ·cbv; all_goals exact ⟨⟨_, rfl, rfl⟩, ⟨_, rfl, rfl⟩, ⟨_, rfl, rfl⟩, ⟨_, rfl, rfl⟩, ⟨_, rfl, rfl⟩, ⟨_, rfl, rfl⟩, ⟨_, rfl, rfl⟩, ⟨_, rfl, rfl⟩, ⟨_, rfl, rfl⟩, trivial⟩
  cbv; all_goals exact ⟨⟨_, rfl, _, rfl, rfl, rfl, rfl, trivial⟩, ⟨_, rfl, rfl⟩, trivial⟩
 ·rintro ⟨⟨k1, v1, w1⟩, hk1, hi1, h_1⟩ hq1; have hm1 := (hq1.2.2.1 0 _ _ _ _ 0 _ _ rfl rfl); try dsimp only at hk1 hi1 h_1
  clear hq1; cbv
  by_cases hc1_ : k1 < a0_Legs.length
  ·have hb1 : lt v1 (llen (r_Leg a0_Legs)) = true := ltL_true_Leg hg ht hi1 hc1_; have hs1 := stepL_Leg hg ht hi1 hc1_ hm1; obtain ⟨z1, hz1⟩ := some_of_lt hc1_; rw [drop_of_some hz1] at h_1; rw [S_l6Round_l1] at h_1; obtain ⟨z1_From, z1_To, z1_Start, z1_Takes, z1_Days, z1_Room⟩ := z1; try rw [← hg] at h_1
   try rw [← ht] at h_1
   try dsimp only at h_1
   rw [hb1]; cbv; refine AStep.mk (nn_L hi1) ?_; cbv; refine AGet.mk _ (r_getL_Leg hg ht hi1 hz1) ?_; cbv; obtain ⟨x2, hx2, h_1⟩ := of_lP h_1; try dsimp only at h_1
   refine ACall.mk _ _ rfl (hF _ _ _ (c_S_l4Index hg ht hx2)) (.inl rfl) (Nat.le_of_ble_eq_true rfl) ?_; cbv; refine AStep.mk (nn_L hi1) ?_; cbv; refine AGet.mk _ (r_getL_Leg hg ht hi1 hz1) ?_; cbv; obtain ⟨x3, hx3, h_1⟩ := of_lP h_1; try dsimp only at h_1
   refine ACall.mk _ _ rfl (hF _ _ _ (c_S_l4Index hg ht hx3)) (.inl rfl) (Nat.le_of_ble_eq_true rfl) ?_; cbv; obtain ⟨hc1, h_1⟩ := of_gd h_1; refine AStep.mk hc1 ?_; cbv; obtain ⟨x4, hx4, h_1⟩ := of_gt h_1; try dsimp only at h_1
   refine AGet.mk _ (r_get_I64 hg ht hx4) ?_; cbv
   cases hb2 : (lt x4 0)
   rotate_left
   ·rw [br_true hb2] at h_1; cbv; try rw [hg] at h_1
    try rw [ht] at h_1
    refine ⟨⟨(k1 + 1, (wrap .i64 (add v1 1)), w1), hc1_, hs1, h_1⟩, Wk.of [(0, some 0), (1, some 1)] rfl rfl ?_ ?_, meas_L hc1_⟩
    ·cbv; all_goals exact ⟨⟨_, rfl, rfl⟩, ⟨_, rfl, rfl⟩, ⟨_, rfl, rfl⟩, ⟨_, rfl, rfl⟩, ⟨_, rfl, rfl⟩, ⟨_, rfl, rfl⟩, ⟨_, rfl, rfl⟩, ⟨_, rfl, rfl⟩, ⟨_, rfl, rfl⟩, trivial⟩
    cbv; all_goals exact ⟨⟨_, rfl, _, rfl, rfl, rfl, rfl, trivial⟩, ⟨_, rfl, rfl⟩, trivial⟩
   rw [br_false hb2] at h_1; cbv; obtain ⟨hc2, h_1⟩ := of_gd h_1; refine AStep.mk hc2 ?_; cbv; refine AGet.mk _ (r_get_I64 hg ht hx4) ?_; cbv; obtain ⟨x5, hx5, h_1⟩ := of_lP h_1; try dsimp only at h_1
   refine ACall.mk _ _ rfl (hF _ _ _ (c_S_l4Ready hg ht hx5)) (.inl rfl) (Nat.le_of_ble_eq_true rfl) ?_; cbv; obtain ⟨x6, hx6, h_1⟩ := of_cl h_1; try dsimp only at h_1
   refine ACall.mk _ _ rfl (hF _ _ _ (c_S_l6Next hg ht hx6)) (.inl rfl) (Nat.le_of_ble_eq_true rfl) ?_; cbv
   cases hb3 : (lt x6 0)
   rotate_left
   ·rw [br_true hb3] at h_1; cbv; try rw [hg] at h_1
    try rw [ht] at h_1
    refine ⟨⟨(k1 + 1, (wrap .i64 (add v1 1)), w1), hc1_, hs1, h_1⟩, Wk.of [(0, some 0), (1, some 1)] rfl rfl ?_ ?_, meas_L hc1_⟩
    ·cbv; all_goals exact ⟨⟨_, rfl, rfl⟩, ⟨_, rfl, rfl⟩, ⟨_, rfl, rfl⟩, ⟨_, rfl, rfl⟩, ⟨_, rfl, rfl⟩, ⟨_, rfl, rfl⟩, ⟨_, rfl, rfl⟩, ⟨_, rfl, rfl⟩, ⟨_, rfl, rfl⟩, trivial⟩
    cbv; all_goals exact ⟨⟨_, rfl, _, rfl, rfl, rfl, rfl, trivial⟩, ⟨_, rfl, rfl⟩, trivial⟩
   rw [br_false hb3] at h_1; cbv; obtain ⟨x7, hx7, h_1⟩ := of_cl h_1; try dsimp only at h_1
   refine ACall.mk _ _ rfl (hF _ _ _ (c_S_l3Ends hg ht hx7)) (.inl rfl) (Nat.le_of_ble_eq_true rfl) ?_; cbv; obtain ⟨hc3, h_1⟩ := of_gd h_1; refine AStep.mk hc3 ?_; cbv; obtain ⟨x8, hx8, h_1⟩ := of_gt h_1; try dsimp only at h_1
   refine AGet.mk _ (d_get_I64 hg ht hx8) ?_; cbv
   cases hb4 : (lt x8 0)
   rotate_left
   ·rw [br_true hb4] at h_1; cbv; iterate 6 try (rw [hb4]; cbv)
    obtain ⟨hc4, h_1⟩ := of_gd h_1; refine AStep.mk hc4 ?_; cbv; refine AGet.mk _ (d_get_I64 hg ht hx8) ?_; cbv; obtain ⟨l1, hl1, h_1⟩ := of_lP h_1; try dsimp only at h_1
    refine ANew.mk (d_I64 l1) _ (by rw [← hl1]; exact dset_I64 hg ht _ _ x7) rfl ?_; have hnl1 : (dlen (d_I64 w1)) = (d_I64 l1).length := (by rw [← hl1, dsetl_I64 ht]; exact (dlen_I64 hg ht _)); cbv; try rw [hg] at h_1
    try rw [ht] at h_1
    refine ⟨⟨(k1 + 1, (wrap .i64 (add v1 1)), l1), hc1_, hs1, h_1⟩, Wk.of [(0, some 0), (1, some 1)] rfl rfl ?_ ?_, meas_L hc1_⟩
    ·cbv; all_goals try rw [show (dlen (d_I64 w1)) = (dlen (d_I64 l1)) from (hnl1).trans (dlen_I64 hg ht _).symm]
     all_goals exact ⟨⟨_, rfl, rfl⟩, ⟨_, rfl, rfl⟩, ⟨_, rfl, rfl⟩, ⟨_, rfl, rfl⟩, ⟨_, rfl, rfl⟩, ⟨_, rfl, rfl⟩, ⟨_, rfl, rfl⟩, ⟨_, rfl, rfl⟩, ⟨_, rfl, rfl⟩, trivial⟩
    cbv; all_goals try rw [show (dlen (d_I64 w1)) = (dlen (d_I64 l1)) from (hnl1).trans (dlen_I64 hg ht _).symm]
    all_goals exact ⟨⟨_, rfl, _, rfl, rfl, rfl, rfl, trivial⟩, ⟨_, rfl, rfl⟩, trivial⟩
   rw [br_false hb4] at h_1; cbv; iterate 3 try (rw [hb4]; cbv)
   obtain ⟨hc5, h_1⟩ := of_gd h_1; refine AStep.mk hc5 ?_; cbv; try (rw [hb4]; cbv)
   refine AGet.mk _ (d_get_I64 hg ht hx8) ?_; cbv; iterate 2 try (rw [hb4]; cbv)
   cases hb5 : (lt x7 x8)
   ·rw [br_false hb5] at h_1; cbv; try rw [hg] at h_1
    try rw [ht] at h_1
    refine ⟨⟨(k1 + 1, (wrap .i64 (add v1 1)), w1), hc1_, hs1, h_1⟩, Wk.of [(0, some 0), (1, some 1)] rfl rfl ?_ ?_, meas_L hc1_⟩
    ·cbv; all_goals exact ⟨⟨_, rfl, rfl⟩, ⟨_, rfl, rfl⟩, ⟨_, rfl, rfl⟩, ⟨_, rfl, rfl⟩, ⟨_, rfl, rfl⟩, ⟨_, rfl, rfl⟩, ⟨_, rfl, rfl⟩, ⟨_, rfl, rfl⟩, ⟨_, rfl, rfl⟩, trivial⟩
    cbv; all_goals exact ⟨⟨_, rfl, _, rfl, rfl, rfl, rfl, trivial⟩, ⟨_, rfl, rfl⟩, trivial⟩
   rw [br_true hb5] at h_1; cbv; obtain ⟨hc6, h_1⟩ := of_gd h_1; refine AStep.mk hc6 ?_; cbv; refine AGet.mk _ (d_get_I64 hg ht hx8) ?_; cbv; obtain ⟨l2, hl2, h_1⟩ := of_lP h_1; try dsimp only at h_1
   refine ANew.mk (d_I64 l2) _ (by rw [← hl2]; exact dset_I64 hg ht _ _ x7) rfl ?_; have hnl2 : (dlen (d_I64 w1)) = (d_I64 l2).length := (by rw [← hl2, dsetl_I64 ht]; exact (dlen_I64 hg ht _)); cbv; try rw [hg] at h_1
   try rw [ht] at h_1
   refine ⟨⟨(k1 + 1, (wrap .i64 (add v1 1)), l2), hc1_, hs1, h_1⟩, Wk.of [(0, some 0), (1, some 1)] rfl rfl ?_ ?_, meas_L hc1_⟩
   ·cbv; all_goals try rw [show (dlen (d_I64 w1)) = (dlen (d_I64 l2)) from (hnl2).trans (dlen_I64 hg ht _).symm]
    all_goals exact ⟨⟨_, rfl, rfl⟩, ⟨_, rfl, rfl⟩, ⟨_, rfl, rfl⟩, ⟨_, rfl, rfl⟩, ⟨_, rfl, rfl⟩, ⟨_, rfl, rfl⟩, ⟨_, rfl, rfl⟩, ⟨_, rfl, rfl⟩, ⟨_, rfl, rfl⟩, trivial⟩
   cbv; all_goals try rw [show (dlen (d_I64 w1)) = (dlen (d_I64 l2)) from (hnl2).trans (dlen_I64 hg ht _).symm]
   all_goals exact ⟨⟨_, rfl, _, rfl, rfl, rfl, rfl, trivial⟩, ⟨_, rfl, rfl⟩, trivial⟩
  have hb1 : lt v1 (llen (r_Leg a0_Legs)) = false := ltL_false_Leg hg ht hi1 hc1_; rw [List.drop_of_length_le (Nat.le_of_not_lt hc1_)] at h_1; rw [S_l6Round_l1] at h_1; try rw [← hg] at h_1
  try rw [← ht] at h_1
  try dsimp only at h_1
  rw [hb1]; cbv; refine ⟨w1, Wk.of [(0, some 1)] rfl rfl ?_ ?_, (Option.some.inj h_1).symm⟩
  ·cbv; all_goals exact ⟨⟨_, rfl, rfl⟩, trivial⟩
  cbv; all_goals exact ⟨⟨_, rfl, rfl⟩, trivial⟩
 rintro y1 hy1; replace hy1 := hy1.symm; subst hy1; try dsimp only [lr, lrL, lrp, lrpL] at h
 cbv; obtain rfl := Option.some.inj h; exact ARet.mk ⟨rfl, (dlen_I64 hg ht _)⟩ hX.symm
def ir15 : J := .seq (.reg none [⟨some 7, none, .box (.t 0)⟩,⟨some 14, none, .mv (.k (.c (.n 1)))⟩] [1, 2, 3, 4, 5, 6, 7]) (.seq (.reg none [⟨some 19, none, .ld true 3 (.t 7)⟩,⟨some 20, none, .call 46 true [(.t 19)]⟩,⟨some 15, none, .mv (.t 20)⟩] [1, 2, 3, 4, 5, 6, 7, 15]) (.seq (.reg none [⟨some 21, none, .mv (.t 15)⟩,⟨some 22, none, .mv (.t 3)⟩,⟨some 23, none, .call 47 true [(.t 21), (.t 22)]⟩,⟨some 16, none, .mv (.t 23)⟩] [1, 2, 4, 5, 6, 7, 15, 16]) (.seq (.seq (.reg none [⟨some 24, none, .ld true 3 (.t 7)⟩,⟨some 25, none, .mv (.t 1)⟩,⟨some 26, none, .call 48 true [(.t 24), (.t 25)]⟩,⟨some 27, none, .not (.t 26)⟩,⟨some 28, none, .mv (.t 27)⟩,⟨some 29, (some (28, false)), .mv (.t 16)⟩,⟨some 30, (some (28, false)), .bin .lss .i (.t 29) (.k (V.i 0))⟩,⟨some 31, none, .pick (.t 28) (.k (V.b true)) (.t 30)⟩,⟨some 32, none, .mv (.t 31)⟩,⟨some 33, (some (32, false)), .mv (.t 4)⟩,⟨some 34, (some (32, false)), .bin .gtr .i (.t 33) (.k (V.i 100000))⟩,⟨some 35, none, .pick (.t 32) (.k (V.b true)) (.t 34)⟩,⟨some 36, none, .mv (.t 35)⟩,⟨some 37, (some (36, false)), .mv (.t 5)⟩,⟨some 38, (some (36, false)), .bin .lss .i (.t 37) (.k (V.i 1))⟩,⟨some 39, none, .pick (.t 36) (.k (V.b true)) (.t 38)⟩,⟨some 40, none, .mv (.t 39)⟩,⟨some 41, (some (40, false)), .mv (.t 6)⟩,⟨some 42, (some (40, false)), .bin .lss .i (.t 41) (.k (V.i 0))⟩,⟨some 43, none, .pick (.t 40) (.k (V.b true)) (.t 42)⟩] [1, 2, 4, 5, 6, 7, 15, 16, 43]) (.cond (.t 43) (.seq (.reg none [⟨some 44, none, .bsl 1 []⟩,⟨some 14, none, .mv (.t 44)⟩] [14]) (.ret)) (.skip))) (.seq (.reg none [⟨some 45, none, .mv (.t 15)⟩,⟨some 46, none, .mv (.t 16)⟩,⟨some 47, none, .mv (.t 4)⟩,⟨some 48, none, .call 49 true [(.t 45), (.t 46), (.t 47)]⟩,⟨some 17, none, .mv (.t 48)⟩] [1, 2, 5, 6, 7, 15, 16, 17]) (.seq (.seq (.reg none [⟨some 18, none, .mv (.k (V.i 0))⟩] [1, 2, 5, 6, 7, 15, 16, 17, 18]) (.bl 0 (.seq (.seq (.reg none [⟨some 49, none, .mv (.t 18)⟩,⟨some 50, none, .mv (.t 6)⟩,⟨some 51, none, .bin .lss .i (.t 49) (.t 50)⟩,⟨some 52, none, .mv (.t 51)⟩,⟨some 53, (some (52, true)), .mv (.t 18)⟩,⟨some 54, (some (52, true)), .mv (.t 15)⟩,⟨some 55, (some (52, true)), .len false (.t 54)⟩,⟨some 56, (some (52, true)), .bin .lss .i (.t 53) (.t 55)⟩,⟨some 57, none, .pick (.t 52) (.t 56) (.k (V.b false))⟩] [1, 2, 5, 6, 7, 15, 16, 17, 18, 57]) (.cond (.t 57) (.skip) (.exit 0))) (.seq (.block 1 (.reg none [⟨some 60, none, .ld true 3 (.t 7)⟩,⟨some 61, none, .mv (.t 1)⟩,⟨some 62, none, .mv (.t 2)⟩,⟨some 63, none, .mv (.t 5)⟩,⟨some 64, none, .mv (.t 15)⟩,⟨some 65, none, .mv (.t 17)⟩,⟨some 66, none, .mv (.t 16)⟩,⟨some 67, none, .call 50 true [(.t 60), (.t 61), (.t 62), (.t 63), (.t 64), (.t 65), (.t 66)]⟩,⟨some 17, none, .mv (.t 67)⟩] [1, 2, 5, 6, 7, 15, 16, 17, 18])) (.reg none [⟨some 58, none, .mv (.t 18)⟩,⟨some 59, none, .bin .add .i (.t 58) (.k (V.i 1))⟩,⟨some 18, none, .mv (.t 59)⟩] [1, 2, 5, 6, 7, 15, 16, 17, 18]))))) (.seq (.reg none [⟨some 68, none, .mv (.t 17)⟩,⟨some 14, none, .mv (.t 68)⟩] [14]) (.ret)))))))
def rv15 : List RV := [.t 14]
def S_BestFree_l1 (g : G) (t : TE) (a0 : Network) (a1 : List Booking) (a2 : List Trip) (a5 : Int) (x1 : List ByteArray) (x2 : Int) : Nat → Int → List Int → Option (List Int)
  | 0, v1, w1 =>
    some w1
  | n1 + 1, v1, w1 =>
    br (g.lt v1 (g.int (g.dlen (t.d_S x1))))
    (
     cl (S_l6Round g t a0 a1 a2 a5 x1 w1 x2) fun x5 =>
     S_BestFree_l1 g t a0 a1 a2 a5 x1 x2 n1 (g.wrap .i64 (g.add v1 1)) x5)
    (
     some w1)
def S_BestFree (g : G) (t : TE) (a0 : Network) (a1 : List Booking) (a2 : List Trip) (a3 : ByteArray) (a4 : Int) (a5 : Int) (a6 : Int) : Option (List Int) :=
  cl (S_PlacesOf g t a0) fun x1 =>
  lP (S_l4Index g t x1 a3) fun x2 =>
  cl (S_AreBookings g t a0 a1) fun x3 =>
  br x3
  (
   br (g.lt x2 0)
   (
    lP ([]) fun (l1 : List Int) =>
    some l1)
   (
    br (g.lt 100000 a4)
    (
     lP ([]) fun (l2 : List Int) =>
     some l2)
    (
     br (g.lt a5 1)
     (
      lP ([]) fun (l3 : List Int) =>
      some l3)
     (
      br (g.lt a6 0)
      (
       lP ([]) fun (l4 : List Int) =>
       some l4)
      (
       cl (S_l4First g t x1 x2 a4) fun x4 =>
       gd ((a6 ≤ 9223372036854775807)) <|
       cl (S_BestFree_l1 g t a0 a1 a2 a5 x1 x2 (cntLt 0 a6) 0 x4) fun y1 =>
       some y1)))))
  (
   lP ([]) fun (l5 : List Int) =>
   some l5)
theorem c_S_BestFree {g : G} {t : TE} {a0 : Network} {a1 : List Booking} {a2 : List Trip} {a3 : ByteArray} {a4 : Int} {a5 : Int} {a6 : Int} {r : List Int} (hg : g = G.real) (ht : t = TE.real) (h : S_BestFree g t a0 a1 a2 a3 a4 a5 a6 = some r) : Fn Try.prog 15 [.g (Network.rs t a0), .c (.s 4 (t.r_Booking a1)), .c (.s 2 (t.r_Trip a2)), .c (.v (.string a3)), .c (.v (.int .i64 a4)), .c (.v (.int .i64 a5)), .c (.v (.int .i64 a6))] (.c (.o 1 (t.d_I64 r))) := by
 obtain ⟨X, hX⟩ := hide (.c (.o 1 (t.d_I64 r)) : X); rw [← hX]; refine fn_of (rvs := rv15) (j := ir15) Try.func15 rfl (by kernel_rfl) (Nat.le_of_ble_eq_true rfl) (by kernel_rfl) prog_mixed ?_; intro g2 F hg2 hF; obtain rfl : g2 = g := hg2.unique.trans hg.symm; clear hg2; obtain ⟨wrap, lt, _, _, _, _, _, _, _, _, _, _, int, add, _, _, _, _, _, _, _, _, _, _, dlen, _, _, _, rd, _, _, _, _, _, _, _, _, _, _, _, _, _, _, _⟩ := g2; obtain ⟨r_Leg, _, r_I64, d_I64, r_Booking, _, r_Trip, _, r_S, d_S, _, _, _, _, _⟩ := t
 obtain ⟨a0_Legs, a0_Off, a0_Change⟩ := a0; have hfr_I64 : ∀ l, freshDss (d_I64 l) = true := fresh_I64 ht; unfold S_BestFree at h; try dsimp only at h
 cbv; obtain ⟨x1, hx1, h⟩ := of_cl h; try dsimp only at h
 refine ACall.mk _ _ rfl (hF _ _ _ (c_S_PlacesOf hg ht hx1)) (.inl rfl) (Nat.le_of_ble_eq_true rfl) ?_; cbv; refine AStep.mk (lend_S ht (dlen_S hg ht _)) ?_; cbv; obtain ⟨x2, hx2, h⟩ := of_lP h; try dsimp only at h
 refine ACall.mk _ _ (by rw [show rd (d_S x1) 0 (dlen (d_S x1)) = r_S x1 from rdw_S hg ht (dlen_S hg ht _)]; try rfl) (hF _ _ _ (c_S_l4Index hg ht hx2)) (.inr rfl) (Nat.le_of_ble_eq_true rfl) ?_
 cbv; obtain ⟨x3, hx3, h⟩ := of_cl h; try dsimp only at h
 refine ACall.mk _ _ rfl (hF _ _ _ (c_S_AreBookings hg ht hx3)) (.inl rfl) (Nat.le_of_ble_eq_true rfl) ?_; cbv
 cases hb1 : x3
 ·rw [br_false hb1] at h; cbv; iterate 2 try (rw [hb1]; cbv)
  obtain ⟨l5, hl5, h⟩ := of_lP h; try dsimp only at h
  refine ANew.mk (d_I64 l5) (dlen (d_I64 l5)) (by rw [← hl5]; exact lit_I64 hg ht []) (by rw [← hl5]; exact litn_I64 hg ht []) ?_; cbv; obtain rfl := Option.some.inj h; exact ARet.mk ⟨rfl, (dlen_I64 hg ht _)⟩ hX.symm
 rw [br_true hb1] at h; cbv; iterate 2 try (rw [hb1]; cbv)
 cases hb2 : (lt x2 0)
 rotate_left
 ·rw [br_true hb2] at h; cbv; iterate 2 try (rw [hb2]; cbv)
  obtain ⟨l1, hl1, h⟩ := of_lP h; try dsimp only at h
  refine ANew.mk (d_I64 l1) (dlen (d_I64 l1)) (by rw [← hl1]; exact lit_I64 hg ht []) (by rw [← hl1]; exact litn_I64 hg ht []) ?_; cbv; obtain rfl := Option.some.inj h; exact ARet.mk ⟨rfl, (dlen_I64 hg ht _)⟩ hX.symm
 rw [br_false hb2] at h; cbv; iterate 2 try (rw [hb2]; cbv)
 cases hb3 : (lt 100000 a4)
 rotate_left
 ·rw [br_true hb3] at h; cbv; iterate 2 try (rw [hb3]; cbv)
  obtain ⟨l2, hl2, h⟩ := of_lP h; try dsimp only at h
  refine ANew.mk (d_I64 l2) (dlen (d_I64 l2)) (by rw [← hl2]; exact lit_I64 hg ht []) (by rw [← hl2]; exact litn_I64 hg ht []) ?_; cbv; obtain rfl := Option.some.inj h; exact ARet.mk ⟨rfl, (dlen_I64 hg ht _)⟩ hX.symm
 rw [br_false hb3] at h; cbv; iterate 2 try (rw [hb3]; cbv)
 cases hb4 : (lt a5 1)
 rotate_left
 ·rw [br_true hb4] at h; cbv; iterate 2 try (rw [hb4]; cbv)
  obtain ⟨l3, hl3, h⟩ := of_lP h; try dsimp only at h
  refine ANew.mk (d_I64 l3) (dlen (d_I64 l3)) (by rw [← hl3]; exact lit_I64 hg ht []) (by rw [← hl3]; exact litn_I64 hg ht []) ?_; cbv; obtain rfl := Option.some.inj h; exact ARet.mk ⟨rfl, (dlen_I64 hg ht _)⟩ hX.symm
 rw [br_false hb4] at h; cbv; iterate 2 try (rw [hb4]; cbv)
 cases hb5 : (lt a6 0)
 rotate_left
 ·rw [br_true hb5] at h; cbv; obtain ⟨l4, hl4, h⟩ := of_lP h; try dsimp only at h
  refine ANew.mk (d_I64 l4) (dlen (d_I64 l4)) (by rw [← hl4]; exact lit_I64 hg ht []) (by rw [← hl4]; exact litn_I64 hg ht []) ?_; cbv; obtain rfl := Option.some.inj h; exact ARet.mk ⟨rfl, (dlen_I64 hg ht _)⟩ hX.symm
 rw [br_false hb5] at h; cbv; refine AStep.mk (lend_S ht (dlen_S hg ht _)) ?_; cbv; obtain ⟨x4, hx4, h⟩ := of_cl h; try dsimp only at h
 refine ACall.mk _ _ (by rw [show rd (d_S x1) 0 (dlen (d_S x1)) = r_S x1 from rdw_S hg ht (dlen_S hg ht _)]; try rfl) (hF _ _ _ (c_S_l4First hg ht hx4)) (.inr (by simp only [Go.Vs.X.fresh, Go.Vs.X.freshs, freshD, freshDs, Bool.and_self, hfr_I64])) (Nat.le_of_ble_eq_true rfl) ?_
 cbv; obtain ⟨hB1, h⟩ := of_gd h; obtain ⟨o1, ho1, h⟩ := of_cl h; try dsimp only at h
 try rw [hg] at ho1
 try rw [ht] at ho1
 refine ABL.mk { p : Nat × Int × List Int // p.1 = cntLt p.2.1 a6 ∧ 0 ≤ p.2.1 ∧ S_BestFree_l1 G.real TE.real (Network.mk a0_Legs a0_Off a0_Change) a1 a2 a5 x1 x2 p.1 p.2.1 p.2.2 = some o1 } (fun ⟨⟨n1, v1, w1⟩, _⟩ => ({ sl := [(1, .c (.r (.s 4 (r_Booking a1)))), (2, .c (.r (.s 2 (r_Trip a2)))), (5, .c (.r (.v (.int .i64 a5)))), (6, .c (.r (.v (.int .i64 a6)))), (7, .c (.p 0 3 0 0)), (15, .c (.f 1 1 0 (dlen (d_S x1)))), (16, .c (.r (.v (.int .i64 x2)))), (17, .c (.f 2 1 0 (dlen (d_I64 w1)))), (18, .c (.r (.v (.int .i64 v1))))], tab := [(0, some (.foc 3 [] [.r (.s 6 (r_Leg a0_Legs)), .r (.s 1 (r_I64 a0_Off)), .r (.v (.int .i64 a0_Change))] [])), (1, some (.arr 1 (d_S x1))), (2, some (.arr 1 (d_I64 w1)))] } : St)) 3 (fun p => p.1.1) ⟨(cntLt 0 a6, 0, x4), rfl, Int.le_refl _, ho1⟩ (List Int) (fun y1 => ({ sl := [(17, .c (.f 0 1 0 (dlen (d_I64 y1))))], tab := [(0, some (.arr 1 (d_I64 y1)))] } : St)) 1 (fun y => o1 = y) ?_ ?_ ?_
 ·refine Wk.of [(0, some 0), (1, some 48), (2, some 512)] rfl rfl ?_ ?_
  ·cbv; all_goals exact ⟨⟨_, rfl, rfl⟩, ⟨_, rfl, rfl⟩, ⟨_, rfl, rfl⟩, ⟨_, rfl, rfl⟩, ⟨_, rfl, rfl⟩, ⟨_, rfl, rfl⟩, ⟨_, rfl, rfl⟩, ⟨_, rfl, rfl⟩, ⟨_, rfl, rfl⟩, trivial⟩
  cbv; all_goals exact ⟨⟨_, rfl, _, rfl, rfl, rfl, rfl, trivial⟩, ⟨_, rfl, rfl⟩, ⟨_, rfl, rfl⟩, trivial⟩
 ·rintro ⟨⟨n1, v1, w1⟩, hn1, hi1, h_1⟩ hq1; try dsimp only at hn1 hi1 h_1
  clear hq1; cbv; rcases n1 with _ | n1
  ·have hb6 : lt v1 a6 = false := ltC_false hg hn1; rw [S_BestFree_l1] at h_1; try rw [← hg] at h_1
   try rw [← ht] at h_1
   try dsimp only at h_1
   rw [hb6]; cbv; iterate 4 try (rw [hb6]; cbv)
   refine ⟨w1, Wk.of [(0, some 2)] rfl rfl ?_ ?_, (Option.some.inj h_1).symm⟩
   ·cbv; all_goals exact ⟨⟨_, rfl, rfl⟩, trivial⟩
   cbv; all_goals exact ⟨⟨_, rfl, rfl⟩, trivial⟩
  have hb6 : lt v1 a6 = true := ltC_true hg hn1; have hl1 := ltC_le hn1; have hs1 := stepltC hg hn1 hi1 hB1 (by decide); rw [S_BestFree_l1] at h_1; try rw [← hg] at h_1
  try rw [← ht] at h_1
  try dsimp only at h_1
  rw [hb6]; cbv; iterate 4 try (rw [hb6]; cbv)
  cases hb7 : (lt v1 (int (dlen (d_S x1))))
  ·rw [br_false hb7] at h_1; cbv; refine ⟨w1, Wk.of [(0, some 2)] rfl rfl ?_ ?_, (Option.some.inj h_1).symm⟩
   ·cbv; all_goals exact ⟨⟨_, rfl, rfl⟩, trivial⟩
   cbv; all_goals exact ⟨⟨_, rfl, rfl⟩, trivial⟩
  rw [br_true hb7] at h_1; cbv; refine AStep.mk ⟨(lend_S ht (dlen_S hg ht _)), (lend_I64 ht (dlen_I64 hg ht _))⟩ ?_; cbv; obtain ⟨x5, hx5, h_1⟩ := of_cl h_1; try dsimp only at h_1
  refine ACall.mk _ _ (by rw [show rd (d_S x1) 0 (dlen (d_S x1)) = r_S x1 from rdw_S hg ht (dlen_S hg ht _), show rd (d_I64 w1) 0 (dlen (d_I64 w1)) = r_I64 w1 from rdw_I64 hg ht (dlen_I64 hg ht _)]; try rfl) (hF _ _ _ (c_S_l6Round hg ht hx5)) (.inr (by simp only [Go.Vs.X.fresh, Go.Vs.X.freshs, freshD, freshDs, Bool.and_self, hfr_I64])) (Nat.le_of_ble_eq_true rfl) ?_
  cbv; try rw [hg] at h_1
  try rw [ht] at h_1
  refine ⟨⟨(n1, (wrap .i64 (add v1 1)), x5), hs1.1, hs1.2, h_1⟩, Wk.of [(0, some 0), (1, some 1), (2, some 259)] rfl rfl ?_ ?_, Nat.lt_succ_self _⟩
  ·cbv; all_goals exact ⟨⟨_, rfl, rfl⟩, ⟨_, rfl, rfl⟩, ⟨_, rfl, rfl⟩, ⟨_, rfl, rfl⟩, ⟨_, rfl, rfl⟩, ⟨_, rfl, rfl⟩, ⟨_, rfl, rfl⟩, ⟨_, rfl, rfl⟩, ⟨_, rfl, rfl⟩, trivial⟩
  cbv; all_goals exact ⟨⟨_, rfl, _, rfl, rfl, rfl, rfl, trivial⟩, ⟨_, rfl, rfl⟩, ⟨_, rfl, rfl⟩, trivial⟩
 rintro y1 hy1; replace hy1 := hy1.symm; subst hy1; try dsimp only [lr, lrL, lrp, lrpL] at h
 cbv; obtain rfl := Option.some.inj h; exact ARet.mk ⟨rfl, (dlen_I64 hg ht _)⟩ hX.symm
def ir39 : J := .seq (.reg none [⟨some 1, none, .box (.t 0)⟩,⟨some 2, none, .alloc [.r (.v (.int .i64 0)), .r (.v (.int .i64 0))]⟩] [1, 2]) (.seq (.reg none [⟨some 3, none, .alloc [.r (.v (.int .i64 0)), .r (.v (.int .i64 0))]⟩] [1, 2, 3]) (.seq (.reg none [⟨some 4, none, .fa 0 (.t 1)⟩,⟨some 5, none, .ld false 1 (.t 4)⟩,⟨some 6, none, .fa 0 (.t 3)⟩,⟨none, none, .st 1 (.t 6) (.t 5)⟩] [1, 2, 3]) (.seq (.reg none [⟨some 7, none, .fa 1 (.t 1)⟩,⟨some 8, none, .ld false 1 (.t 7)⟩,⟨some 9, none, .fa 1 (.t 3)⟩,⟨none, none, .st 1 (.t 9) (.t 8)⟩] [2, 3]) (.seq (.reg none [⟨some 10, none, .ld true 2 (.t 3)⟩,⟨none, none, .st 2 (.t 2) (.t 10)⟩] [2]) (.ret)))))
def rv39 : List RV := [.c 2 true 2]
def L_toTrip (g : G) (t : TE) (a0 : Trip) : Trip :=
  a0
theorem c_L_toTrip {g : G} {t : TE} {a0 : Trip} {r : Trip} (hg : g = G.real) (ht : t = TE.real) (h : L_toTrip g t a0 = r) : Fn Try.prog 39 [.g (Trip.rs t a0)] (.g (Trip.ds t r)) := by
 obtain ⟨X, hX⟩ := hide (.g (Trip.ds t r) : X); rw [← hX]; refine fn_of (rvs := rv39) (j := ir39) Try.func39 rfl (by kernel_rfl) (Nat.le_of_ble_eq_true rfl) (by kernel_rfl) prog_mixed ?_; intro g2 F hg2 hF; obtain rfl : g2 = g := hg2.unique.trans hg.symm; clear hg2; obtain ⟨_, _, _, _, _, _, _, _, _, _, _, _, _, _, _, _, _, _, _, _, _, _, _, _, _, _, _, _, _, _, _, _, _, _, _, _, _, _, _, _, _, _, _, _⟩ := g2; obtain ⟨_, _, _, _, _, _, _, _, _, _, _, _, _, _, _⟩ := t
 obtain ⟨a0_Leg, a0_Day⟩ := a0; unfold L_toTrip at h; try dsimp only at h
 cbv; subst h; exact ARet.mk trivial hX.symm
def ir51 : J := .seq (.reg none [⟨some 1, none, .box (.t 0)⟩,⟨some 2, none, .alloc [.r (.v (.int .i64 0)), .r (.v (.int .i64 0)), .r (.v (.int .i64 0)), .r (.v (.int .i64 0))]⟩] [1, 2]) (.seq (.reg none [⟨some 3, none, .alloc [.r (.v (.int .i64 0)), .r (.v (.int .i64 0)), .r (.v (.int .i64 0)), .r (.v (.int .i64 0))]⟩] [1, 2, 3]) (.seq (.reg none [⟨some 4, none, .fa 0 (.t 1)⟩,⟨some 5, none, .ld false 1 (.t 4)⟩,⟨some 6, none, .fa 0 (.t 3)⟩,⟨none, none, .st 1 (.t 6) (.t 5)⟩] [1, 2, 3]) (.seq (.reg none [⟨some 7, none, .fa 1 (.t 1)⟩,⟨some 8, none, .ld true 2 (.t 7)⟩,⟨some 9, none, .call 39 true [(.t 8)]⟩,⟨some 10, none, .fa 1 (.t 3)⟩,⟨none, none, .st 2 (.t 10) (.t 9)⟩] [1, 2, 3]) (.seq (.reg none [⟨some 11, none, .fa 3 (.t 1)⟩,⟨some 12, none, .ld false 1 (.t 11)⟩,⟨some 13, none, .fa 3 (.t 3)⟩,⟨none, none, .st 1 (.t 13) (.t 12)⟩] [2, 3]) (.seq (.reg none [⟨some 14, none, .ld true 4 (.t 3)⟩,⟨none, none, .st 4 (.t 2) (.t 14)⟩] [2]) (.ret))))))
def rv51 : List RV := [.c 2 true 4]
def L_toBooking (g : G) (t : TE) (a0 : Booking) : Booking :=
  lP (L_toTrip g t (Trip.mk a0.Trip.Leg a0.Trip.Day)) fun x1 =>
  (Booking.mk a0.Thing x1 a0.Weight)
theorem c_L_toBooking {g : G} {t : TE} {a0 : Booking} {r : Booking} (hg : g = G.real) (ht : t = TE.real) (h : L_toBooking g t a0 = r) : Fn Try.prog 51 [.g (Booking.rs t a0)] (.g (Booking.ds t r)) := by
 obtain ⟨X, hX⟩ := hide (.g (Booking.ds t r) : X); rw [← hX]; refine fn_of (rvs := rv51) (j := ir51) Try.func51 rfl (by kernel_rfl) (Nat.le_of_ble_eq_true rfl) (by kernel_rfl) prog_mixed ?_; intro g2 F hg2 hF; obtain rfl : g2 = g := hg2.unique.trans hg.symm; clear hg2; obtain ⟨_, _, _, _, _, _, _, _, _, _, _, _, _, _, _, _, _, _, _, _, _, _, _, _, _, _, _, _, _, _, _, _, _, _, _, _, _, _, _, _, _, _, _, _⟩ := g2; obtain ⟨_, _, _, _, _, _, _, _, _, _, _, _, _, _, _⟩ := t
 obtain ⟨a0_Thing, ⟨a0_Trip_Leg, a0_Trip_Day⟩, a0_Weight⟩ := a0; unfold L_toBooking at h; try dsimp only at h
 cbv; obtain ⟨x1, hx1, h⟩ := of_lP h; obtain ⟨x1_Leg, x1_Day⟩ := x1; try dsimp only at h
 refine ACall.mk _ _ rfl (hF _ _ _ (c_L_toTrip hg ht hx1)) (.inl rfl) (Nat.le_of_ble_eq_true rfl) ?_; cbv; subst h; exact ARet.mk trivial hX.symm
def ir16 : J := .seq (.reg none [⟨some 2, none, .mv (.k (.c (.n 4)))⟩] [0]) (.seq (.reg none [⟨some 5, none, .mv (.t 0)⟩,⟨some 6, none, .len false (.t 5)⟩,⟨some 7, none, .mk 4 32 [.r (.v (.int .i64 0)), .r (.v (.int .i64 0)), .r (.v (.int .i64 0)), .r (.v (.int .i64 0))] (.t 6)⟩,⟨some 3, none, .mv (.t 7)⟩] [0, 3]) (.seq (.seq (.reg none [⟨some 4, none, .mv (.k (V.i 0))⟩] [0, 3, 4]) (.bl 0 (.seq (.seq (.reg none [⟨some 8, none, .mv (.t 4)⟩,⟨some 9, none, .mv (.t 0)⟩,⟨some 10, none, .len false (.t 9)⟩,⟨some 11, none, .bin .lss .i (.t 8) (.t 10)⟩] [0, 3, 4, 11]) (.cond (.t 11) (.skip) (.exit 0))) (.seq (.block 1 (.reg none [⟨some 14, none, .mv (.t 3)⟩,⟨some 15, none, .mv (.t 4)⟩,⟨some 16, none, .mv (.t 0)⟩,⟨some 17, none, .mv (.t 4)⟩,⟨some 18, none, .ia 4 (.t 16) (.t 17)⟩,⟨some 19, none, .ld true 4 (.t 18)⟩,⟨some 20, none, .call 51 true [(.t 19)]⟩,⟨some 21, none, .ia 4 (.t 14) (.t 15)⟩,⟨none, none, .st 4 (.t 21) (.t 20)⟩] [0, 3, 4])) (.reg none [⟨some 12, none, .mv (.t 4)⟩,⟨some 13, none, .bin .add .i (.t 12) (.k (V.i 1))⟩,⟨some 4, none, .mv (.t 13)⟩] [0, 3, 4]))))) (.seq (.reg none [⟨some 22, none, .mv (.t 3)⟩,⟨some 2, none, .mv (.t 22)⟩] [2]) (.ret))))
def rv16 : List RV := [.t 2]
def L_toBookingS_l1 (g : G) (t : TE) : List Booking → Int → List Booking → Option (List Booking)
  | [], v1, w1 =>
    some w1
  | z1 :: ls1, v1, w1 =>
    lP (L_toBooking g t (Booking.mk z1.Thing (Trip.mk z1.Trip.Leg z1.Trip.Day) z1.Weight)) fun x1 =>
    gd (((0 : Int) ≤ v1 ∧ v1 < (((g.dlen (t.d_Booking w1)) : Nat) : Int))) <|
    gt w1 (g.nat v1) fun x2 =>
    lP (List.set w1 (g.nat v1) (Booking.mk x1.Thing (Trip.mk x1.Trip.Leg x1.Trip.Day) x1.Weight)) fun (l2 : List Booking) =>
    L_toBookingS_l1 g t ls1 (g.wrap .i64 (g.add v1 1)) l2
def L_toBookingS (g : G) (t : TE) (a0 : List Booking) : Option (List Booking) :=
  gd (((0 : Int) ≤ (g.llen (t.r_Booking a0)) ∧ 32 * (g.llen (t.r_Booking a0)) ≤ 70368744177664 ∧ (g.llen (t.r_Booking a0)) ≤ 4611686018427387904)) <|
  lP (List.replicate (g.nat (g.llen (t.r_Booking a0))) (Booking.mk 0 (Trip.mk 0 0) 0)) fun (l1 : List Booking) =>
  cl (L_toBookingS_l1 g t a0 0 l1) fun y1 =>
  some y1
theorem c_L_toBookingS {g : G} {t : TE} {a0 : List Booking} {r : List Booking} (hg : g = G.real) (ht : t = TE.real) (h : L_toBookingS g t a0 = some r) : Fn Try.prog 16 [.c (.s 4 (t.r_Booking a0))] (.c (.o 4 (t.d_Booking r))) := by
 obtain ⟨X, hX⟩ := hide (.c (.o 4 (t.d_Booking r)) : X); rw [← hX]; refine fn_of (rvs := rv16) (j := ir16) Try.func16 rfl (by kernel_rfl) (Nat.le_of_ble_eq_true rfl) (by kernel_rfl) prog_mixed ?_; intro g2 F hg2 hF; obtain rfl : g2 = g := hg2.unique.trans hg.symm; clear hg2; obtain ⟨wrap, lt, _, _, _, _, _, _, _, _, _, _, _, add, _, _, _, _, _, _, _, llen, _, _, dlen, _, _, _, _, _, _, _, _, _, _, _, _, _, _, _, _, _, _, _⟩ := g2; obtain ⟨_, _, _, _, r_Booking, d_Booking, _, _, _, _, _, _, _, _, _⟩ := t
 unfold L_toBookingS at h; try dsimp only at h
 cbv; obtain ⟨hc2, h⟩ := of_gd h; refine AStep.mk (mk_ok hc2) ?_; cbv; obtain ⟨l1, hl1, h⟩ := of_lP h; try dsimp only at h
 refine ANew.mk (d_Booking l1) (dlen (d_Booking l1)) (by rw [← hl1]; exact drep_Booking hg ht _ (Booking.mk 0 (Trip.mk 0 0) 0)) (by rw [← hl1]; exact drepn_Booking hg ht _ (Booking.mk 0 (Trip.mk 0 0) 0)) ?_; cbv; obtain ⟨o1, ho1, h⟩ := of_cl h; try dsimp only at h
 try rw [hg] at ho1
 try rw [ht] at ho1
 refine ABL.mk { p : Nat × Int × List Booking // p.1 ≤ a0.length ∧ p.2.1 = ((p.1 : Nat) : Int) ∧ L_toBookingS_l1 G.real TE.real (List.drop p.1 a0) p.2.1 p.2.2 = some o1 } (fun ⟨⟨k1, v1, w1⟩, _⟩ => ({ sl := [(0, .c (.r (.s 4 (r_Booking a0)))), (3, .c (.f 0 4 0 (dlen (d_Booking w1)))), (4, .c (.r (.v (.int .i64 v1))))], tab := [(0, some (.arr 4 (d_Booking w1)))] } : St)) 1 (fun p => a0.length - p.1.1) ⟨(0, 0, l1), Nat.zero_le _, rfl, ho1⟩ (List Booking) (fun y1 => ({ sl := [(3, .c (.f 0 4 0 (dlen (d_Booking y1))))], tab := [(0, some (.arr 4 (d_Booking y1)))] } : St)) 1 (fun y => o1 = y) ?_ ?_ ?_
 ·refine Wk.of [(0, some 48)] rfl rfl ?_ ?_
  ·cbv; all_goals exact ⟨⟨_, rfl, rfl⟩, ⟨_, rfl, rfl⟩, ⟨_, rfl, rfl⟩, trivial⟩
  cbv; all_goals exact ⟨⟨_, rfl, rfl⟩, trivial⟩
 ·rintro ⟨⟨k1, v1, w1⟩, hk1, hi1, h_1⟩ hq1; have hm1 := (hq1.1 0 _ _ rfl); try dsimp only at hk1 hi1 h_1
  clear hq1; cbv
  by_cases hc1_ : k1 < a0.length
  ·have hb1 : lt v1 (llen (r_Booking a0)) = true := ltL_true_Booking hg ht hi1 hc1_; have hs1 := stepL_Booking hg ht hi1 hc1_ hm1; obtain ⟨z1, hz1⟩ := some_of_lt hc1_; rw [drop_of_some hz1] at h_1; rw [L_toBookingS_l1] at h_1; obtain ⟨z1_Thing, ⟨z1_Trip_Leg, z1_Trip_Day⟩, z1_Weight⟩ := z1; try rw [← hg] at h_1
   try rw [← ht] at h_1
   try dsimp only at h_1
   rw [hb1]; cbv; refine AStep.mk (nn_L hi1) ?_; cbv; refine AGet.mk _ (r_getL_Booking hg ht hi1 hz1) ?_; cbv; obtain ⟨x1, hx1, h_1⟩ := of_lP h_1; obtain ⟨x1_Thing, ⟨x1_Trip_Leg, x1_Trip_Day⟩, x1_Weight⟩ := x1; try dsimp only at h_1
   refine ACall.mk _ _ rfl (hF _ _ _ (c_L_toBooking hg ht hx1)) (.inl rfl) (Nat.le_of_ble_eq_true rfl) ?_; cbv; obtain ⟨hc1, h_1⟩ := of_gd h_1; refine AStep.mk hc1 ?_; cbv; obtain ⟨x2, hx2, h_1⟩ := of_gt h_1; obtain ⟨x2_Thing, ⟨x2_Trip_Leg, x2_Trip_Day⟩, x2_Weight⟩ := x2; try dsimp only at h_1
   refine AGet.mk _ (d_get_Booking hg ht hx2) ?_; cbv; obtain ⟨l2, hl2, h_1⟩ := of_lP h_1; try dsimp only at h_1
   refine ANew.mk (d_Booking l2) _ (by rw [← hl2]; exact dset_Booking hg ht _ _ (Booking.mk x1_Thing (Trip.mk x1_Trip_Leg x1_Trip_Day) x1_Weight)) rfl ?_; have hnl2 : (dlen (d_Booking w1)) = (d_Booking l2).length := (by rw [← hl2, dsetl_Booking ht]; exact (dlen_Booking hg ht _)); cbv; try rw [hg] at h_1
   try rw [ht] at h_1
   refine ⟨⟨(k1 + 1, (wrap .i64 (add v1 1)), l2), hc1_, hs1, h_1⟩, Wk.of [(0, some 0)] rfl rfl ?_ ?_, meas_L hc1_⟩
   ·cbv; all_goals try rw [show (dlen (d_Booking w1)) = (dlen (d_Booking l2)) from (hnl2).trans (dlen_Booking hg ht _).symm]
    all_goals exact ⟨⟨_, rfl, rfl⟩, ⟨_, rfl, rfl⟩, ⟨_, rfl, rfl⟩, trivial⟩
   cbv; all_goals try rw [show (dlen (d_Booking w1)) = (dlen (d_Booking l2)) from (hnl2).trans (dlen_Booking hg ht _).symm]
   all_goals exact ⟨⟨_, rfl, rfl⟩, trivial⟩
  have hb1 : lt v1 (llen (r_Booking a0)) = false := ltL_false_Booking hg ht hi1 hc1_; rw [List.drop_of_length_le (Nat.le_of_not_lt hc1_)] at h_1; rw [L_toBookingS_l1] at h_1; try rw [← hg] at h_1
  try rw [← ht] at h_1
  try dsimp only at h_1
  rw [hb1]; cbv; refine ⟨w1, Wk.of [(0, some 0)] rfl rfl ?_ ?_, (Option.some.inj h_1).symm⟩
  ·cbv; all_goals exact ⟨⟨_, rfl, rfl⟩, trivial⟩
  cbv; all_goals exact ⟨⟨_, rfl, rfl⟩, trivial⟩
 rintro y1 hy1; replace hy1 := hy1.symm; subst hy1; try dsimp only [lr, lrL, lrp, lrpL] at h
 cbv; obtain rfl := Option.some.inj h; exact ARet.mk ⟨rfl, (dlen_Booking hg ht _)⟩ hX.symm
def ir17 : J := .seq (.reg none [⟨some 2, none, .mv (.k (.c (.n 2)))⟩] [0]) (.seq (.reg none [⟨some 5, none, .mv (.t 0)⟩,⟨some 6, none, .len false (.t 5)⟩,⟨some 7, none, .mk 2 16 [.r (.v (.int .i64 0)), .r (.v (.int .i64 0))] (.t 6)⟩,⟨some 3, none, .mv (.t 7)⟩] [0, 3]) (.seq (.seq (.reg none [⟨some 4, none, .mv (.k (V.i 0))⟩] [0, 3, 4]) (.bl 0 (.seq (.seq (.reg none [⟨some 8, none, .mv (.t 4)⟩,⟨some 9, none, .mv (.t 0)⟩,⟨some 10, none, .len false (.t 9)⟩,⟨some 11, none, .bin .lss .i (.t 8) (.t 10)⟩] [0, 3, 4, 11]) (.cond (.t 11) (.skip) (.exit 0))) (.seq (.block 1 (.reg none [⟨some 14, none, .mv (.t 3)⟩,⟨some 15, none, .mv (.t 4)⟩,⟨some 16, none, .mv (.t 0)⟩,⟨some 17, none, .mv (.t 4)⟩,⟨some 18, none, .ia 2 (.t 16) (.t 17)⟩,⟨some 19, none, .ld true 2 (.t 18)⟩,⟨some 20, none, .call 39 true [(.t 19)]⟩,⟨some 21, none, .ia 2 (.t 14) (.t 15)⟩,⟨none, none, .st 2 (.t 21) (.t 20)⟩] [0, 3, 4])) (.reg none [⟨some 12, none, .mv (.t 4)⟩,⟨some 13, none, .bin .add .i (.t 12) (.k (V.i 1))⟩,⟨some 4, none, .mv (.t 13)⟩] [0, 3, 4]))))) (.seq (.reg none [⟨some 22, none, .mv (.t 3)⟩,⟨some 2, none, .mv (.t 22)⟩] [2]) (.ret))))
def rv17 : List RV := [.t 2]
def L_toTripS_l1 (g : G) (t : TE) : List Trip → Int → List Trip → Option (List Trip)
  | [], v1, w1 =>
    some w1
  | z1 :: ls1, v1, w1 =>
    lP (L_toTrip g t z1) fun x1 =>
    gd (((0 : Int) ≤ v1 ∧ v1 < (((g.dlen (t.d_Trip w1)) : Nat) : Int))) <|
    gt w1 (g.nat v1) fun x2 =>
    lP (List.set w1 (g.nat v1) (Trip.mk x1.Leg x1.Day)) fun (l2 : List Trip) =>
    L_toTripS_l1 g t ls1 (g.wrap .i64 (g.add v1 1)) l2
def L_toTripS (g : G) (t : TE) (a0 : List Trip) : Option (List Trip) :=
  gd (((0 : Int) ≤ (g.llen (t.r_Trip a0)) ∧ 16 * (g.llen (t.r_Trip a0)) ≤ 70368744177664 ∧ (g.llen (t.r_Trip a0)) ≤ 4611686018427387904)) <|
  lP (List.replicate (g.nat (g.llen (t.r_Trip a0))) (Trip.mk 0 0)) fun (l1 : List Trip) =>
  cl (L_toTripS_l1 g t a0 0 l1) fun y1 =>
  some y1
theorem c_L_toTripS {g : G} {t : TE} {a0 : List Trip} {r : List Trip} (hg : g = G.real) (ht : t = TE.real) (h : L_toTripS g t a0 = some r) : Fn Try.prog 17 [.c (.s 2 (t.r_Trip a0))] (.c (.o 2 (t.d_Trip r))) := by
 obtain ⟨X, hX⟩ := hide (.c (.o 2 (t.d_Trip r)) : X); rw [← hX]; refine fn_of (rvs := rv17) (j := ir17) Try.func17 rfl (by kernel_rfl) (Nat.le_of_ble_eq_true rfl) (by kernel_rfl) prog_mixed ?_; intro g2 F hg2 hF; obtain rfl : g2 = g := hg2.unique.trans hg.symm; clear hg2; obtain ⟨wrap, lt, _, _, _, _, _, _, _, _, _, _, _, add, _, _, _, _, _, _, _, llen, _, _, dlen, _, _, _, _, _, _, _, _, _, _, _, _, _, _, _, _, _, _, _⟩ := g2; obtain ⟨_, _, _, _, _, _, r_Trip, d_Trip, _, _, _, _, _, _, _⟩ := t
 unfold L_toTripS at h; try dsimp only at h
 cbv; obtain ⟨hc2, h⟩ := of_gd h; refine AStep.mk (mk_ok hc2) ?_; cbv; obtain ⟨l1, hl1, h⟩ := of_lP h; try dsimp only at h
 refine ANew.mk (d_Trip l1) (dlen (d_Trip l1)) (by rw [← hl1]; exact drep_Trip hg ht _ (Trip.mk 0 0)) (by rw [← hl1]; exact drepn_Trip hg ht _ (Trip.mk 0 0)) ?_; cbv; obtain ⟨o1, ho1, h⟩ := of_cl h; try dsimp only at h
 try rw [hg] at ho1
 try rw [ht] at ho1
 refine ABL.mk { p : Nat × Int × List Trip // p.1 ≤ a0.length ∧ p.2.1 = ((p.1 : Nat) : Int) ∧ L_toTripS_l1 G.real TE.real (List.drop p.1 a0) p.2.1 p.2.2 = some o1 } (fun ⟨⟨k1, v1, w1⟩, _⟩ => ({ sl := [(0, .c (.r (.s 2 (r_Trip a0)))), (3, .c (.f 0 2 0 (dlen (d_Trip w1)))), (4, .c (.r (.v (.int .i64 v1))))], tab := [(0, some (.arr 2 (d_Trip w1)))] } : St)) 1 (fun p => a0.length - p.1.1) ⟨(0, 0, l1), Nat.zero_le _, rfl, ho1⟩ (List Trip) (fun y1 => ({ sl := [(3, .c (.f 0 2 0 (dlen (d_Trip y1))))], tab := [(0, some (.arr 2 (d_Trip y1)))] } : St)) 1 (fun y => o1 = y) ?_ ?_ ?_
 ·refine Wk.of [(0, some 48)] rfl rfl ?_ ?_
  ·cbv; all_goals exact ⟨⟨_, rfl, rfl⟩, ⟨_, rfl, rfl⟩, ⟨_, rfl, rfl⟩, trivial⟩
  cbv; all_goals exact ⟨⟨_, rfl, rfl⟩, trivial⟩
 ·rintro ⟨⟨k1, v1, w1⟩, hk1, hi1, h_1⟩ hq1; have hm1 := (hq1.1 0 _ _ rfl); try dsimp only at hk1 hi1 h_1
  clear hq1; cbv
  by_cases hc1_ : k1 < a0.length
  ·have hb1 : lt v1 (llen (r_Trip a0)) = true := ltL_true_Trip hg ht hi1 hc1_; have hs1 := stepL_Trip hg ht hi1 hc1_ hm1; obtain ⟨z1, hz1⟩ := some_of_lt hc1_; rw [drop_of_some hz1] at h_1; rw [L_toTripS_l1] at h_1; obtain ⟨z1_Leg, z1_Day⟩ := z1; try rw [← hg] at h_1
   try rw [← ht] at h_1
   try dsimp only at h_1
   rw [hb1]; cbv; refine AStep.mk (nn_L hi1) ?_; cbv; refine AGet.mk _ (r_getL_Trip hg ht hi1 hz1) ?_; cbv; obtain ⟨x1, hx1, h_1⟩ := of_lP h_1; obtain ⟨x1_Leg, x1_Day⟩ := x1; try dsimp only at h_1
   refine ACall.mk _ _ rfl (hF _ _ _ (c_L_toTrip hg ht hx1)) (.inl rfl) (Nat.le_of_ble_eq_true rfl) ?_; cbv; obtain ⟨hc1, h_1⟩ := of_gd h_1; refine AStep.mk hc1 ?_; cbv; obtain ⟨x2, hx2, h_1⟩ := of_gt h_1; obtain ⟨x2_Leg, x2_Day⟩ := x2; try dsimp only at h_1
   refine AGet.mk _ (d_get_Trip hg ht hx2) ?_; cbv; obtain ⟨l2, hl2, h_1⟩ := of_lP h_1; try dsimp only at h_1
   refine ANew.mk (d_Trip l2) _ (by rw [← hl2]; exact dset_Trip hg ht _ _ (Trip.mk x1_Leg x1_Day)) rfl ?_; have hnl2 : (dlen (d_Trip w1)) = (d_Trip l2).length := (by rw [← hl2, dsetl_Trip ht]; exact (dlen_Trip hg ht _)); cbv; try rw [hg] at h_1
   try rw [ht] at h_1
   refine ⟨⟨(k1 + 1, (wrap .i64 (add v1 1)), l2), hc1_, hs1, h_1⟩, Wk.of [(0, some 0)] rfl rfl ?_ ?_, meas_L hc1_⟩
   ·cbv; all_goals try rw [show (dlen (d_Trip w1)) = (dlen (d_Trip l2)) from (hnl2).trans (dlen_Trip hg ht _).symm]
    all_goals exact ⟨⟨_, rfl, rfl⟩, ⟨_, rfl, rfl⟩, ⟨_, rfl, rfl⟩, trivial⟩
   cbv; all_goals try rw [show (dlen (d_Trip w1)) = (dlen (d_Trip l2)) from (hnl2).trans (dlen_Trip hg ht _).symm]
   all_goals exact ⟨⟨_, rfl, rfl⟩, trivial⟩
  have hb1 : lt v1 (llen (r_Trip a0)) = false := ltL_false_Trip hg ht hi1 hc1_; rw [List.drop_of_length_le (Nat.le_of_not_lt hc1_)] at h_1; rw [L_toTripS_l1] at h_1; try rw [← hg] at h_1
  try rw [← ht] at h_1
  try dsimp only at h_1
  rw [hb1]; cbv; refine ⟨w1, Wk.of [(0, some 0)] rfl rfl ?_ ?_, (Option.some.inj h_1).symm⟩
  ·cbv; all_goals exact ⟨⟨_, rfl, rfl⟩, trivial⟩
  cbv; all_goals exact ⟨⟨_, rfl, rfl⟩, trivial⟩
 rintro y1 hy1; replace hy1 := hy1.symm; subst hy1; try dsimp only [lr, lrL, lrp, lrpL] at h
 cbv; obtain rfl := Option.some.inj h; exact ARet.mk ⟨rfl, (dlen_Trip hg ht _)⟩ hX.symm
def ir70 : J := .seq (.reg none [⟨some 6, none, .mv (.k (V.b false))⟩] [0, 1, 2]) (.seq (.reg none [⟨some 7, none, .mv (.t 1)⟩,⟨some 8, none, .mv (.t 0)⟩,⟨some 9, none, .bin .leq .i (.t 7) (.t 8)⟩,⟨some 10, none, .mv (.t 9)⟩,⟨some 11, (some (10, true)), .mv (.t 0)⟩,⟨some 12, (some (10, true)), .mv (.t 2)⟩,⟨some 13, (some (10, true)), .bin .leq .i (.t 11) (.t 12)⟩,⟨some 14, none, .pick (.t 10) (.t 13) (.k (V.b false))⟩,⟨some 6, none, .mv (.t 14)⟩] [6]) (.ret))
def rv70 : List RV := [.t 6]
def I_within (g : G) (t : TE) (a0 : Int) (a1 : Int) (a2 : Int) : Bool :=
  br (g.le a1 a0)
  (
   (g.le a0 a2))
  (
   false)
theorem c_I_within {g : G} {t : TE} {a0 : Int} {a1 : Int} {a2 : Int} {r : Bool} (hg : g = G.real) (ht : t = TE.real) (h : I_within g t a0 a1 a2 = r) : Fn Try.prog 70 [.c (.v (.int .i64 a0)), .c (.v (.int .i64 a1)), .c (.v (.int .i64 a2))] (.c (.r (.v (.bool r)))) := by
 obtain ⟨X, hX⟩ := hide (.c (.r (.v (.bool r))) : X); rw [← hX]; refine fn_of (rvs := rv70) (j := ir70) Try.func70 rfl (by kernel_rfl) (Nat.le_of_ble_eq_true rfl) (by kernel_rfl) prog_mixed ?_; intro g2 F hg2 hF; obtain rfl : g2 = g := hg2.unique.trans hg.symm; clear hg2; obtain ⟨_, _, le, _, _, _, _, _, _, _, _, _, _, _, _, _, _, _, _, _, _, _, _, _, _, _, _, _, _, _, _, _, _, _, _, _, _, _, _, _, _, _, _, _⟩ := g2; obtain ⟨_, _, _, _, _, _, _, _, _, _, _, _, _, _, _⟩ := t
 unfold I_within at h; try dsimp only at h
 cbv
 cases hb1 : (le a1 a0)
 rotate_left
 ·rw [br_true hb1] at h; cbv; iterate 3 try (rw [hb1]; cbv)
  subst h; exact ARet.mk trivial hX.symm
 rw [br_false hb1] at h; cbv; iterate 3 try (rw [hb1]; cbv)
 subst h; exact ARet.mk trivial hX.symm
def ir109 : J := .seq (.reg none [⟨some 2, none, .mv (.k (V.b false))⟩] [0]) (.seq (.seq (.reg none [⟨some 3, none, .mv (.k (V.i 0))⟩] [0, 3]) (.bl 0 (.seq (.seq (.reg none [⟨some 4, none, .mv (.t 3)⟩,⟨some 5, none, .mv (.t 0)⟩,⟨some 6, none, .len true (.t 5)⟩,⟨some 7, none, .bin .lss .i (.t 4) (.t 6)⟩] [0, 3, 7]) (.cond (.t 7) (.skip) (.exit 0))) (.seq (.block 1 (.seq (.reg none [⟨some 10, none, .mv (.t 0)⟩,⟨some 11, none, .mv (.t 3)⟩,⟨some 12, none, .idx (.t 10) (.t 11)⟩,⟨some 13, none, .bin .lss .i (.t 12) (.k (.c (.r (.v (.int .u8 65)))))⟩,⟨some 14, none, .mv (.t 13)⟩,⟨some 15, (some (14, false)), .mv (.t 0)⟩,⟨some 16, (some (14, false)), .mv (.t 3)⟩,⟨some 17, (some (14, false)), .idx (.t 15) (.t 16)⟩,⟨some 18, (some (14, false)), .bin .gtr .i (.t 17) (.k (.c (.r (.v (.int .u8 90)))))⟩,⟨some 19, none, .pick (.t 14) (.k (V.b true)) (.t 18)⟩] [0, 3, 19]) (.cond (.t 19) (.seq (.reg none [⟨some 2, none, .mv (.k (V.b false))⟩] [2]) (.ret)) (.skip)))) (.reg none [⟨some 8, none, .mv (.t 3)⟩,⟨some 9, none, .bin .add .i (.t 8) (.k (V.i 1))⟩,⟨some 3, none, .mv (.t 9)⟩] [0, 3]))))) (.seq (.reg none [⟨some 20, none, .mv (.t 0)⟩,⟨some 21, none, .len true (.t 20)⟩,⟨some 22, none, .bin .eql .i (.t 21) (.k (V.i 3))⟩,⟨some 2, none, .mv (.t 22)⟩] [2]) (.ret)))
def rv109 : List RV := [.t 2]
def I_IsPlace_l1 (g : G) (t : TE) (a0 : ByteArray) : Nat → Int → LR Bool Unit
  | 0, v1 =>
    (LR.out ())
  | n1 + 1, v1 =>
    br (g.lt (g.byte a0 v1) 65)
    (
     (LR.ret false))
    (
     br (g.lt 90 (g.byte a0 v1))
     (
      (LR.ret false))
     (
      I_IsPlace_l1 g t a0 n1 (g.wrap .i64 (g.add v1 1))))
def I_IsPlace (g : G) (t : TE) (a0 : ByteArray) : Option Bool :=
  gd (((g.int (g.slen a0)) ≤ 9223372036854775807)) <|
  lP (I_IsPlace_l1 g t a0 (cntLt 0 (g.int (g.slen a0))) 0) fun o1 => lr o1 fun y1 =>
  some (g.eq (g.int (g.slen a0)) 3)
theorem c_I_IsPlace {g : G} {t : TE} {a0 : ByteArray} {r : Bool} (hg : g = G.real) (ht : t = TE.real) (h : I_IsPlace g t a0 = some r) : Fn Try.prog 109 [.c (.v (.string a0))] (.c (.r (.v (.bool r)))) := by
 obtain ⟨X, hX⟩ := hide (.c (.r (.v (.bool r))) : X); rw [← hX]; refine fn_of (rvs := rv109) (j := ir109) Try.func109 rfl (by kernel_rfl) (Nat.le_of_ble_eq_true rfl) (by kernel_rfl) prog_mixed ?_; intro g2 F hg2 hF; obtain rfl : g2 = g := hg2.unique.trans hg.symm; clear hg2; obtain ⟨wrap, lt, _, _, _, _, _, _, _, _, _, _, int, add, _, _, _, _, _, _, byte, _, _, _, _, _, _, _, _, _, _, _, _, _, _, slen, _, _, _, _, _, _, _, _⟩ := g2; obtain ⟨_, _, _, _, _, _, _, _, _, _, _, _, _, _, _⟩ := t
 unfold I_IsPlace at h; try dsimp only at h
 cbv; obtain ⟨hB1, h⟩ := of_gd h; obtain ⟨o1, ho1, h⟩ := of_lP h; try dsimp only at h
 try rw [hg] at ho1
 try rw [ht] at ho1
 refine ABL.mk { p : Nat × Int // p.1 = cntLt p.2 (int (slen a0)) ∧ 0 ≤ p.2 ∧ I_IsPlace_l1 G.real TE.real a0 p.1 p.2 = o1 } (fun ⟨⟨n1, v1⟩, _⟩ => ({ sl := [(0, .c (.r (.v (.string a0)))), (3, .c (.r (.v (.int .i64 v1))))], tab := [] } : St)) 0 (fun p => p.1.1) ⟨(cntLt 0 (int (slen a0)), 0), rfl, Int.le_refl _, ho1⟩ (Unit) (fun _ => ({ sl := [(0, .c (.r (.v (.string a0))))], tab := [] } : St)) 0 (fun y => o1 = LR.out y) ?_ ?_ ?_
 ·refine Wk.of [] rfl rfl ?_ ?_
  ·cbv; all_goals exact ⟨⟨_, rfl, rfl⟩, ⟨_, rfl, rfl⟩, trivial⟩
  cbv; all_goals exact trivial
 ·rintro ⟨⟨n1, v1⟩, hn1, hi1, h_1⟩ hq1; try dsimp only at hn1 hi1 h_1
  clear hq1; cbv; rcases n1 with _ | n1
  ·have hb1 : lt v1 (int (slen a0)) = false := ltC_false hg hn1; rw [I_IsPlace_l1] at h_1; try rw [← hg] at h_1
   try rw [← ht] at h_1
   try dsimp only at h_1
   rw [hb1]; cbv; refine ⟨(), Wk.of [] rfl rfl ?_ ?_, h_1.symm⟩
   ·cbv; all_goals exact ⟨⟨_, rfl, rfl⟩, trivial⟩
   cbv; all_goals exact trivial
  have hb1 : lt v1 (int (slen a0)) = true := ltC_true hg hn1; have hl1 := ltC_le hn1; have hs1 := stepltC hg hn1 hi1 hB1 (by decide); rw [I_IsPlace_l1] at h_1; try rw [← hg] at h_1
  try rw [← ht] at h_1
  try dsimp only at h_1
  rw [hb1]; cbv; refine AStep.mk (rg_slen hg hi1 hl1) ?_; cbv
  cases hb2 : (lt (byte a0 v1) 65)
  rotate_left
  ·rw [br_true hb2] at h_1; cbv; iterate 4 try (rw [hb2]; cbv)
   subst h_1; try dsimp only [lr, lrL, lrp, lrpL] at h
   obtain rfl := Option.some.inj h; exact ARet.mk trivial hX.symm
  rw [br_false hb2] at h_1; cbv; iterate 2 try (rw [hb2]; cbv)
  refine AStep.mk (rg_slen hg hi1 hl1) ?_; cbv; iterate 2 try (rw [hb2]; cbv)
  cases hb3 : (lt 90 (byte a0 v1))
  rotate_left
  ·rw [br_true hb3] at h_1; cbv; subst h_1; try dsimp only [lr, lrL, lrp, lrpL] at h
   obtain rfl := Option.some.inj h; exact ARet.mk trivial hX.symm
  rw [br_false hb3] at h_1; cbv; try rw [hg] at h_1
  try rw [ht] at h_1
  refine ⟨⟨(n1, (wrap .i64 (add v1 1))), hs1.1, hs1.2, h_1⟩, Wk.of [] rfl rfl ?_ ?_, Nat.lt_succ_self _⟩
  ·cbv; all_goals exact ⟨⟨_, rfl, rfl⟩, ⟨_, rfl, rfl⟩, trivial⟩
  cbv; all_goals exact trivial
 rintro _ hy1; replace hy1 := hy1.symm; subst hy1; try dsimp only [lr, lrL, lrp, lrpL] at h
 cbv; obtain rfl := Option.some.inj h; exact ARet.mk trivial hX.symm
def ir100 : J := .seq (.reg none [⟨some 1, none, .box (.t 0)⟩,⟨some 2, none, .mv (.k (V.b false))⟩] [1]) (.seq (.reg none [⟨some 3, none, .fa 0 (.t 1)⟩,⟨some 4, none, .ld false 1 (.t 3)⟩,⟨some 5, none, .call 109 true [(.t 4)]⟩,⟨some 6, none, .mv (.t 5)⟩,⟨some 7, (some (6, true)), .fa 1 (.t 1)⟩,⟨some 8, (some (6, true)), .ld false 1 (.t 7)⟩,⟨some 9, (some (6, true)), .call 109 true [(.t 8)]⟩,⟨some 10, none, .pick (.t 6) (.t 9) (.k (V.b false))⟩,⟨some 11, none, .mv (.t 10)⟩,⟨some 12, (some (11, true)), .fa 0 (.t 1)⟩,⟨some 13, (some (11, true)), .ld false 1 (.t 12)⟩,⟨some 14, (some (11, true)), .fa 1 (.t 1)⟩,⟨some 15, (some (11, true)), .ld false 1 (.t 14)⟩,⟨some 16, (some (11, true)), .bin .neq .s (.t 13) (.t 15)⟩,⟨some 17, none, .pick (.t 11) (.t 16) (.k (V.b false))⟩,⟨some 18, none, .mv (.t 17)⟩,⟨some 19, (some (18, true)), .fa 2 (.t 1)⟩,⟨some 20, (some (18, true)), .ld false 1 (.t 19)⟩,⟨some 21, (some (18, true)), .call 70 true [(.t 20), (.k (V.i 0)), (.k (V.i 1439))]⟩,⟨some 22, none, .pick (.t 18) (.t 21) (.k (V.b false))⟩,⟨some 23, none, .mv (.t 22)⟩,⟨some 24, (some (23, true)), .fa 3 (.t 1)⟩,⟨some 25, (some (23, true)), .ld false 1 (.t 24)⟩,⟨some 26, (some (23, true)), .call 70 true [(.t 25), (.k (V.i 1)), (.k (V.i 4320))]⟩,⟨some 27, none, .pick (.t 23) (.t 26) (.k (V.b false))⟩,⟨some 28, none, .mv (.t 27)⟩,⟨some 29, (some (28, true)), .fa 4 (.t 1)⟩,⟨some 30, (some (28, true)), .ld false 1 (.t 29)⟩,⟨some 31, (some (28, true)), .call 70 true [(.t 30), (.k (V.i 1)), (.k (V.i 127))]⟩,⟨some 32, none, .pick (.t 28) (.t 31) (.k (V.b false))⟩,⟨some 33, none, .mv (.t 32)⟩,⟨some 34, (some (33, true)), .fa 5 (.t 1)⟩,⟨some 35, (some (33, true)), .ld false 1 (.t 34)⟩,⟨some 36, (some (33, true)), .call 70 true [(.t 35), (.k (V.i 0)), (.k (V.i 1000000))]⟩,⟨some 37, none, .pick (.t 33) (.t 36) (.k (V.b false))⟩,⟨some 2, none, .mv (.t 37)⟩] [2]) (.ret))
def rv100 : List RV := [.t 2]
def I_IsLeg (g : G) (t : TE) (a0 : Leg) : Option Bool :=
  cl (I_IsPlace g t a0.From) fun x1 =>
  br x1
  (
   cl (I_IsPlace g t a0.To) fun x2 =>
   br x2
   (
    br (g.seq a0.From a0.To)
    (
     some false)
    (
     lP (I_within g t a0.Start 0 1439) fun x3 =>
     br x3
     (
      lP (I_within g t a0.Takes 1 4320) fun x4 =>
      br x4
      (
       lP (I_within g t a0.Days 1 127) fun x5 =>
       br x5
       (
        lP (I_within g t a0.Room 0 1000000) fun x6 =>
        some x6)
       (
        some false))
      (
       some false))
     (
      some false)))
   (
    some false))
  (
   some false)
theorem c_I_IsLeg {g : G} {t : TE} {a0 : Leg} {r : Bool} (hg : g = G.real) (ht : t = TE.real) (h : I_IsLeg g t a0 = some r) : Fn Try.prog 100 [.g (Leg.rs t a0)] (.c (.r (.v (.bool r)))) := by
 obtain ⟨X, hX⟩ := hide (.c (.r (.v (.bool r))) : X); rw [← hX]; refine fn_of (rvs := rv100) (j := ir100) Try.func100 rfl (by kernel_rfl) (Nat.le_of_ble_eq_true rfl) (by kernel_rfl) prog_mixed ?_; intro g2 F hg2 hF; obtain rfl : g2 = g := hg2.unique.trans hg.symm; clear hg2; obtain ⟨_, _, _, _, _, _, _, _, _, _, _, _, _, _, _, _, _, seq, _, _, _, _, _, _, _, _, _, _, _, _, _, _, _, _, _, _, _, _, _, _, _, _, _, _⟩ := g2; obtain ⟨_, _, _, _, _, _, _, _, _, _, _, _, _, _, _⟩ := t
 obtain ⟨a0_From, a0_To, a0_Start, a0_Takes, a0_Days, a0_Room⟩ := a0; unfold I_IsLeg at h; try dsimp only at h
 cbv; obtain ⟨x1, hx1, h⟩ := of_cl h; try dsimp only at h
 refine ACall.mk _ _ rfl (hF _ _ _ (c_I_IsPlace hg ht hx1)) (.inl rfl) (Nat.le_of_ble_eq_true rfl) ?_; cbv
 cases hb1 : x1
 ·rw [br_false hb1] at h; cbv; iterate 3 try (rw [hb1]; cbv)
  obtain rfl := Option.some.inj h; exact ARet.mk trivial hX.symm
 rw [br_true hb1] at h; cbv; iterate 2 try (rw [hb1]; cbv)
 obtain ⟨x2, hx2, h⟩ := of_cl h; try dsimp only at h
 refine ACall.mk _ _ rfl (hF _ _ _ (c_I_IsPlace hg ht hx2)) (.inl rfl) (Nat.le_of_ble_eq_true rfl) ?_; cbv; try (rw [hb1]; cbv)
 cases hb2 : x2
 ·rw [br_false hb2] at h; cbv; iterate 5 try (rw [hb2]; cbv)
  obtain rfl := Option.some.inj h; exact ARet.mk trivial hX.symm
 rw [br_true hb2] at h; cbv; iterate 5 try (rw [hb2]; cbv)
 cases hb3 : (seq a0_From a0_To)
 rotate_left
 ·rw [br_true hb3] at h; cbv; iterate 3 try (rw [hb3]; cbv)
  obtain rfl := Option.some.inj h; exact ARet.mk trivial hX.symm
 rw [br_false hb3] at h; cbv; iterate 2 try (rw [hb3]; cbv)
 obtain ⟨x3, hx3, h⟩ := of_lP h; try dsimp only at h
 refine ACall.mk _ _ rfl (hF _ _ _ (c_I_within hg ht hx3)) (.inl rfl) (Nat.le_of_ble_eq_true rfl) ?_; cbv; try (rw [hb3]; cbv)
 cases hb4 : x3
 ·rw [br_false hb4] at h; cbv; iterate 3 try (rw [hb4]; cbv)
  obtain rfl := Option.some.inj h; exact ARet.mk trivial hX.symm
 rw [br_true hb4] at h; cbv; iterate 2 try (rw [hb4]; cbv)
 obtain ⟨x4, hx4, h⟩ := of_lP h; try dsimp only at h
 refine ACall.mk _ _ rfl (hF _ _ _ (c_I_within hg ht hx4)) (.inl rfl) (Nat.le_of_ble_eq_true rfl) ?_; cbv; try (rw [hb4]; cbv)
 cases hb5 : x4
 ·rw [br_false hb5] at h; cbv; iterate 3 try (rw [hb5]; cbv)
  obtain rfl := Option.some.inj h; exact ARet.mk trivial hX.symm
 rw [br_true hb5] at h; cbv; iterate 2 try (rw [hb5]; cbv)
 obtain ⟨x5, hx5, h⟩ := of_lP h; try dsimp only at h
 refine ACall.mk _ _ rfl (hF _ _ _ (c_I_within hg ht hx5)) (.inl rfl) (Nat.le_of_ble_eq_true rfl) ?_; cbv; try (rw [hb5]; cbv)
 cases hb6 : x5
 ·rw [br_false hb6] at h; cbv; iterate 3 try (rw [hb6]; cbv)
  obtain rfl := Option.some.inj h; exact ARet.mk trivial hX.symm
 rw [br_true hb6] at h; cbv; iterate 2 try (rw [hb6]; cbv)
 obtain ⟨x6, hx6, h⟩ := of_lP h; try dsimp only at h
 refine ACall.mk _ _ rfl (hF _ _ _ (c_I_within hg ht hx6)) (.inl rfl) (Nat.le_of_ble_eq_true rfl) ?_; cbv; try (rw [hb6]; cbv)
 obtain rfl := Option.some.inj h; exact ARet.mk trivial hX.symm
def ir69 : J := .seq (.reg none [⟨some 1, none, .box (.t 0)⟩,⟨some 2, none, .mv (.k (V.b false))⟩] [1]) (.seq (.seq (.reg none [⟨some 7, none, .fa 0 (.t 1)⟩,⟨some 8, none, .ld false 1 (.t 7)⟩,⟨some 9, none, .len false (.t 8)⟩,⟨some 10, none, .mv (.k (V.i 0))⟩] [1, 8, 9, 10]) (.bl 0 (.seq (.reg none [⟨some 11, none, .bin .lss .i (.t 10) (.t 9)⟩] [1, 8, 9, 10, 11]) (.seq (.cond (.t 11) (.skip) (.exit 0)) (.seq (.block 1 (.seq (.reg none [⟨some 12, none, .ia 6 (.t 8) (.t 10)⟩,⟨some 13, none, .ld true 6 (.t 12)⟩,⟨some 4, none, .alloc [.r (.v (.string .empty)), .r (.v (.string .empty)), .r (.v (.int .i64 0)), .r (.v (.int .i64 0)), .r (.v (.int .i64 0)), .r (.v (.int .i64 0))]⟩,⟨none, none, .st 6 (.t 4) (.t 13)⟩] [1, 4, 8, 9, 10]) (.seq (.reg none [⟨some 14, none, .ld true 6 (.t 4)⟩,⟨some 15, none, .call 100 true [(.t 14)]⟩,⟨some 16, none, .not (.t 15)⟩] [1, 8, 9, 10, 16]) (.cond (.t 16) (.seq (.reg none [⟨some 2, none, .mv (.k (V.b false))⟩] [2]) (.ret)) (.skip))))) (.reg none [⟨some 17, none, .bin .add .i (.t 10) (.k (V.i 1))⟩,⟨some 10, none, .mv (.t 17)⟩] [1, 8, 9, 10])))))) (.seq (.seq (.reg none [⟨some 18, none, .fa 1 (.t 1)⟩,⟨some 19, none, .ld false 1 (.t 18)⟩,⟨some 20, none, .len false (.t 19)⟩,⟨some 21, none, .mv (.k (V.i 0))⟩] [1, 19, 20, 21]) (.bl 2 (.seq (.reg none [⟨some 22, none, .bin .lss .i (.t 21) (.t 20)⟩] [1, 19, 20, 21, 22]) (.seq (.cond (.t 22) (.skip) (.exit 2)) (.seq (.block 3 (.seq (.reg none [⟨some 23, none, .mv (.t 21)⟩,⟨some 24, none, .ia 1 (.t 19) (.t 21)⟩,⟨some 25, none, .ld false 1 (.t 24)⟩,⟨some 5, none, .mv (.t 23)⟩,⟨some 6, none, .mv (.t 25)⟩] [1, 5, 6, 19, 20, 21]) (.seq (.reg none [⟨some 26, none, .mv (.t 6)⟩,⟨some 27, none, .call 70 true [(.t 26), (.k (V.i 0)), (.k (V.i 60))]⟩,⟨some 28, none, .not (.t 27)⟩,⟨some 29, none, .mv (.t 28)⟩,⟨some 30, (some (29, false)), .mv (.t 5)⟩,⟨some 31, (some (29, false)), .bin .gtr .i (.t 30) (.k (V.i 0))⟩,⟨some 32, (some (29, false)), .mv (.t 31)⟩,⟨some 33, (some (32, true)), .fa 1 (.t 1)⟩,⟨some 34, (some (32, true)), .ld false 1 (.t 33)⟩,⟨some 35, (some (32, true)), .mv (.t 5)⟩,⟨some 36, (some (32, true)), .bin .sub .i (.t 35) (.k (V.i 1))⟩,⟨some 37, (some (32, true)), .ia 1 (.t 34) (.t 36)⟩,⟨some 38, (some (32, true)), .ld false 1 (.t 37)⟩,⟨some 39, (some (32, true)), .mv (.t 6)⟩,⟨some 40, (some (32, true)), .bin .geq .i (.t 38) (.t 39)⟩,⟨some 41, (some (29, false)), .pick (.t 32) (.t 40) (.k (V.b false))⟩,⟨some 42, none, .pick (.t 29) (.k (V.b true)) (.t 41)⟩] [1, 19, 20, 21, 42]) (.cond (.t 42) (.seq (.reg none [⟨some 2, none, .mv (.k (V.b false))⟩] [2]) (.ret)) (.skip))))) (.reg none [⟨some 43, none, .bin .add .i (.t 21) (.k (V.i 1))⟩,⟨some 21, none, .mv (.t 43)⟩] [1, 19, 20, 21])))))) (.seq (.reg none [⟨some 44, none, .fa 0 (.t 1)⟩,⟨some 45, none, .ld false 1 (.t 44)⟩,⟨some 46, none, .len false (.t 45)⟩,⟨some 47, none, .bin .leq .i (.t 46) (.k (V.i 20))⟩,⟨some 48, none, .mv (.t 47)⟩,⟨some 49, (some (48, true)), .fa 1 (.t 1)⟩,⟨some 50, (some (48, true)), .ld false 1 (.t 49)⟩,⟨some
 51, (some (48, true)), .len false (.t 50)⟩,⟨some 52, (some (48, true)), .bin .leq .i (.t 51) (.k (V.i 10))⟩,⟨some 53, none, .pick (.t 48) (.t 52) (.k (V.b false))⟩,⟨some 54, none, .mv (.t 53)⟩,⟨some 55, (some (54, true)), .fa 2 (.t 1)⟩,⟨some 56, (some (54, true)), .ld false 1 (.t 55)⟩,⟨some 57, (some (54, true)), .call 70 true [(.t 56), (.k (V.i 0)), (.k (V.i 240))]⟩,⟨some 58, none, .pick (.t 54) (.t 57) (.k (V.b false))⟩,⟨some 2, none, .mv (.t 58)⟩] [2]) (.ret))))
def rv69 : List RV := [.t 2]
def I_IsNetwork_l2 (g : G) (t : TE) (a0 : Network) : List Int → Int → Option (LR Bool Unit)
  | [], v2 =>
    some (LR.out ())
  | z2 :: ls2, v2 =>
    lP (I_within g t z2 0 60) fun x2 =>
    br x2
    (
     br (g.lt 0 v2)
     (
      gd (((0 : Int) ≤ (g.wrap .i64 (g.sub v2 1)))) <|
      gt a0.Off (g.nat (g.wrap .i64 (g.sub v2 1))) fun x3 =>
      br (g.le z2 x3)
      (
       some (LR.ret false))
      (
       I_IsNetwork_l2 g t a0 ls2 (g.wrap .i64 (g.add v2 1))))
     (
      I_IsNetwork_l2 g t a0 ls2 (g.wrap .i64 (g.add v2 1))))
    (
     some (LR.ret false))
def I_IsNetwork_l1 (g : G) (t : TE) : List Leg → Option (LR Bool Unit)
  | [] =>
    some (LR.out ())
  | z1 :: ls1 =>
    cl (I_IsLeg g t z1) fun x1 =>
    br x1
    (
     I_IsNetwork_l1 g t ls1)
    (
     some (LR.ret false))
def I_IsNetwork (g : G) (t : TE) (a0 : Network) : Option Bool :=
  cl (I_IsNetwork_l1 g t a0.Legs) fun o1 => lr o1 fun y1 =>
  cl (I_IsNetwork_l2 g t a0 a0.Off 0) fun o2 => lr o2 fun y2 =>
  br (g.le (g.llen (t.r_Leg a0.Legs)) 20)
  (
   br (g.le (g.llen (t.r_I64 a0.Off)) 10)
   (
    lP (I_within g t a0.Change 0 240) fun x4 =>
    some x4)
   (
    some false))
  (
   some false)
theorem c_I_IsNetwork {g : G} {t : TE} {a0 : Network} {r : Bool} (hg : g = G.real) (ht : t = TE.real) (h : I_IsNetwork g t a0 = some r) : Fn Try.prog 69 [.g (Network.rs t a0)] (.c (.r (.v (.bool r)))) := by
 obtain ⟨X, hX⟩ := hide (.c (.r (.v (.bool r))) : X); rw [← hX]; refine fn_of (rvs := rv69) (j := ir69) Try.func69 rfl (by kernel_rfl) (Nat.le_of_ble_eq_true rfl) (by kernel_rfl) prog_mixed ?_; intro g2 F hg2 hF; obtain rfl : g2 = g := hg2.unique.trans hg.symm; clear hg2; obtain ⟨wrap, lt, le, _, _, _, _, _, _, _, _, _, _, add, _, _, _, _, _, _, _, llen, _, _, _, _, _, _, _, _, _, _, _, _, _, _, _, _, _, _, _, _, _, _⟩ := g2; obtain ⟨r_Leg, _, r_I64, _, _, _, _, _, _, _, _, _, _, _, _⟩ := t
 obtain ⟨a0_Legs, a0_Off, a0_Change⟩ := a0; unfold I_IsNetwork at h; try dsimp only at h
 cbv; obtain ⟨o1, ho1, h⟩ := of_cl h; try dsimp only at h
 try rw [hg] at ho1
 try rw [ht] at ho1
 refine ABL.mk { p : Nat × Int // p.1 ≤ a0_Legs.length ∧ p.2 = ((p.1 : Nat) : Int) ∧ I_IsNetwork_l1 G.real TE.real (List.drop p.1 a0_Legs) = some o1 } (fun ⟨⟨k1, v1⟩, _⟩ => ({ sl := [(1, .c (.p 0 3 0 0)), (8, .c (.r (.s 6 (r_Leg a0_Legs)))), (9, .c (.r (.v (.int .i64 (llen (r_Leg a0_Legs)))))), (10, .c (.r (.v (.int .i64 v1))))], tab := [(0, some (.foc 3 [] [.r (.s 6 (r_Leg a0_Legs)), .r (.s 1 (r_I64 a0_Off)), .r (.v (.int .i64 a0_Change))] []))] } : St)) 1 (fun p => a0_Legs.length - p.1.1) ⟨(0, 0), Nat.zero_le _, rfl, ho1⟩ (Unit) (fun _ => ({ sl := [(1, .c (.p 0 3 0 0))], tab := [(0, some (.foc 3 [] [.r (.s 6 (r_Leg a0_Legs)), .r (.s 1 (r_I64 a0_Off)), .r (.v (.int .i64 a0_Change))] []))] } : St)) 1 (fun y => o1 = LR.out y) ?_ ?_ ?_
 ·refine Wk.of [(0, some 0)] rfl rfl ?_ ?_
  ·cbv; all_goals exact ⟨⟨_, rfl, rfl⟩, ⟨_, rfl, rfl⟩, ⟨_, rfl, rfl⟩, ⟨_, rfl, rfl⟩, trivial⟩
  cbv; all_goals exact ⟨⟨_, rfl, _, rfl, rfl, rfl, rfl, trivial⟩, trivial⟩
 ·rintro ⟨⟨k1, v1⟩, hk1, hi1, h_1⟩ hq1; have hm1 := (hq1.1 8 _ _ rfl); try dsimp only at hk1 hi1 h_1
  clear hq1; cbv
  by_cases hc1_ : k1 < a0_Legs.length
  ·have hb1 : lt v1 (llen (r_Leg a0_Legs)) = true := ltL_true_Leg hg ht hi1 hc1_; have hs1 := stepL_Leg hg ht hi1 hc1_ hm1; obtain ⟨z1, hz1⟩ := some_of_lt hc1_; rw [drop_of_some hz1] at h_1; rw [I_IsNetwork_l1] at h_1; obtain ⟨z1_From, z1_To, z1_Start, z1_Takes, z1_Days, z1_Room⟩ := z1; try rw [← hg] at h_1
   try rw [← ht] at h_1
   try dsimp only at h_1
   rw [hb1]; cbv; refine AStep.mk (nn_L hi1) ?_; cbv; refine AGet.mk _ (r_getL_Leg hg ht hi1 hz1) ?_; cbv; obtain ⟨x1, hx1, h_1⟩ := of_cl h_1; try dsimp only at h_1
   refine ACall.mk _ _ rfl (hF _ _ _ (c_I_IsLeg hg ht hx1)) (.inl rfl) (Nat.le_of_ble_eq_true rfl) ?_; cbv
   cases hb2 : x1
   ·rw [br_false hb2] at h_1; cbv; obtain rfl := Option.some.inj h_1; try dsimp only [lr, lrL, lrp, lrpL] at h
    obtain rfl := Option.some.inj h; exact ARet.mk trivial hX.symm
   rw [br_true hb2] at h_1; cbv; try rw [hg] at h_1
   try rw [ht] at h_1
   refine ⟨⟨(k1 + 1, (wrap .i64 (add v1 1))), hc1_, hs1, h_1⟩, Wk.of [(0, some 0)] rfl rfl ?_ ?_, meas_L hc1_⟩
   ·cbv; all_goals exact ⟨⟨_, rfl, rfl⟩, ⟨_, rfl, rfl⟩, ⟨_, rfl, rfl⟩, ⟨_, rfl, rfl⟩, trivial⟩
   cbv; all_goals exact ⟨⟨_, rfl, _, rfl, rfl, rfl, rfl, trivial⟩, trivial⟩
  have hb1 : lt v1 (llen (r_Leg a0_Legs)) = false := ltL_false_Leg hg ht hi1 hc1_; rw [List.drop_of_length_le (Nat.le_of_not_lt hc1_)] at h_1; rw [I_IsNetwork_l1] at h_1; try rw [← hg] at h_1
  try rw [← ht] at h_1
  try dsimp only at h_1
  rw [hb1]; cbv; refine ⟨(), Wk.of [(0, some 0)] rfl rfl ?_ ?_, (Option.some.inj h_1).symm⟩
  ·cbv; all_goals exact ⟨⟨_, rfl, rfl⟩, trivial⟩
  cbv; all_goals exact ⟨⟨_, rfl, _, rfl, rfl, rfl, rfl, trivial⟩, trivial⟩
 rintro _ hy1; replace hy1 := hy1.symm; subst hy1; try dsimp only [lr, lrL, lrp, lrpL] at h
 cbv; obtain ⟨o2, ho2, h⟩ := of_cl h; try dsimp only at h
 try rw [hg] at ho2
 try rw [ht] at ho2
 refine ABL.mk { p : Nat × Int // p.1 ≤ a0_Off.length ∧ p.2 = ((p.1 : Nat) : Int) ∧ I_IsNetwork_l2 G.real TE.real (Network.mk a0_Legs a0_Off a0_Change) (List.drop p.1 a0_Off) p.2 = some o2 } (fun ⟨⟨k2, v2⟩, _⟩ => ({ sl := [(1, .c (.p 0 3 0 0)), (19, .c (.r (.s 1 (r_I64 a0_Off)))), (20, .c (.r (.v (.int .i64 (llen (r_I64 a0_Off)))))), (21, .c (.r (.v (.int .i64 v2))))], tab := [(0, some (.foc 3 [] [.r (.s 6 (r_Leg a0_Legs)), .r (.s 1 (r_I64 a0_Off)), .r (.v (.int .i64 a0_Change))] []))] } : St)) 1 (fun p => a0_Off.length - p.1.1) ⟨(0, 0), Nat.zero_le _, rfl, ho2⟩ (Unit) (fun _ => ({ sl := [(1, .c (.p 0 3 0 0))], tab := [(0, some (.foc 3 [] [.r (.s 6 (r_Leg a0_Legs)), .r (.s 1 (r_I64 a0_Off)), .r (.v (.int .i64 a0_Change))] []))] } : St)) 1 (fun y => o2 = LR.out y) ?_ ?_ ?_
 ·refine Wk.of [(0, some 0)] rfl rfl ?_ ?_
  ·cbv; all_goals exact ⟨⟨_, rfl, rfl⟩, ⟨_, rfl, rfl⟩, ⟨_, rfl, rfl⟩, ⟨_, rfl, rfl⟩, trivial⟩
  cbv; all_goals exact ⟨⟨_, rfl, _, rfl, rfl, rfl, rfl, trivial⟩, trivial⟩
 ·rintro ⟨⟨k2, v2⟩, hk2, hi2, h_2⟩ hq2; have hm2 := (hq2.1 19 _ _ rfl); try dsimp only at hk2 hi2 h_2
  clear hq2; cbv
  by_cases hc2_ : k2 < a0_Off.length
  ·have hb3 : lt v2 (llen (r_I64 a0_Off)) = true := ltL_true_I64 hg ht hi2 hc2_; have hs2 := stepL_I64 hg ht hi2 hc2_ hm2; obtain ⟨z2, hz2⟩ := some_of_lt hc2_; rw [drop_of_some hz2] at h_2; rw [I_IsNetwork_l2] at h_2; try rw [← hg] at h_2
   try rw [← ht] at h_2
   try dsimp only at h_2
   rw [hb3]; cbv; refine AStep.mk (nn_L hi2) ?_; cbv; refine AGet.mk _ (r_getL_I64 hg ht hi2 hz2) ?_; cbv; obtain ⟨x2, hx2, h_2⟩ := of_lP h_2; try dsimp only at h_2
   refine ACall.mk _ _ rfl (hF _ _ _ (c_I_within hg ht hx2)) (.inl rfl) (Nat.le_of_ble_eq_true rfl) ?_; cbv
   cases hb4 : x2
   ·rw [br_false hb4] at h_2; cbv; iterate 4 try (rw [hb4]; cbv)
    obtain rfl := Option.some.inj h_2; try dsimp only [lr, lrL, lrp, lrpL] at h
    obtain rfl := Option.some.inj h; exact ARet.mk trivial hX.symm
   rw [br_true hb4] at h_2; cbv; iterate 2 try (rw [hb4]; cbv)
   cases hb5 : (lt 0 v2)
   ·rw [br_false hb5] at h_2; cbv; iterate 7 try (rw [hb5]; cbv)
    try (rw [hb4]; cbv)
    try (rw [hb5]; cbv)
    try (rw [hb4]; cbv)
    try rw [hg] at h_2
    try rw [ht] at h_2
    refine ⟨⟨(k2 + 1, (wrap .i64 (add v2 1))), hc2_, hs2, h_2⟩, Wk.of [(0, some 0)] rfl rfl ?_ ?_, meas_L hc2_⟩
    ·cbv; all_goals exact ⟨⟨_, rfl, rfl⟩, ⟨_, rfl, rfl⟩, ⟨_, rfl, rfl⟩, ⟨_, rfl, rfl⟩, trivial⟩
    cbv; all_goals exact ⟨⟨_, rfl, _, rfl, rfl, rfl, rfl, trivial⟩, trivial⟩
   rw [br_true hb5] at h_2; cbv; iterate 4 try (rw [hb5]; cbv)
   obtain ⟨hc1, h_2⟩ := of_gd h_2; refine AStep.mk hc1 ?_; cbv; obtain ⟨x3, hx3, h_2⟩ := of_gt h_2; try dsimp only at h_2
   refine AGet.mk _ (r_get_I64 hg ht hx3) ?_; cbv; iterate 3 try (rw [hb5]; cbv)
   try (rw [hb4]; cbv)
   try (rw [hb5]; cbv)
   try (rw [hb4]; cbv)
   cases hb6 : (le z2 x3)
   rotate_left
   ·rw [br_true hb6] at h_2; cbv; obtain rfl := Option.some.inj h_2; try dsimp only [lr, lrL, lrp, lrpL] at h
    obtain rfl := Option.some.inj h; exact ARet.mk trivial hX.symm
   rw [br_false hb6] at h_2; cbv; try rw [hg] at h_2
   try rw [ht] at h_2
   refine ⟨⟨(k2 + 1, (wrap .i64 (add v2 1))), hc2_, hs2, h_2⟩, Wk.of [(0, some 0)] rfl rfl ?_ ?_, meas_L hc2_⟩
   ·cbv; all_goals exact ⟨⟨_, rfl, rfl⟩, ⟨_, rfl, rfl⟩, ⟨_, rfl, rfl⟩, ⟨_, rfl, rfl⟩, trivial⟩
   cbv; all_goals exact ⟨⟨_, rfl, _, rfl, rfl, rfl, rfl, trivial⟩, trivial⟩
  have hb3 : lt v2 (llen (r_I64 a0_Off)) = false := ltL_false_I64 hg ht hi2 hc2_; rw [List.drop_of_length_le (Nat.le_of_not_lt hc2_)] at h_2; rw [I_IsNetwork_l2] at h_2; try rw [← hg] at h_2
  try rw [← ht] at h_2
  try dsimp only at h_2
  rw [hb3]; cbv; refine ⟨(), Wk.of [(0, some 0)] rfl rfl ?_ ?_, (Option.some.inj h_2).symm⟩
  ·cbv; all_goals exact ⟨⟨_, rfl, rfl⟩, trivial⟩
  cbv; all_goals exact ⟨⟨_, rfl, _, rfl, rfl, rfl, rfl, trivial⟩, trivial⟩
 rintro _ hy2; replace hy2 := hy2.symm; subst hy2; try dsimp only [lr, lrL, lrp, lrpL] at h
 cbv
 cases hb7 : (le (llen (r_Leg a0_Legs)) 20)
 ·rw [br_false hb7] at h; cbv; iterate 4 try (rw [hb7]; cbv)
  obtain rfl := Option.some.inj h; exact ARet.mk trivial hX.symm
 rw [br_true hb7] at h; cbv; iterate 4 try (rw [hb7]; cbv)
 cases hb8 : (le (llen (r_I64 a0_Off)) 10)
 ·rw [br_false hb8] at h; cbv; iterate 3 try (rw [hb8]; cbv)
  obtain rfl := Option.some.inj h; exact ARet.mk trivial hX.symm
 rw [br_true hb8] at h; cbv; iterate 2 try (rw [hb8]; cbv)
 obtain ⟨x4, hx4, h⟩ := of_lP h; try dsimp only at h
 refine ACall.mk _ _ rfl (hF _ _ _ (c_I_within hg ht hx4)) (.inl rfl) (Nat.le_of_ble_eq_true rfl) ?_; cbv; try (rw [hb8]; cbv)
 obtain rfl := Option.some.inj h; exact ARet.mk trivial hX.symm
def ir93 : J := .seq (.reg none [⟨some 3, none, .box (.t 0)⟩,⟨some 6, none, .mv (.k (V.b false))⟩] [1, 2, 3]) (.seq (.seq (.reg none [⟨some 9, none, .mv (.t 1)⟩,⟨some 10, none, .bin .lss .i (.t 9) (.k (V.i 0))⟩,⟨some 11, none, .mv (.t 10)⟩,⟨some 12, (some (11, false)), .mv (.t 1)⟩,⟨some 13, (some (11, false)), .fa 0 (.t 3)⟩,⟨some 14, (some (11, false)), .ld false 1 (.t 13)⟩,⟨some 15, (some (11, false)), .len false (.t 14)⟩,⟨some 16, (some (11, false)), .bin .geq .i (.t 12) (.t 15)⟩,⟨some 17, none, .pick (.t 11) (.k (V.b true)) (.t 16)⟩,⟨some 18, none, .mv (.t 17)⟩,⟨some 19, (some (18, false)), .mv (.t 2)⟩,⟨some 20, (some (18, false)), .call 70 true [(.t 19), (.k (V.i 0)), (.k (V.i 60))]⟩,⟨some 21, (some (18, false)), .not (.t 20)⟩,⟨some 22, none, .pick (.t 18) (.k (V.b true)) (.t 21)⟩,⟨some 23, none, .mv (.t 22)⟩,⟨some 24, (some (23, false)), .fa 0 (.t 3)⟩,⟨some 25, (some (23, false)), .ld false 1 (.t 24)⟩,⟨some 26, (some (23, false)), .mv (.t 1)⟩,⟨some 27, (some (23, false)), .ia 6 (.t 25) (.t 26)⟩,⟨some 28, (some (23, false)), .fa 4 (.t 27)⟩,⟨some 29, (some (23, false)), .ld false 1 (.t 28)⟩,⟨some 30, (some (23, false)), .mv (.t 2)⟩,⟨some 31, (some (23, false)), .bin .rem .i (.t 30) (.k (V.i 7))⟩,⟨some 32, (some (23, false)), .bin .shr .i (.t 29) (.t 31)⟩,⟨some 33, (some (23, false)), .bin .and .i (.t 32) (.k (V.i 1))⟩,⟨some 34, (some (23, false)), .bin .eql .i (.t 33) (.k (V.i 0))⟩,⟨some 35, none, .pick (.t 23) (.k (V.b true)) (.t 34)⟩] [2, 3, 35]) (.cond (.t 35) (.seq (.reg none [⟨some 6, none, .mv (.k (V.b false))⟩] [6]) (.ret)) (.skip))) (.seq (.seq (.reg none [⟨some 36, none, .fa 1 (.t 3)⟩,⟨some 37, none, .ld false 1 (.t 36)⟩,⟨some 38, none, .len false (.t 37)⟩,⟨some 39, none, .mv (.k (V.i 0))⟩] [2, 37, 38, 39]) (.bl 0 (.seq (.reg none [⟨some 40, none, .bin .lss .i (.t 39) (.t 38)⟩] [2, 37, 38, 39, 40]) (.seq (.cond (.t 40) (.skip) (.exit 0)) (.seq (.block 1 (.seq (.reg none [⟨some 41, none, .ia 1 (.t 37) (.t 39)⟩,⟨some 42, none, .ld false 1 (.t 41)⟩,⟨some 8, none, .mv (.t 42)⟩] [2, 8, 37, 38, 39]) (.seq (.reg none [⟨some 43, none, .mv (.t 8)⟩,⟨some 44, none, .mv (.t 2)⟩,⟨some 45, none, .bin .eql .i (.t 43) (.t 44)⟩] [2, 37, 38, 39, 45]) (.cond (.t 45) (.seq (.reg none [⟨some 6, none, .mv (.k (V.b false))⟩] [6]) (.ret)) (.skip))))) (.reg none [⟨some 46, none, .bin .add .i (.t 39) (.k (V.i 1))⟩,⟨some 39, none, .mv (.t 46)⟩] [2, 37, 38, 39])))))) (.seq (.reg none [⟨some 6, none, .mv (.k (V.b true))⟩] [6]) (.ret))))
def rv93 : List RV := [.t 6]
def I_runs_l1 (g : G) (t : TE) (a2 : Int) : List Int → LR Bool Unit
  | [] =>
    (LR.out ())
  | z1 :: ls1 =>
    br (g.eq z1 a2)
    (
     (LR.ret false))
    (
     I_runs_l1 g t a2 ls1)
def I_runs (g : G) (t : TE) (a0 : Network) (a1 : Int) (a2 : Int) : Option Bool :=
  br (g.lt a1 0)
  (
   some false)
  (
   br (g.le (g.llen (t.r_Leg a0.Legs)) a1)
   (
    some false)
   (
    lP (I_within g t a2 0 60) fun x1 =>
    br x1
    (
     gd (((0 : Int) ≤ a1)) <|
     gt a0.Legs (g.nat a1) fun x2 =>
     gd (((0 : Int) ≤ (g.rem a2 7))) <|
     br (g.eq (g.band .i64 (g.shr .i64 x2.Days (g.rem a2 7)) 1) 0)
     (
      some false)
     (
      lP (I_runs_l1 g t a2 a0.Off) fun o1 => lr o1 fun y1 =>
      some true))
    (
     some false)))
theorem c_I_runs {g : G} {t : TE} {a0 : Network} {a1 : Int} {a2 : Int} {r : Bool} (hg : g = G.real) (ht : t = TE.real) (h : I_runs g t a0 a1 a2 = some r) : Fn Try.prog 93 [.g (Network.rs t a0), .c (.v (.int .i64 a1)), .c (.v (.int .i64 a2))] (.c (.r (.v (.bool r)))) := by
 obtain ⟨X, hX⟩ := hide (.c (.r (.v (.bool r))) : X); rw [← hX]; refine fn_of (rvs := rv93) (j := ir93) Try.func93 rfl (by kernel_rfl) (Nat.le_of_ble_eq_true rfl) (by kernel_rfl) prog_mixed ?_; intro g2 F hg2 hF; obtain rfl : g2 = g := hg2.unique.trans hg.symm; clear hg2; obtain ⟨wrap, lt, le, eq, _, rem, band, _, _, _, shr, _, _, add, _, _, _, _, _, _, _, llen, _, _, _, _, _, _, _, _, _, _, _, _, _, _, _, _, _, _, _, _, _, _⟩ := g2; obtain ⟨r_Leg, _, r_I64, _, _, _, _, _, _, _, _, _, _, _, _⟩ := t
 obtain ⟨a0_Legs, a0_Off, a0_Change⟩ := a0; unfold I_runs at h; try dsimp only at h
 cbv
 cases hb1 : (lt a1 0)
 rotate_left
 ·rw [br_true hb1] at h; cbv; iterate 5 try (rw [hb1]; cbv)
  obtain rfl := Option.some.inj h; exact ARet.mk trivial hX.symm
 rw [br_false hb1] at h; cbv; iterate 5 try (rw [hb1]; cbv)
 cases hb2 : (le (llen (r_Leg a0_Legs)) a1)
 rotate_left
 ·rw [br_true hb2] at h; cbv; iterate 3 try (rw [hb2]; cbv)
  obtain rfl := Option.some.inj h; exact ARet.mk trivial hX.symm
 rw [br_false hb2] at h; cbv; try (rw [hb2]; cbv)
 obtain ⟨x1, hx1, h⟩ := of_lP h; try dsimp only at h
 refine ACall.mk _ _ rfl (hF _ _ _ (c_I_within hg ht hx1)) (.inl rfl) (Nat.le_of_ble_eq_true rfl) ?_; cbv; iterate 2 try (rw [hb2]; cbv)
 cases hb3 : x1
 ·rw [br_false hb3] at h; cbv; iterate 11 try (rw [hb3]; cbv)
  obtain rfl := Option.some.inj h; exact ARet.mk trivial hX.symm
 rw [br_true hb3] at h; cbv; iterate 3 try (rw [hb3]; cbv)
 obtain ⟨hc1, h⟩ := of_gd h; refine AStep.mk hc1 ?_; cbv; obtain ⟨x2, hx2, h⟩ := of_gt h; obtain ⟨x2_From, x2_To, x2_Start, x2_Takes, x2_Days, x2_Room⟩ := x2; try dsimp only at h
 refine AGet.mk _ (r_get_Leg hg ht hx2) ?_; cbv; iterate 4 try (rw [hb3]; cbv)
 refine AStep.mk (by decide) ?_; cbv; try (rw [hb3]; cbv)
 obtain ⟨hc2, h⟩ := of_gd h; refine AStep.mk hc2 ?_; cbv; iterate 3 try (rw [hb3]; cbv)
 cases hb4 : (eq (band .i64 (shr .i64 x2_Days (rem a2 7)) 1) 0)
 rotate_left
 ·rw [br_true hb4] at h; cbv; obtain rfl := Option.some.inj h; exact ARet.mk trivial hX.symm
 rw [br_false hb4] at h; cbv; obtain ⟨o1, ho1, h⟩ := of_lP h; try dsimp only at h
 try rw [hg] at ho1
 try rw [ht] at ho1
 refine ABL.mk { p : Nat × Int // p.1 ≤ a0_Off.length ∧ p.2 = ((p.1 : Nat) : Int) ∧ I_runs_l1 G.real TE.real a2 (List.drop p.1 a0_Off) = o1 } (fun ⟨⟨k1, v1⟩, _⟩ => ({ sl := [(2, .c (.r (.v (.int .i64 a2)))), (37, .c (.r (.s 1 (r_I64 a0_Off)))), (38, .c (.r (.v (.int .i64 (llen (r_I64 a0_Off)))))), (39, .c (.r (.v (.int .i64 v1))))], tab := [] } : St)) 0 (fun p => a0_Off.length - p.1.1) ⟨(0, 0), Nat.zero_le _, rfl, ho1⟩ (Unit) (fun _ => ({ sl := [], tab := [] } : St)) 0 (fun y => o1 = LR.out y) ?_ ?_ ?_
 ·refine Wk.of [] rfl rfl ?_ ?_
  ·cbv; all_goals exact ⟨⟨_, rfl, rfl⟩, ⟨_, rfl, rfl⟩, ⟨_, rfl, rfl⟩, ⟨_, rfl, rfl⟩, trivial⟩
  cbv; all_goals exact trivial
 ·rintro ⟨⟨k1, v1⟩, hk1, hi1, h_1⟩ hq1; have hm1 := (hq1.1 37 _ _ rfl); try dsimp only at hk1 hi1 h_1
  clear hq1; cbv
  by_cases hc1_ : k1 < a0_Off.length
  ·have hb5 : lt v1 (llen (r_I64 a0_Off)) = true := ltL_true_I64 hg ht hi1 hc1_; have hs1 := stepL_I64 hg ht hi1 hc1_ hm1; obtain ⟨z1, hz1⟩ := some_of_lt hc1_; rw [drop_of_some hz1] at h_1; rw [I_runs_l1] at h_1; try rw [← hg] at h_1
   try rw [← ht] at h_1
   try dsimp only at h_1
   rw [hb5]; cbv; refine AStep.mk (nn_L hi1) ?_; cbv; refine AGet.mk _ (r_getL_I64 hg ht hi1 hz1) ?_; cbv
   cases hb6 : (eq z1 a2)
   rotate_left
   ·rw [br_true hb6] at h_1; cbv; subst h_1; try dsimp only [lr, lrL, lrp, lrpL] at h
    obtain rfl := Option.some.inj h; exact ARet.mk trivial hX.symm
   rw [br_false hb6] at h_1; cbv; try rw [hg] at h_1
   try rw [ht] at h_1
   refine ⟨⟨(k1 + 1, (wrap .i64 (add v1 1))), hc1_, hs1, h_1⟩, Wk.of [] rfl rfl ?_ ?_, meas_L hc1_⟩
   ·cbv; all_goals exact ⟨⟨_, rfl, rfl⟩, ⟨_, rfl, rfl⟩, ⟨_, rfl, rfl⟩, ⟨_, rfl, rfl⟩, trivial⟩
   cbv; all_goals exact trivial
  have hb5 : lt v1 (llen (r_I64 a0_Off)) = false := ltL_false_I64 hg ht hi1 hc1_; rw [List.drop_of_length_le (Nat.le_of_not_lt hc1_)] at h_1; rw [I_runs_l1] at h_1; try rw [← hg] at h_1
  try rw [← ht] at h_1
  try dsimp only at h_1
  rw [hb5]; cbv; refine ⟨(), Wk.of [] rfl rfl ?_ ?_, h_1.symm⟩
  ·cbv; all_goals exact trivial
  cbv; all_goals exact trivial
 rintro _ hy1; replace hy1 := hy1.symm; subst hy1; try dsimp only [lr, lrL, lrp, lrpL] at h
 cbv; obtain rfl := Option.some.inj h; exact ARet.mk trivial hX.symm
def ir102 : J := .seq (.reg none [⟨some 3, none, .box (.t 0)⟩,⟨some 6, none, .mv (.k (V.b false))⟩] [1, 2, 3]) (.seq (.reg none [⟨some 7, none, .ld true 3 (.t 3)⟩,⟨some 8, none, .call 69 true [(.t 7)]⟩,⟨some 9, none, .mv (.t 8)⟩,⟨some 10, (some (9, true)), .ld true 3 (.t 3)⟩,⟨some 11, (some (9, true)), .mv (.t 1)⟩,⟨some 12, (some (9, true)), .mv (.t 2)⟩,⟨some 13, (some (9, true)), .call 93 true [(.t 10), (.t 11), (.t 12)]⟩,⟨some 14, none, .pick (.t 9) (.t 13) (.k (V.b false))⟩,⟨some 6, none, .mv (.t 14)⟩] [6]) (.ret))
def rv102 : List RV := [.t 6]
def I_RunsOn (g : G) (t : TE) (a0 : Network) (a1 : Int) (a2 : Int) : Option Bool :=
  cl (I_IsNetwork g t a0) fun x1 =>
  br x1
  (
   cl (I_runs g t a0 a1 a2) fun x2 =>
   some x2)
  (
   some false)
theorem c_I_RunsOn {g : G} {t : TE} {a0 : Network} {a1 : Int} {a2 : Int} {r : Bool} (hg : g = G.real) (ht : t = TE.real) (h : I_RunsOn g t a0 a1 a2 = some r) : Fn Try.prog 102 [.g (Network.rs t a0), .c (.v (.int .i64 a1)), .c (.v (.int .i64 a2))] (.c (.r (.v (.bool r)))) := by
 obtain ⟨X, hX⟩ := hide (.c (.r (.v (.bool r))) : X); rw [← hX]; refine fn_of (rvs := rv102) (j := ir102) Try.func102 rfl (by kernel_rfl) (Nat.le_of_ble_eq_true rfl) (by kernel_rfl) prog_mixed ?_; intro g2 F hg2 hF; obtain rfl : g2 = g := hg2.unique.trans hg.symm; clear hg2; obtain ⟨_, _, _, _, _, _, _, _, _, _, _, _, _, _, _, _, _, _, _, _, _, _, _, _, _, _, _, _, _, _, _, _, _, _, _, _, _, _, _, _, _, _, _, _⟩ := g2; obtain ⟨_, _, _, _, _, _, _, _, _, _, _, _, _, _, _⟩ := t
 obtain ⟨a0_Legs, a0_Off, a0_Change⟩ := a0; unfold I_RunsOn at h; try dsimp only at h
 cbv; obtain ⟨x1, hx1, h⟩ := of_cl h; try dsimp only at h
 refine ACall.mk _ _ rfl (hF _ _ _ (c_I_IsNetwork hg ht hx1)) (.inl rfl) (Nat.le_of_ble_eq_true rfl) ?_; cbv
 cases hb1 : x1
 ·rw [br_false hb1] at h; cbv; iterate 4 try (rw [hb1]; cbv)
  obtain rfl := Option.some.inj h; exact ARet.mk trivial hX.symm
 rw [br_true hb1] at h; cbv; iterate 3 try (rw [hb1]; cbv)
 obtain ⟨x2, hx2, h⟩ := of_cl h; try dsimp only at h
 refine ACall.mk _ _ rfl (hF _ _ _ (c_I_runs hg ht hx2)) (.inl rfl) (Nat.le_of_ble_eq_true rfl) ?_; cbv; try (rw [hb1]; cbv)
 obtain rfl := Option.some.inj h; exact ARet.mk trivial hX.symm
def ir73 : J := .seq (.reg none [⟨some 2, none, .box (.t 0)⟩,⟨some 3, none, .box (.t 1)⟩,⟨some 4, none, .mv (.k (V.b false))⟩] [2, 3]) (.seq (.reg none [⟨some 5, none, .ld true 3 (.t 2)⟩,⟨some 6, none, .fa 0 (.t 3)⟩,⟨some 7, none, .ld false 1 (.t 6)⟩,⟨some 8, none, .fa 1 (.t 3)⟩,⟨some 9, none, .ld false 1 (.t 8)⟩,⟨some 10, none, .call 102 true [(.t 5), (.t 7), (.t 9)]⟩,⟨some 4, none, .mv (.t 10)⟩] [4]) (.ret))
def rv73 : List RV := [.t 4]
def I_IsTrip (g : G) (t : TE) (a0 : Network) (a1 : Trip) : Option Bool :=
  cl (I_RunsOn g t a0 a1.Leg a1.Day) fun x1 =>
  some x1
theorem c_I_IsTrip {g : G} {t : TE} {a0 : Network} {a1 : Trip} {r : Bool} (hg : g = G.real) (ht : t = TE.real) (h : I_IsTrip g t a0 a1 = some r) : Fn Try.prog 73 [.g (Network.rs t a0), .g (Trip.rs t a1)] (.c (.r (.v (.bool r)))) := by
 obtain ⟨X, hX⟩ := hide (.c (.r (.v (.bool r))) : X); rw [← hX]; refine fn_of (rvs := rv73) (j := ir73) Try.func73 rfl (by kernel_rfl) (Nat.le_of_ble_eq_true rfl) (by kernel_rfl) prog_mixed ?_; intro g2 F hg2 hF; obtain rfl : g2 = g := hg2.unique.trans hg.symm; clear hg2; obtain ⟨_, _, _, _, _, _, _, _, _, _, _, _, _, _, _, _, _, _, _, _, _, _, _, _, _, _, _, _, _, _, _, _, _, _, _, _, _, _, _, _, _, _, _, _⟩ := g2; obtain ⟨_, _, _, _, _, _, _, _, _, _, _, _, _, _, _⟩ := t
 obtain ⟨a0_Legs, a0_Off, a0_Change⟩ := a0; obtain ⟨a1_Leg, a1_Day⟩ := a1; unfold I_IsTrip at h; try dsimp only at h
 cbv; obtain ⟨x1, hx1, h⟩ := of_cl h; try dsimp only at h
 refine ACall.mk _ _ rfl (hF _ _ _ (c_I_RunsOn hg ht hx1)) (.inl rfl) (Nat.le_of_ble_eq_true rfl) ?_; cbv; obtain rfl := Option.some.inj h; exact ARet.mk trivial hX.symm
def ir76 : J := .seq (.reg none [⟨some 2, none, .mv (.k (V.i 0))⟩] [0]) (.seq (.seq (.reg none [⟨some 5, none, .mv (.t 0)⟩,⟨some 6, none, .len false (.t 5)⟩,⟨some 7, none, .mv (.k (V.i 0))⟩] [5, 6, 7]) (.bl 0 (.seq (.reg none [⟨some 8, none, .bin .lss .i (.t 7) (.t 6)⟩] [5, 6, 7, 8]) (.seq (.cond (.t 8) (.skip) (.exit 0)) (.seq (.block 1 (.seq (.reg none [⟨some 9, none, .ia 1 (.t 5) (.t 7)⟩,⟨some 10, none, .ld false 1 (.t 9)⟩,⟨some 4, none, .mv (.t 10)⟩] [4, 5, 6, 7]) (.seq (.reg none [⟨some 11, none, .mv (.t 4)⟩,⟨some 12, none, .bin .neq .i (.t 11) (.k (V.i 0))⟩] [4, 5, 6, 7, 12]) (.cond (.t 12) (.seq (.reg none [⟨some 13, none, .mv (.t 4)⟩,⟨some 2, none, .mv (.t 13)⟩] [2]) (.ret)) (.skip))))) (.reg none [⟨some 14, none, .bin .add .i (.t 7) (.k (V.i 1))⟩,⟨some 7, none, .mv (.t 14)⟩] [5, 6, 7])))))) (.seq (.reg none [⟨some 2, none, .mv (.k (V.i 0))⟩] [2]) (.ret)))
def rv76 : List RV := [.t 2]
def I_first_l1 (g : G) (t : TE) : List Int → LR Int Unit
  | [] =>
    (LR.out ())
  | z1 :: ls1 =>
    br (g.eq z1 0)
    (
     I_first_l1 g t ls1)
    (
     (LR.ret z1))
def I_first (g : G) (t : TE) (a0 : List Int) : Int :=
  lP (I_first_l1 g t a0) fun o1 => lrp o1 fun y1 =>
  0
theorem c_I_first {g : G} {t : TE} {a0 : List Int} {r : Int} (hg : g = G.real) (ht : t = TE.real) (h : I_first g t a0 = r) : Fn Try.prog 76 [.c (.s 1 (t.r_I64 a0))] (.c (.r (.v (.int .i64 r)))) := by
 obtain ⟨X, hX⟩ := hide (.c (.r (.v (.int .i64 r))) : X); rw [← hX]; refine fn_of (rvs := rv76) (j := ir76) Try.func76 rfl (by kernel_rfl) (Nat.le_of_ble_eq_true rfl) (by kernel_rfl) prog_mixed ?_; intro g2 F hg2 hF; obtain rfl : g2 = g := hg2.unique.trans hg.symm; clear hg2; obtain ⟨wrap, lt, _, eq, _, _, _, _, _, _, _, _, _, add, _, _, _, _, _, _, _, llen, _, _, _, _, _, _, _, _, _, _, _, _, _, _, _, _, _, _, _, _, _, _⟩ := g2; obtain ⟨_, _, r_I64, _, _, _, _, _, _, _, _, _, _, _, _⟩ := t
 unfold I_first at h; try dsimp only at h
 cbv; obtain ⟨o1, ho1, h⟩ := of_lP h; try dsimp only at h
 try rw [hg] at ho1
 try rw [ht] at ho1
 refine ABL.mk { p : Nat × Int // p.1 ≤ a0.length ∧ p.2 = ((p.1 : Nat) : Int) ∧ I_first_l1 G.real TE.real (List.drop p.1 a0) = o1 } (fun ⟨⟨k1, v1⟩, _⟩ => ({ sl := [(5, .c (.r (.s 1 (r_I64 a0)))), (6, .c (.r (.v (.int .i64 (llen (r_I64 a0)))))), (7, .c (.r (.v (.int .i64 v1))))], tab := [] } : St)) 0 (fun p => a0.length - p.1.1) ⟨(0, 0), Nat.zero_le _, rfl, ho1⟩ (Unit) (fun _ => ({ sl := [], tab := [] } : St)) 0 (fun y => o1 = LR.out y) ?_ ?_ ?_
 ·refine Wk.of [] rfl rfl ?_ ?_
  ·cbv; all_goals exact ⟨⟨_, rfl, rfl⟩, ⟨_, rfl, rfl⟩, ⟨_, rfl, rfl⟩, trivial⟩
  cbv; all_goals exact trivial
 ·rintro ⟨⟨k1, v1⟩, hk1, hi1, h_1⟩ hq1; have hm1 := (hq1.1 5 _ _ rfl); try dsimp only at hk1 hi1 h_1
  clear hq1; cbv
  by_cases hc1_ : k1 < a0.length
  ·have hb1 : lt v1 (llen (r_I64 a0)) = true := ltL_true_I64 hg ht hi1 hc1_; have hs1 := stepL_I64 hg ht hi1 hc1_ hm1; obtain ⟨z1, hz1⟩ := some_of_lt hc1_; rw [drop_of_some hz1] at h_1; rw [I_first_l1] at h_1; try rw [← hg] at h_1
   try rw [← ht] at h_1
   try dsimp only at h_1
   rw [hb1]; cbv; refine AStep.mk (nn_L hi1) ?_; cbv; refine AGet.mk _ (r_getL_I64 hg ht hi1 hz1) ?_; cbv
   cases hb2 : (eq z1 0)
   ·rw [br_false hb2] at h_1; cbv; subst h_1; try dsimp only [lr, lrL, lrp, lrpL] at h
    subst h; exact ARet.mk trivial hX.symm
   rw [br_true hb2] at h_1; cbv; try rw [hg] at h_1
   try rw [ht] at h_1
   refine ⟨⟨(k1 + 1, (wrap .i64 (add v1 1))), hc1_, hs1, h_1⟩, Wk.of [] rfl rfl ?_ ?_, meas_L hc1_⟩
   ·cbv; all_goals exact ⟨⟨_, rfl, rfl⟩, ⟨_, rfl, rfl⟩, ⟨_, rfl, rfl⟩, trivial⟩
   cbv; all_goals exact trivial
  have hb1 : lt v1 (llen (r_I64 a0)) = false := ltL_false_I64 hg ht hi1 hc1_; rw [List.drop_of_length_le (Nat.le_of_not_lt hc1_)] at h_1; rw [I_first_l1] at h_1; try rw [← hg] at h_1
  try rw [← ht] at h_1
  try dsimp only at h_1
  rw [hb1]; cbv; refine ⟨(), Wk.of [] rfl rfl ?_ ?_, h_1.symm⟩
  ·cbv; all_goals exact trivial
  cbv; all_goals exact trivial
 rintro _ hy1; replace hy1 := hy1.symm; subst hy1; try dsimp only [lr, lrL, lrp, lrpL] at h
 cbv; subst h; exact ARet.mk trivial hX.symm
def ir77 : J := .seq (.reg none [⟨some 4, none, .mv (.k (V.i 0))⟩] [0, 1]) (.seq (.block 0 (.seq (.reg none [⟨some 6, none, .mv (.t 0)⟩,⟨some 7, none, .mv (.t 1)⟩,⟨some 8, none, .bin .lss .i (.t 6) (.t 7)⟩,⟨some 5, none, .mv (.t 8)⟩] [0, 1, 5]) (.cond (.t 5) (.seq (.reg none [⟨some 4, none, .mv (.k (V.i (-1)))⟩] [4]) (.ret)) (.seq (.reg none [⟨some 10, none, .mv (.t 0)⟩,⟨some 11, none, .mv (.t 1)⟩,⟨some 12, none, .bin .gtr .i (.t 10) (.t 11)⟩,⟨some 9, none, .mv (.t 12)⟩] [9]) (.cond (.t 9) (.seq (.reg none [⟨some 4, none, .mv (.k (V.i 1))⟩] [4]) (.ret)) (.skip)))))) (.seq (.reg none [⟨some 4, none, .mv (.k (V.i 0))⟩] [4]) (.ret)))
def rv77 : List RV := [.t 4]
def I_compareInts (g : G) (t : TE) (a0 : Int) (a1 : Int) : Int :=
  br (g.lt a0 a1)
  (
   (-1))
  (
   br (g.lt a1 a0)
   (
    1)
   (
    0))
theorem c_I_compareInts {g : G} {t : TE} {a0 : Int} {a1 : Int} {r : Int} (hg : g = G.real) (ht : t = TE.real) (h : I_compareInts g t a0 a1 = r) : Fn Try.prog 77 [.c (.v (.int .i64 a0)), .c (.v (.int .i64 a1))] (.c (.r (.v (.int .i64 r)))) := by
 obtain ⟨X, hX⟩ := hide (.c (.r (.v (.int .i64 r))) : X); rw [← hX]; refine fn_of (rvs := rv77) (j := ir77) Try.func77 rfl (by kernel_rfl) (Nat.le_of_ble_eq_true rfl) (by kernel_rfl) prog_mixed ?_; intro g2 F hg2 hF; obtain rfl : g2 = g := hg2.unique.trans hg.symm; clear hg2; obtain ⟨_, lt, _, _, _, _, _, _, _, _, _, _, _, _, _, _, _, _, _, _, _, _, _, _, _, _, _, _, _, _, _, _, _, _, _, _, _, _, _, _, _, _, _, _⟩ := g2; obtain ⟨_, _, _, _, _, _, _, _, _, _, _, _, _, _, _⟩ := t
 unfold I_compareInts at h; try dsimp only at h
 cbv
 cases hb1 : (lt a0 a1)
 rotate_left
 ·rw [br_true hb1] at h; cbv; subst h; exact ARet.mk trivial hX.symm
 rw [br_false hb1] at h; cbv
 cases hb2 : (lt a1 a0)
 rotate_left
 ·rw [br_true hb2] at h; cbv; subst h; exact ARet.mk trivial hX.symm
 rw [br_false hb2] at h; cbv; subst h; exact ARet.mk trivial hX.symm
def ir89 : J := .seq (.reg none [⟨some 2, none, .box (.t 0)⟩,⟨some 3, none, .box (.t 1)⟩,⟨some 4, none, .mv (.k (V.i 0))⟩] [2, 3]) (.seq (.reg (some [[], [0], [0, 1], [], [3], [3, 4], [0, 1, 2, 3, 4, 5], [], [7], [7, 8], [], [10], [10, 11], [0, 1, 2, 3, 4, 5, 6, 7, 8, 9, 10, 11, 12], [], [14], [], [16], [0, 1, 2, 3, 4, 5, 6, 7, 8, 9, 10, 11, 12, 13, 14, 15, 16, 17], [0, 1, 2, 3, 4, 5, 6, 7, 8, 9, 10, 11, 12, 13, 14, 15, 16, 17, 18], [0, 1, 2, 3, 4, 5, 6, 7, 8, 9, 10, 11, 12, 13, 14, 15, 16, 17, 18, 19], [0, 1, 2, 3, 4, 5, 6, 7, 8, 9, 10, 11, 12, 13, 14, 15, 16, 17, 18, 19, 20]]) [⟨some 5, none, .fa 1 (.t 2)⟩,⟨some 6, none, .fa 1 (.t 5)⟩,⟨some 7, none, .ld false 1 (.t 6)⟩,⟨some 8, none, .fa 1 (.t 3)⟩,⟨some 9, none, .fa 1 (.t 8)⟩,⟨some 10, none, .ld false 1 (.t 9)⟩,⟨some 11, none, .call 77 true [(.t 7), (.t 10)]⟩,⟨some 12, none, .fa 1 (.t 2)⟩,⟨some 13, none, .fa 0 (.t 12)⟩,⟨some 14, none, .ld false 1 (.t 13)⟩,⟨some 15, none, .fa 1 (.t 3)⟩,⟨some 16, none, .fa 0 (.t 15)⟩,⟨some 17, none, .ld false 1 (.t 16)⟩,⟨some 18, none, .call 77 true [(.t 14), (.t 17)]⟩,⟨some 19, none, .fa 0 (.t 2)⟩,⟨some 20, none, .ld false 1 (.t 19)⟩,⟨some 21, none, .fa 0 (.t 3)⟩,⟨some 22, none, .ld false 1 (.t 21)⟩,⟨some 23, none, .call 77 true [(.t 20), (.t 22)]⟩,⟨some 24, none, .bsl 1 [(.t 11), (.t 18), (.t 23)]⟩,⟨some 25, none, .call 76 true [(.t 24)]⟩,⟨some 4, none, .mv (.t 25)⟩] [4]) (.ret))
def rv89 : List RV := [.t 4]
def I_compareBookings (g : G) (t : TE) (a0 : Booking) (a1 : Booking) : Int :=
  lP (I_compareInts g t a0.Trip.Day a1.Trip.Day) fun x1 =>
  lP (I_compareInts g t a0.Trip.Leg a1.Trip.Leg) fun x2 =>
  lP (I_compareInts g t a0.Thing a1.Thing) fun x3 =>
  lP ([x1, x2, x3]) fun (l1 : List Int) =>
  lP (I_first g t l1) fun x4 =>
  x4
theorem c_I_compareBookings {g : G} {t : TE} {a0 : Booking} {a1 : Booking} {r : Int} (hg : g = G.real) (ht : t = TE.real) (h : I_compareBookings g t a0 a1 = r) : Fn Try.prog 89 [.g (Booking.rs t a0), .g (Booking.rs t a1)] (.c (.r (.v (.int .i64 r)))) := by
 obtain ⟨X, hX⟩ := hide (.c (.r (.v (.int .i64 r))) : X); rw [← hX]; refine fn_of (rvs := rv89) (j := ir89) Try.func89 rfl (by kernel_rfl) (Nat.le_of_ble_eq_true rfl) (by kernel_rfl) prog_mixed ?_; intro g2 F hg2 hF; obtain rfl : g2 = g := hg2.unique.trans hg.symm; clear hg2; obtain ⟨_, _, _, _, _, _, _, _, _, _, _, _, _, _, _, _, _, _, _, _, _, _, _, _, dlen, _, _, _, rd, _, _, _, _, _, _, _, _, _, _, _, _, _, _, _⟩ := g2; obtain ⟨_, _, r_I64, d_I64, _, _, _, _, _, _, _, _, _, _, _⟩ := t
 obtain ⟨a0_Thing, ⟨a0_Trip_Leg, a0_Trip_Day⟩, a0_Weight⟩ := a0; obtain ⟨a1_Thing, ⟨a1_Trip_Leg, a1_Trip_Day⟩, a1_Weight⟩ := a1; unfold I_compareBookings at h; try dsimp only at h
 cbv; obtain ⟨x1, hx1, h⟩ := of_lP h; try dsimp only at h
 refine ACall.mk _ _ rfl (hF _ _ _ (c_I_compareInts hg ht hx1)) (.inl rfl) (Nat.le_of_ble_eq_true rfl) ?_; cbv; obtain ⟨x2, hx2, h⟩ := of_lP h; try dsimp only at h
 refine ACall.mk _ _ rfl (hF _ _ _ (c_I_compareInts hg ht hx2)) (.inl rfl) (Nat.le_of_ble_eq_true rfl) ?_; cbv; obtain ⟨x3, hx3, h⟩ := of_lP h; try dsimp only at h
 refine ACall.mk _ _ rfl (hF _ _ _ (c_I_compareInts hg ht hx3)) (.inl rfl) (Nat.le_of_ble_eq_true rfl) ?_; cbv; obtain ⟨l1, hl1, h⟩ := of_lP h; try dsimp only at h
 refine ANew.mk (d_I64 l1) (dlen (d_I64 l1)) (by rw [← hl1]; exact lit_I64 hg ht [x1, x2, x3]) (by rw [← hl1]; exact litn_I64 hg ht [x1, x2, x3]) ?_; cbv; refine AStep.mk (lend_I64 ht (dlen_I64 hg ht _)) ?_; cbv; obtain ⟨x4, hx4, h⟩ := of_lP h; try dsimp only at h
 refine ACall.mk _ _ (by rw [show rd (d_I64 l1) 0 (dlen (d_I64 l1)) = r_I64 l1 from rdw_I64 hg ht (dlen_I64 hg ht _)]; try rfl) (hF _ _ _ (c_I_first hg ht hx4)) (.inr rfl) (Nat.le_of_ble_eq_true rfl) ?_
 cbv; subst h; exact ARet.mk trivial hX.symm
def ir90 : J := .seq (.reg none [⟨some 3, none, .box (.t 1)⟩,⟨some 4, none, .mv (.k (V.i 0))⟩] [0, 3]) (.seq (.reg none [⟨some 5, none, .mv (.k (V.i 0))⟩] [0, 3, 5]) (.seq (.seq (.reg none [⟨some 8, none, .mv (.t 0)⟩,⟨some 9, none, .len false (.t 8)⟩,⟨some 10, none, .mv (.k (V.i 0))⟩] [3, 5, 8, 9, 10]) (.bl 0 (.seq (.reg none [⟨some 11, none, .bin .lss .i (.t 10) (.t 9)⟩] [3, 5, 8, 9, 10, 11]) (.seq (.cond (.t 11) (.skip) (.exit 0)) (.seq (.block 1 (.seq (.reg none [⟨some 12, none, .ia 4 (.t 8) (.t 10)⟩,⟨some 13, none, .ld true 4 (.t 12)⟩,⟨some 7, none, .alloc [.r (.v (.int .i64 0)), .r (.v (.int .i64 0)), .r (.v (.int .i64 0)), .r (.v (.int .i64 0))]⟩,⟨none, none, .st 4 (.t 7) (.t 13)⟩] [3, 5, 7, 8, 9, 10]) (.seq (.reg none [⟨some 14, none, .fa 1 (.t 7)⟩,⟨some 15, none, .ld true 2 (.t 14)⟩,⟨some 16, none, .ld true 2 (.t 3)⟩,⟨some 17, none, .eqs false [.i, .i] (.t 15) (.t 16)⟩] [3, 5, 7, 8, 9, 10, 17]) (.cond (.t 17) (.reg none [⟨some 18, none, .mv (.t 5)⟩,⟨some 19, none, .fa 3 (.t 7)⟩,⟨some 20, none, .ld false 1 (.t 19)⟩,⟨some 21, none, .bin .add .i (.t 18) (.t 20)⟩,⟨some 5, none, .mv (.t 21)⟩] [3, 5, 8, 9, 10]) (.skip))))) (.reg none [⟨some 22, none, .bin .add .i (.t 10) (.k (V.i 1))⟩,⟨some 10, none, .mv (.t 22)⟩] [3, 5, 8, 9, 10])))))) (.seq (.reg none [⟨some 23, none, .mv (.t 5)⟩,⟨some 4, none, .mv (.t 23)⟩] [4]) (.ret))))
def rv90 : List RV := [.t 4]
def I_LoadOf_l1 (g : G) (t : TE) (a1 : Trip) : List Booking → Int → Int
  | [], v1 =>
    v1
  | z1 :: ls1, v1 =>
    br (g.all [(g.eq z1.Trip.Leg a1.Leg), (g.eq z1.Trip.Day a1.Day)])
    (
     I_LoadOf_l1 g t a1 ls1 (g.wrap .i64 (g.add v1 z1.Weight)))
    (
     I_LoadOf_l1 g t a1 ls1 v1)
def I_LoadOf (g : G) (t : TE) (a0 : List Booking) (a1 : Trip) : Int :=
  lP (I_LoadOf_l1 g t a1 a0 0) fun y1 =>
  y1
theorem c_I_LoadOf {g : G} {t : TE} {a0 : List Booking} {a1 : Trip} {r : Int} (hg : g = G.real) (ht : t = TE.real) (h : I_LoadOf g t a0 a1 = r) : Fn Try.prog 90 [.c (.s 4 (t.r_Booking a0)), .g (Trip.rs t a1)] (.c (.r (.v (.int .i64 r)))) := by
 obtain ⟨X, hX⟩ := hide (.c (.r (.v (.int .i64 r))) : X); rw [← hX]; refine fn_of (rvs := rv90) (j := ir90) Try.func90 rfl (by kernel_rfl) (Nat.le_of_ble_eq_true rfl) (by kernel_rfl) prog_mixed ?_; intro g2 F hg2 hF; obtain rfl : g2 = g := hg2.unique.trans hg.symm; clear hg2; obtain ⟨wrap, lt, _, eq, _, _, _, _, _, _, _, _, _, add, _, _, _, _, _, _, _, llen, _, _, _, _, _, _, _, _, _, _, _, all, _, _, _, _, _, _, _, _, _, _⟩ := g2; obtain ⟨_, _, _, _, r_Booking, _, _, _, _, _, _, _, _, _, _⟩ := t
 obtain ⟨a1_Leg, a1_Day⟩ := a1; unfold I_LoadOf at h; try dsimp only at h
 cbv; obtain ⟨o1, ho1, h⟩ := of_lP h; try dsimp only at h
 try rw [hg] at ho1
 try rw [ht] at ho1
 refine ABL.mk { p : Nat × Int × Int // p.1 ≤ a0.length ∧ p.2.1 = ((p.1 : Nat) : Int) ∧ I_LoadOf_l1 G.real TE.real (Trip.mk a1_Leg a1_Day) (List.drop p.1 a0) p.2.2 = o1 } (fun ⟨⟨k1, v2, v1⟩, _⟩ => ({ sl := [(3, .c (.p 0 2 0 0)), (5, .c (.r (.v (.int .i64 v1)))), (8, .c (.r (.s 4 (r_Booking a0)))), (9, .c (.r (.v (.int .i64 (llen (r_Booking a0)))))), (10, .c (.r (.v (.int .i64 v2))))], tab := [(0, some (.foc 2 [] [.r (.v (.int .i64 a1_Leg)), .r (.v (.int .i64 a1_Day))] []))] } : St)) 1 (fun p => a0.length - p.1.1) ⟨(0, 0, 0), Nat.zero_le _, rfl, ho1⟩ (Int) (fun y1 => ({ sl := [(5, .c (.r (.v (.int .i64 y1))))], tab := [] } : St)) 0 (fun y => o1 = y) ?_ ?_ ?_
 ·refine Wk.of [(0, some 0)] rfl rfl ?_ ?_
  ·cbv; all_goals exact ⟨⟨_, rfl, rfl⟩, ⟨_, rfl, rfl⟩, ⟨_, rfl, rfl⟩, ⟨_, rfl, rfl⟩, ⟨_, rfl, rfl⟩, trivial⟩
  cbv; all_goals exact ⟨⟨_, rfl, _, rfl, rfl, rfl, trivial⟩, trivial⟩
 ·rintro ⟨⟨k1, v2, v1⟩, hk1, hi1, h_1⟩ hq1; have hm1 := (hq1.1 8 _ _ rfl); try dsimp only at hk1 hi1 h_1
  clear hq1; cbv
  by_cases hc1_ : k1 < a0.length
  ·have hb1 : lt v2 (llen (r_Booking a0)) = true := ltL_true_Booking hg ht hi1 hc1_; have hs1 := stepL_Booking hg ht hi1 hc1_ hm1; obtain ⟨z1, hz1⟩ := some_of_lt hc1_; rw [drop_of_some hz1] at h_1; rw [I_LoadOf_l1] at h_1; obtain ⟨z1_Thing, ⟨z1_Trip_Leg, z1_Trip_Day⟩, z1_Weight⟩ := z1; try rw [← hg] at h_1
   try rw [← ht] at h_1
   try dsimp only at h_1
   rw [hb1]; cbv; refine AStep.mk (nn_L hi1) ?_; cbv; refine AGet.mk _ (r_getL_Booking hg ht hi1 hz1) ?_; cbv
   cases hb2 : (all [(eq z1_Trip_Leg a1_Leg), (eq z1_Trip_Day a1_Day)])
   ·rw [br_false hb2] at h_1; cbv; try rw [hg] at h_1
    try rw [ht] at h_1
    refine ⟨⟨(k1 + 1, (wrap .i64 (add v2 1)), v1), hc1_, hs1, h_1⟩, Wk.of [(0, some 0)] rfl rfl ?_ ?_, meas_L hc1_⟩
    ·cbv; all_goals exact ⟨⟨_, rfl, rfl⟩, ⟨_, rfl, rfl⟩, ⟨_, rfl, rfl⟩, ⟨_, rfl, rfl⟩, ⟨_, rfl, rfl⟩, trivial⟩
    cbv; all_goals exact ⟨⟨_, rfl, _, rfl, rfl, rfl, trivial⟩, trivial⟩
   rw [br_true hb2] at h_1; cbv; try rw [hg] at h_1
   try rw [ht] at h_1
   refine ⟨⟨(k1 + 1, (wrap .i64 (add v2 1)), (wrap .i64 (add v1 z1_Weight))), hc1_, hs1, h_1⟩, Wk.of [(0, some 0)] rfl rfl ?_ ?_, meas_L hc1_⟩
   ·cbv; all_goals exact ⟨⟨_, rfl, rfl⟩, ⟨_, rfl, rfl⟩, ⟨_, rfl, rfl⟩, ⟨_, rfl, rfl⟩, ⟨_, rfl, rfl⟩, trivial⟩
   cbv; all_goals exact ⟨⟨_, rfl, _, rfl, rfl, rfl, trivial⟩, trivial⟩
  have hb1 : lt v2 (llen (r_Booking a0)) = false := ltL_false_Booking hg ht hi1 hc1_; rw [List.drop_of_length_le (Nat.le_of_not_lt hc1_)] at h_1; rw [I_LoadOf_l1] at h_1; try rw [← hg] at h_1
  try rw [← ht] at h_1
  try dsimp only at h_1
  rw [hb1]; cbv; refine ⟨v1, Wk.of [] rfl rfl ?_ ?_, h_1.symm⟩
  ·cbv; all_goals exact ⟨⟨_, rfl, rfl⟩, trivial⟩
  cbv; all_goals exact trivial
 rintro y1 hy1; replace hy1 := hy1.symm; subst hy1; try dsimp only [lr, lrL, lrp, lrpL] at h
 cbv; subst h; exact ARet.mk trivial hX.symm
def ir52 : J := .seq (.reg none [⟨some 2, none, .box (.t 0)⟩,⟨some 4, none, .mv (.k (V.b false))⟩] [1, 2]) (.seq (.seq (.reg none [⟨some 7, none, .ld true 3 (.t 2)⟩,⟨some 8, none, .call 69 true [(.t 7)]⟩,⟨some 9, none, .not (.t 8)⟩,⟨some 10, none, .mv (.t 9)⟩,⟨some 11, (some (10, false)), .mv (.t 1)⟩,⟨some 12, (some (10, false)), .len false (.t 11)⟩,⟨some 13, (some (10, false)), .bin .gtr .i (.t 12) (.k (V.i 120))⟩,⟨some 14, none, .pick (.t 10) (.k (V.b true)) (.t 13)⟩] [1, 2, 14]) (.cond (.t 14) (.seq (.reg none [⟨some 4, none, .mv (.k (V.b false))⟩] [4]) (.ret)) (.skip))) (.seq (.seq (.reg none [⟨some 15, none, .mv (.t 1)⟩,⟨some 16, none, .len false (.t 15)⟩,⟨some 17, none, .mv (.k (V.i 0))⟩] [1, 2, 15, 16, 17]) (.bl 0 (.seq (.reg none [⟨some 18, none, .bin .lss .i (.t 17) (.t 16)⟩] [1, 2, 15, 16, 17, 18]) (.seq (.cond (.t 18) (.skip) (.exit 0)) (.seq (.block 1 (.seq (.reg none [⟨some 19, none, .mv (.t 17)⟩,⟨some 20, none, .ia 4 (.t 15) (.t 17)⟩,⟨some 21, none, .ld true 4 (.t 20)⟩,⟨some 6, none, .alloc [.r (.v (.int .i64 0)), .r (.v (.int .i64 0)), .r (.v (.int .i64 0)), .r (.v (.int .i64 0))]⟩,⟨some 5, none, .mv (.t 19)⟩,⟨none, none, .st 4 (.t 6) (.t 21)⟩] [1, 2, 5, 6, 15, 16, 17]) (.seq (.reg (some [[], [0], [0, 1], [0, 1, 2], [0, 1, 2], [0, 1, 2, 4], [0, 1, 2, 3, 4, 5], [0, 1, 2, 3, 4, 5, 6], [0, 1, 2], [0, 1, 2, 3, 4, 5, 6, 7, 8], [0, 1, 2, 3, 4, 5, 6, 7, 8, 9], [0, 1, 2, 3, 4, 5, 6, 7, 8, 9, 10], [0, 1, 2, 3, 4, 5, 6, 7, 8, 9, 10, 11], [0, 1, 2, 3, 4, 5, 6, 7, 8, 9, 10, 11, 12], [0, 1, 2, 3, 4, 5, 6, 7, 8, 9, 10, 11, 12], [0, 1, 2, 3, 4, 5, 6, 7, 8, 9, 10, 11, 12, 14], [0, 1, 2, 3, 4, 5, 6, 7, 8, 9, 10, 11, 12, 13, 14, 15], [0, 1, 2, 3, 4, 5, 6, 7, 8, 9, 10, 11, 12, 13, 14, 15, 16], [0, 1, 2, 3, 4, 5, 6, 7, 8, 9, 10, 11, 12, 13, 14, 15, 16, 17], [0, 1, 2, 3, 4, 5, 6, 7, 8, 9, 10, 11, 12, 13, 14, 15, 16, 17, 18], [0, 1, 2, 3, 4, 5, 6, 7, 8, 9, 10, 11, 12, 13, 14, 15, 16, 17, 18, 19], [0, 1, 2, 3, 4, 5, 6, 7, 8, 9, 10, 11, 12, 13, 14, 15, 16, 17, 18, 19, 20], [0, 1, 2, 3, 4, 5, 6, 7, 8, 9, 10, 11, 12, 13, 14, 15, 16, 17, 18, 19, 20, 21], [0, 1, 2, 3, 4, 5, 6, 7, 8, 9, 10, 11, 12, 13, 14, 15, 16, 17, 18, 19, 20, 21, 22], [0, 1, 2, 3, 4, 5, 6, 7, 8, 9, 10, 11, 12, 13, 14, 15, 16, 17, 18, 19, 20, 21, 22, 23], [0, 1, 2, 3, 4, 5, 6, 7, 8, 9, 10, 11, 12, 13, 14, 15, 16, 17, 18, 19, 20, 21, 22, 23, 24], [0, 1, 2, 3, 4, 5, 6, 7, 8, 9, 10, 11, 12, 13, 14, 15, 16, 17, 18, 19, 20, 21, 22, 23, 24, 25], [0, 1, 2, 3, 4, 5, 6, 7, 8, 9, 10, 11, 12, 13, 14, 15, 16, 17, 18, 19, 20, 21, 22, 23, 24, 25, 26], [0, 1, 2, 3, 4, 5, 6, 7, 8, 9, 10, 11, 12, 13, 14, 15, 16, 17, 18, 19, 20, 21, 22, 23, 24, 25, 26, 27], [0, 1, 2, 3, 4, 5, 6, 7, 8, 9, 10, 11, 12, 13, 14, 15, 16, 17, 18, 19, 20, 21, 22, 23, 24, 25, 26, 27, 28], [0, 1, 2, 3, 4, 5, 6, 7, 8, 9, 10, 11, 12, 13, 14, 15, 16, 17, 18, 19, 20, 21, 22, 23, 24, 25, 26, 27, 28, 29], [0, 1, 2, 3, 4, 5, 6, 7, 8, 9, 10, 11, 12, 13, 14, 15, 16, 17, 18, 19, 20, 21, 22, 23, 24, 25, 26, 27, 28, 29, 30], [0, 1, 2, 3, 4, 5, 6,
 7, 8, 9, 10, 11, 12, 13, 14, 15, 16, 17, 18, 19, 20, 21, 22, 23, 24, 25, 26, 27, 28, 29, 30, 31], [0, 1, 2, 3, 4, 5, 6, 7, 8, 9, 10, 11, 12, 13, 14, 15, 16, 17, 18, 19, 20, 21, 22, 23, 24, 25, 26, 27, 28, 29, 30, 31], [0, 1, 2, 3, 4, 5, 6, 7, 8, 9, 10, 11, 12, 13, 14, 15, 16, 17, 18, 19, 20, 21, 22, 23, 24, 25, 26, 27, 28, 29, 30, 31, 33], [0, 1, 2, 3, 4, 5, 6, 7, 8, 9, 10, 11, 12, 13, 14, 15, 16, 17, 18, 19, 20, 21, 22, 23, 24, 25, 26, 27, 28, 29, 30, 31, 32, 33, 34], [0, 1, 2, 3, 4, 5, 6, 7, 8, 9, 10, 11, 12, 13, 14, 15, 16, 17, 18, 19, 20, 21, 22, 23, 24, 25, 26, 27, 28, 29, 30, 31], [0, 1, 2, 3, 4, 5, 6, 7, 8, 9, 10, 11, 12, 13, 14, 15, 16, 17, 18, 19, 20, 21, 22, 23, 24, 25, 26, 27, 28, 29, 30, 31, 36], [0, 1, 2, 3, 4, 5, 6, 7, 8, 9, 10, 11, 12, 13, 14, 15, 16, 17, 18, 19, 20, 21, 22, 23, 24, 25, 26, 27, 28, 29, 30, 31], [0, 1, 2, 3, 4, 5, 6, 7, 8, 9, 10, 11, 12, 13, 14, 15, 16, 17, 18, 19, 20, 21, 22, 23, 24, 25, 26, 27, 28, 29, 30, 31, 38], [0, 1, 2, 3, 4, 5, 6, 7, 8, 9, 10, 11, 12, 13, 14, 15, 16, 17, 18, 19, 20, 21, 22, 23, 24, 25, 26, 27, 28, 29, 30, 31, 38, 39], [0, 1, 2, 3, 4, 5, 6, 7, 8, 9, 10, 11, 12, 13, 14, 15, 16, 17, 18, 19, 20, 21, 22, 23, 24, 25, 26, 27, 28, 29, 30, 31, 36, 37, 38, 39, 40], [0, 1, 2, 3, 4, 5, 6, 7, 8, 9, 10, 11, 12, 13, 14, 15, 16, 17, 18, 19, 20, 21, 22, 23, 24, 25, 26, 27, 28, 29, 30, 31, 36, 37, 38, 39, 40, 41], [0, 1, 2, 3, 4, 5, 6, 7, 8, 9, 10, 11, 12, 13, 14, 15, 16, 17, 18, 19, 20, 21, 22, 23, 24, 25, 26, 27, 28, 29, 30, 31, 36, 37, 38, 39, 40, 41, 42], [0, 1, 2, 3, 4, 5, 6, 7, 8, 9, 10, 11, 12, 13, 14, 15, 16, 17, 18, 19, 20, 21, 22, 23, 24, 25, 26, 27, 28, 29, 30, 31, 32, 33, 34, 35, 36, 37, 38, 39, 40, 41, 42, 43], [0, 1, 2, 3, 4, 5, 6, 7, 8, 9, 10, 11, 12, 13, 14, 15, 16, 17, 18, 19, 20, 21, 22, 23, 24, 25, 26, 27, 28, 29, 30, 31, 32, 33, 34, 35, 36, 37, 38, 39, 40, 41, 42, 43, 44]]) [⟨some 22, none, .mv (.t 5)⟩,⟨some 23, none, .bin .gtr .i (.t 22) (.k (V.i 0))⟩,⟨some 24, none, .mv (.t 23)⟩,⟨some 25, (some (24, true)), .mv (.t 1)⟩,⟨some 26, (some (24, true)), .mv (.t 5)⟩,⟨some 27, (some (24, true)), .bin .sub .i (.t 26) (.k (V.i 1))⟩,⟨some 28, (some (24, true)), .ia 4 (.t 25) (.t 27)⟩,⟨some 29, (some (24, true)), .ld true 4 (.t 28)⟩,⟨some 30, (some (24, true)), .ld true 4 (.t 6)⟩,⟨some 31, (some (24, true)), .call 89 true [(.t 29), (.t 30)]⟩,⟨some 32, (some (24, true)), .bin .geq .i (.t 31) (.k (V.i 0))⟩,⟨some 33, none, .pick (.t 24) (.t 32) (.k (V.b false))⟩,⟨some 34, none, .mv (.t 33)⟩,⟨some 35, (some (34, false)), .ld true 3 (.t 2)⟩,⟨some 36, (some (34, false)), .fa 1 (.t 6)⟩,⟨some 37, (some (34, false)), .ld true 2 (.t 36)⟩,⟨some 38, (some (34, false)), .call 73 true [(.t 35), (.t 37)]⟩,⟨some 39, (some (34, false)), .not (.t 38)⟩,⟨some 40, none, .pick (.t 34) (.k (V.b true)) (.t 39)⟩,⟨some 41, none, .mv (.t 40)⟩,⟨some 42, (some (41, false)), .fa 0 (.t 6)⟩,⟨some 43, (some (41, false)), .ld false 1 (.t 42)⟩,⟨some 44, (some (41, false)), .call 70 true [(.t 43), (.k (V.i 1)), (.k (V.i 9999))]⟩,⟨some
 45, (some (41, false)), .not (.t 44)⟩,⟨some 46, none, .pick (.t 41) (.k (V.b true)) (.t 45)⟩,⟨some 47, none, .mv (.t 46)⟩,⟨some 48, (some (47, false)), .fa 3 (.t 6)⟩,⟨some 49, (some (47, false)), .ld false 1 (.t 48)⟩,⟨some 50, (some (47, false)), .call 70 true [(.t 49), (.k (V.i 1)), (.k (V.i 1000000))]⟩,⟨some 51, (some (47, false)), .not (.t 50)⟩,⟨some 52, none, .pick (.t 47) (.k (V.b true)) (.t 51)⟩,⟨some 53, none, .mv (.t 52)⟩,⟨some 54, (some (53, false)), .mv (.t 1)⟩,⟨some 55, (some (53, false)), .fa 1 (.t 6)⟩,⟨some 56, (some (53, false)), .ld true 2 (.t 55)⟩,⟨some 57, (some (53, false)), .call 90 true [(.t 54), (.t 56)]⟩,⟨some 58, (some (53, false)), .fa 0 (.t 2)⟩,⟨some 59, (some (53, false)), .ld false 1 (.t 58)⟩,⟨some 60, (some (53, false)), .fa 1 (.t 6)⟩,⟨some 61, (some (53, false)), .fa 0 (.t 60)⟩,⟨some 62, (some (53, false)), .ld false 1 (.t 61)⟩,⟨some 63, (some (53, false)), .ia 6 (.t 59) (.t 62)⟩,⟨some 64, (some (53, false)), .fa 5 (.t 63)⟩,⟨some 65, (some (53, false)), .ld false 1 (.t 64)⟩,⟨some 66, (some (53, false)), .bin .gtr .i (.t 57) (.t 65)⟩,⟨some 67, none, .pick (.t 53) (.k (V.b true)) (.t 66)⟩] [1, 2, 15, 16, 17, 67]) (.cond (.t 67) (.seq (.reg none [⟨some 4, none, .mv (.k (V.b false))⟩] [4]) (.ret)) (.skip))))) (.reg none [⟨some 68, none, .bin .add .i (.t 17) (.k (V.i 1))⟩,⟨some 17, none, .mv (.t 68)⟩] [1, 2, 15, 16, 17])))))) (.seq (.reg none [⟨some 4, none, .mv (.k (V.b true))⟩] [4]) (.ret))))
def rv52 : List RV := [.t 4]
def I_AreBookings_l1 (g : G) (t : TE) (a0 : Network) (a1 : List Booking) : List Booking → Int → Option (LR Bool Unit)
  | [], v1 =>
    some (LR.out ())
  | z1 :: ls1, v1 =>
    br (g.lt 0 v1)
    (
     gd (((0 : Int) ≤ (g.wrap .i64 (g.sub v1 1)))) <|
     gt a1 (g.nat (g.wrap .i64 (g.sub v1 1))) fun x2 =>
     lP (I_compareBookings g t (Booking.mk x2.Thing (Trip.mk x2.Trip.Leg x2.Trip.Day) x2.Weight) (Booking.mk z1.Thing (Trip.mk z1.Trip.Leg z1.Trip.Day) z1.Weight)) fun x3 =>
     br (g.le 0 x3)
     (
      some (LR.ret false))
     (
      cl (I_IsTrip g t a0 (Trip.mk z1.Trip.Leg z1.Trip.Day)) fun x4 =>
      br x4
      (
       lP (I_within g t z1.Thing 1 9999) fun x5 =>
       br x5
       (
        lP (I_within g t z1.Weight 1 1000000) fun x6 =>
        br x6
        (
         lP (I_LoadOf g t a1 (Trip.mk z1.Trip.Leg z1.Trip.Day)) fun x7 =>
         gd (((0 : Int) ≤ z1.Trip.Leg)) <|
         gt a0.Legs (g.nat z1.Trip.Leg) fun x8 =>
         br (g.lt x8.Room x7)
         (
          some (LR.ret false))
         (
          I_AreBookings_l1 g t a0 a1 ls1 (g.wrap .i64 (g.add v1 1))))
        (
         some (LR.ret false)))
       (
        some (LR.ret false)))
      (
       some (LR.ret false))))
    (
     cl (I_IsTrip g t a0 (Trip.mk z1.Trip.Leg z1.Trip.Day)) fun x9 =>
     br x9
     (
      lP (I_within g t z1.Thing 1 9999) fun x10 =>
      br x10
      (
       lP (I_within g t z1.Weight 1 1000000) fun x11 =>
       br x11
       (
        lP (I_LoadOf g t a1 (Trip.mk z1.Trip.Leg z1.Trip.Day)) fun x12 =>
        gd (((0 : Int) ≤ z1.Trip.Leg)) <|
        gt a0.Legs (g.nat z1.Trip.Leg) fun x13 =>
        br (g.lt x13.Room x12)
        (
         some (LR.ret false))
        (
         I_AreBookings_l1 g t a0 a1 ls1 (g.wrap .i64 (g.add v1 1))))
       (
        some (LR.ret false)))
      (
       some (LR.ret false)))
     (
      some (LR.ret false)))
def I_AreBookings (g : G) (t : TE) (a0 : Network) (a1 : List Booking) : Option Bool :=
  cl (I_IsNetwork g t a0) fun x1 =>
  br x1
  (
   br (g.lt 120 (g.llen (t.r_Booking a1)))
   (
    some false)
   (
    cl (I_AreBookings_l1 g t a0 a1 a1 0) fun o1 => lr o1 fun y1 =>
    some true))
  (
   some false)
theorem c_I_AreBookings {g : G} {t : TE} {a0 : Network} {a1 : List Booking} {r : Bool} (hg : g = G.real) (ht : t = TE.real) (h : I_AreBookings g t a0 a1 = some r) : Fn Try.prog 52 [.g (Network.rs t a0), .c (.s 4 (t.r_Booking a1))] (.c (.r (.v (.bool r)))) := by
 obtain ⟨X, hX⟩ := hide (.c (.r (.v (.bool r))) : X); rw [← hX]; refine fn_of (rvs := rv52) (j := ir52) Try.func52 rfl (by kernel_rfl) (Nat.le_of_ble_eq_true rfl) (by kernel_rfl) prog_mixed ?_; intro g2 F hg2 hF; obtain rfl : g2 = g := hg2.unique.trans hg.symm; clear hg2; obtain ⟨wrap, lt, le, _, _, _, _, _, _, _, _, _, _, add, _, _, _, _, _, _, _, llen, _, _, _, _, _, _, _, _, _, _, _, _, _, _, _, _, _, _, _, _, _, _⟩ := g2; obtain ⟨r_Leg, _, r_I64, _, r_Booking, _, _, _, _, _, _, _, _, _, _⟩ := t
 obtain ⟨a0_Legs, a0_Off, a0_Change⟩ := a0; unfold I_AreBookings at h; try dsimp only at h
 cbv; obtain ⟨x1, hx1, h⟩ := of_cl h; try dsimp only at h
 refine ACall.mk _ _ rfl (hF _ _ _ (c_I_IsNetwork hg ht hx1)) (.inl rfl) (Nat.le_of_ble_eq_true rfl) ?_; cbv
 cases hb1 : x1
 ·rw [br_false hb1] at h; cbv; iterate 3 try (rw [hb1]; cbv)
  obtain rfl := Option.some.inj h; exact ARet.mk trivial hX.symm
 rw [br_true hb1] at h; cbv; iterate 3 try (rw [hb1]; cbv)
 cases hb2 : (lt 120 (llen (r_Booking a1)))
 rotate_left
 ·rw [br_true hb2] at h; cbv; obtain rfl := Option.some.inj h; exact ARet.mk trivial hX.symm
 rw [br_false hb2] at h; cbv; obtain ⟨o1, ho1, h⟩ := of_cl h; try dsimp only at h
 try rw [hg] at ho1
 try rw [ht] at ho1
 refine ABL.mk { p : Nat × Int // p.1 ≤ a1.length ∧ p.2 = ((p.1 : Nat) : Int) ∧ I_AreBookings_l1 G.real TE.real (Network.mk a0_Legs a0_Off a0_Change) a1 (List.drop p.1 a1) p.2 = some o1 } (fun ⟨⟨k1, v1⟩, _⟩ => ({ sl := [(1, .c (.r (.s 4 (r_Booking a1)))), (2, .c (.p 0 3 0 0)), (15, .c (.r (.s 4 (r_Booking a1)))), (16, .c (.r (.v (.int .i64 (llen (r_Booking a1)))))), (17, .c (.r (.v (.int .i64 v1))))], tab := [(0, some (.foc 3 [] [.r (.s 6 (r_Leg a0_Legs)), .r (.s 1 (r_I64 a0_Off)), .r (.v (.int .i64 a0_Change))] []))] } : St)) 1 (fun p => a1.length - p.1.1) ⟨(0, 0), Nat.zero_le _, rfl, ho1⟩ (Unit) (fun _ => ({ sl := [], tab := [] } : St)) 0 (fun y => o1 = LR.out y) ?_ ?_ ?_
 ·refine Wk.of [(0, some 0)] rfl rfl ?_ ?_
  ·cbv; all_goals exact ⟨⟨_, rfl, rfl⟩, ⟨_, rfl, rfl⟩, ⟨_, rfl, rfl⟩, ⟨_, rfl, rfl⟩, ⟨_, rfl, rfl⟩, trivial⟩
  cbv; all_goals exact ⟨⟨_, rfl, _, rfl, rfl, rfl, rfl, trivial⟩, trivial⟩
 ·rintro ⟨⟨k1, v1⟩, hk1, hi1, h_1⟩ hq1; have hm1 := (hq1.1 1 _ _ rfl); try dsimp only at hk1 hi1 h_1
  clear hq1; cbv
  by_cases hc1_ : k1 < a1.length
  ·have hb3 : lt v1 (llen (r_Booking a1)) = true := ltL_true_Booking hg ht hi1 hc1_; have hs1 := stepL_Booking hg ht hi1 hc1_ hm1; obtain ⟨z1, hz1⟩ := some_of_lt hc1_; rw [drop_of_some hz1] at h_1; rw [I_AreBookings_l1] at h_1; obtain ⟨z1_Thing, ⟨z1_Trip_Leg, z1_Trip_Day⟩, z1_Weight⟩ := z1; try rw [← hg] at h_1
   try rw [← ht] at h_1
   try dsimp only at h_1
   rw [hb3]; cbv; refine AStep.mk (nn_L hi1) ?_; cbv; refine AGet.mk _ (r_getL_Booking hg ht hi1 hz1) ?_; cbv
   cases hb4 : (lt 0 v1)
   ·rw [br_false hb4] at h_1; cbv; iterate 8 try (rw [hb4]; cbv)
    obtain ⟨x9, hx9, h_1⟩ := of_cl h_1; try dsimp only at h_1
    refine ACall.mk _ _ rfl (hF _ _ _ (c_I_IsTrip hg ht hx9)) (.inl rfl) (Nat.le_of_ble_eq_true rfl) ?_; cbv
    cases hb10 : x9
    ·rw [br_false hb10] at h_1; cbv; iterate 4 try (rw [hb10]; cbv)
     obtain rfl := Option.some.inj h_1; try dsimp only [lr, lrL, lrp, lrpL] at h
     obtain rfl := Option.some.inj h; exact ARet.mk trivial hX.symm
    rw [br_true hb10] at h_1; cbv; iterate 2 try (rw [hb10]; cbv)
    obtain ⟨x10, hx10, h_1⟩ := of_lP h_1; try dsimp only at h_1
    refine ACall.mk _ _ rfl (hF _ _ _ (c_I_within hg ht hx10)) (.inl rfl) (Nat.le_of_ble_eq_true rfl) ?_; cbv; iterate 2 try (rw [hb10]; cbv)
    cases hb11 : x10
    ·rw [br_false hb11] at h_1; cbv; iterate 4 try (rw [hb11]; cbv)
     obtain rfl := Option.some.inj h_1; try dsimp only [lr, lrL, lrp, lrpL] at h
     obtain rfl := Option.some.inj h; exact ARet.mk trivial hX.symm
    rw [br_true hb11] at h_1; cbv; iterate 2 try (rw [hb11]; cbv)
    obtain ⟨x11, hx11, h_1⟩ := of_lP h_1; try dsimp only at h_1
    refine ACall.mk _ _ rfl (hF _ _ _ (c_I_within hg ht hx11)) (.inl rfl) (Nat.le_of_ble_eq_true rfl) ?_; cbv; iterate 2 try (rw [hb11]; cbv)
    cases hb12 : x11
    ·rw [br_false hb12] at h_1; cbv; iterate 13 try (rw [hb12]; cbv)
     obtain rfl := Option.some.inj h_1; try dsimp only [lr, lrL, lrp, lrpL] at h
     obtain rfl := Option.some.inj h; exact ARet.mk trivial hX.symm
    rw [br_true hb12] at h_1; cbv; iterate 3 try (rw [hb12]; cbv)
    obtain ⟨x12, hx12, h_1⟩ := of_lP h_1; try dsimp only at h_1
    refine ACall.mk _ _ rfl (hF _ _ _ (c_I_LoadOf hg ht hx12)) (.inl rfl) (Nat.le_of_ble_eq_true rfl) ?_; cbv; iterate 6 try (rw [hb12]; cbv)
    obtain ⟨hc3, h_1⟩ := of_gd h_1; refine AStep.mk hc3 ?_; cbv; obtain ⟨x13, hx13, h_1⟩ := of_gt h_1; obtain ⟨x13_From, x13_To, x13_Start, x13_Takes, x13_Days, x13_Room⟩ := x13; try dsimp only at h_1
    refine AGet.mk _ (r_get_Leg hg ht hx13) ?_; cbv; iterate 4 try (rw [hb12]; cbv)
    cases hb13 : (lt x13_Room x12)
    rotate_left
    ·rw [br_true hb13] at h_1; cbv; obtain rfl := Option.some.inj h_1; try dsimp only [lr, lrL, lrp, lrpL] at h
     obtain rfl := Option.some.inj h; exact ARet.mk trivial hX.symm
    rw [br_false hb13] at h_1; cbv; try rw [hg] at h_1
    try rw [ht] at h_1
    refine ⟨⟨(k1 + 1, (wrap .i64 (add v1 1))), hc1_, hs1, h_1⟩, Wk.of [(0, some 0)] rfl rfl ?_ ?_, meas_L hc1_⟩
    ·cbv; all_goals exact ⟨⟨_, rfl, rfl⟩, ⟨_, rfl, rfl⟩, ⟨_, rfl, rfl⟩, ⟨_, rfl, rfl⟩, ⟨_, rfl, rfl⟩, trivial⟩
    cbv; all_goals exact ⟨⟨_, rfl, _, rfl, rfl, rfl, rfl, trivial⟩, trivial⟩
   rw [br_true hb4] at h_1; cbv; iterate 3 try (rw [hb4]; cbv)
   obtain ⟨hc1, h_1⟩ := of_gd h_1; refine AStep.mk hc1 ?_; cbv; obtain ⟨x2, hx2, h_1⟩ := of_gt h_1; obtain ⟨x2_Thing, ⟨x2_Trip_Leg, x2_Trip_Day⟩, x2_Weight⟩ := x2; try dsimp only at h_1
   refine AGet.mk _ (r_get_Booking hg ht hx2) ?_; cbv; iterate 3 try (rw [hb4]; cbv)
   obtain ⟨x3, hx3, h_1⟩ := of_lP h_1; try dsimp only at h_1
   refine ACall.mk _ _ rfl (hF _ _ _ (c_I_compareBookings hg ht hx3)) (.inl rfl) (Nat.le_of_ble_eq_true rfl) ?_; cbv; iterate 2 try (rw [hb4]; cbv)
   cases hb5 : (le 0 x3)
   rotate_left
   ·rw [br_true hb5] at h_1; cbv; iterate 5 try (rw [hb5]; cbv)
    obtain rfl := Option.some.inj h_1; try dsimp only [lr, lrL, lrp, lrpL] at h
    obtain rfl := Option.some.inj h; exact ARet.mk trivial hX.symm
   rw [br_false hb5] at h_1; cbv; iterate 3 try (rw [hb5]; cbv)
   obtain ⟨x4, hx4, h_1⟩ := of_cl h_1; try dsimp only at h_1
   refine ACall.mk _ _ rfl (hF _ _ _ (c_I_IsTrip hg ht hx4)) (.inl rfl) (Nat.le_of_ble_eq_true rfl) ?_; cbv; iterate 2 try (rw [hb5]; cbv)
   cases hb6 : x4
   ·rw [br_false hb6] at h_1; cbv; iterate 4 try (rw [hb6]; cbv)
    obtain rfl := Option.some.inj h_1; try dsimp only [lr, lrL, lrp, lrpL] at h
    obtain rfl := Option.some.inj h; exact ARet.mk trivial hX.symm
   rw [br_true hb6] at h_1; cbv; iterate 2 try (rw [hb6]; cbv)
   obtain ⟨x5, hx5, h_1⟩ := of_lP h_1; try dsimp only at h_1
   refine ACall.mk _ _ rfl (hF _ _ _ (c_I_within hg ht hx5)) (.inl rfl) (Nat.le_of_ble_eq_true rfl) ?_; cbv; iterate 2 try (rw [hb6]; cbv)
   cases hb7 : x5
   ·rw [br_false hb7] at h_1; cbv; iterate 4 try (rw [hb7]; cbv)
    obtain rfl := Option.some.inj h_1; try dsimp only [lr, lrL, lrp, lrpL] at h
    obtain rfl := Option.some.inj h; exact ARet.mk trivial hX.symm
   rw [br_true hb7] at h_1; cbv; iterate 2 try (rw [hb7]; cbv)
   obtain ⟨x6, hx6, h_1⟩ := of_lP h_1; try dsimp only at h_1
   refine ACall.mk _ _ rfl (hF _ _ _ (c_I_within hg ht hx6)) (.inl rfl) (Nat.le_of_ble_eq_true rfl) ?_; cbv; iterate 2 try (rw [hb7]; cbv)
   cases hb8 : x6
   ·rw [br_false hb8] at h_1; cbv; iterate 13 try (rw [hb8]; cbv)
    obtain rfl := Option.some.inj h_1; try dsimp only [lr, lrL, lrp, lrpL] at h
    obtain rfl := Option.some.inj h; exact ARet.mk trivial hX.symm
   rw [br_true hb8] at h_1; cbv; iterate 3 try (rw [hb8]; cbv)
   obtain ⟨x7, hx7, h_1⟩ := of_lP h_1; try dsimp only at h_1
   refine ACall.mk _ _ rfl (hF _ _ _ (c_I_LoadOf hg ht hx7)) (.inl rfl) (Nat.le_of_ble_eq_true rfl) ?_; cbv; iterate 6 try (rw [hb8]; cbv)
   obtain ⟨hc2, h_1⟩ := of_gd h_1; refine AStep.mk hc2 ?_; cbv; obtain ⟨x8, hx8, h_1⟩ := of_gt h_1; obtain ⟨x8_From, x8_To, x8_Start, x8_Takes, x8_Days, x8_Room⟩ := x8; try dsimp only at h_1
   refine AGet.mk _ (r_get_Leg hg ht hx8) ?_; cbv; iterate 4 try (rw [hb8]; cbv)
   cases hb9 : (lt x8_Room x7)
   rotate_left
   ·rw [br_true hb9] at h_1; cbv; obtain rfl := Option.some.inj h_1; try dsimp only [lr, lrL, lrp, lrpL] at h
    obtain rfl := Option.some.inj h; exact ARet.mk trivial hX.symm
   rw [br_false hb9] at h_1; cbv; try rw [hg] at h_1
   try rw [ht] at h_1
   refine ⟨⟨(k1 + 1, (wrap .i64 (add v1 1))), hc1_, hs1, h_1⟩, Wk.of [(0, some 0)] rfl rfl ?_ ?_, meas_L hc1_⟩
   ·cbv; all_goals exact ⟨⟨_, rfl, rfl⟩, ⟨_, rfl, rfl⟩, ⟨_, rfl, rfl⟩, ⟨_, rfl, rfl⟩, ⟨_, rfl, rfl⟩, trivial⟩
   cbv; all_goals exact ⟨⟨_, rfl, _, rfl, rfl, rfl, rfl, trivial⟩, trivial⟩
  have hb3 : lt v1 (llen (r_Booking a1)) = false := ltL_false_Booking hg ht hi1 hc1_; rw [List.drop_of_length_le (Nat.le_of_not_lt hc1_)] at h_1; rw [I_AreBookings_l1] at h_1; try rw [← hg] at h_1
  try rw [← ht] at h_1
  try dsimp only at h_1
  rw [hb3]; cbv; refine ⟨(), Wk.of [] rfl rfl ?_ ?_, (Option.some.inj h_1).symm⟩
  ·cbv; all_goals exact trivial
  cbv; all_goals exact trivial
 rintro _ hy1; replace hy1 := hy1.symm; subst hy1; try dsimp only [lr, lrL, lrp, lrpL] at h
 cbv; obtain rfl := Option.some.inj h; exact ARet.mk trivial hX.symm
def ir71 : J := .seq (.reg none [⟨some 4, none, .mv (.k (V.i 0))⟩] [0, 1]) (.seq (.seq (.reg none [⟨some 7, none, .mv (.t 0)⟩,⟨some 8, none, .len false (.t 7)⟩,⟨some 9, none, .mv (.k (V.i 0))⟩] [1, 7, 8, 9]) (.bl 0 (.seq (.reg none [⟨some 10, none, .bin .lss .i (.t 9) (.t 8)⟩] [1, 7, 8, 9, 10]) (.seq (.cond (.t 10) (.skip) (.exit 0)) (.seq (.block 1 (.seq (.reg none [⟨some 11, none, .mv (.t 9)⟩,⟨some 12, none, .ia 1 (.t 7) (.t 9)⟩,⟨some 13, none, .ld false 1 (.t 12)⟩,⟨some 5, none, .mv (.t 11)⟩,⟨some 6, none, .mv (.t 13)⟩] [1, 5, 6, 7, 8, 9]) (.seq (.reg none [⟨some 14, none, .mv (.t 6)⟩,⟨some 15, none, .mv (.t 1)⟩,⟨some 16, none, .bin .eql .s (.t 14) (.t 15)⟩] [1, 5, 7, 8, 9, 16]) (.cond (.t 16) (.seq (.reg none [⟨some 17, none, .mv (.t 5)⟩,⟨some 4, none, .mv (.t 17)⟩] [4]) (.ret)) (.skip))))) (.reg none [⟨some 18, none, .bin .add .i (.t 9) (.k (V.i 1))⟩,⟨some 9, none, .mv (.t 18)⟩] [1, 7, 8, 9])))))) (.seq (.reg none [⟨some 4, none, .mv (.k (V.i (-1)))⟩] [4]) (.ret)))
def rv71 : List RV := [.t 4]
def I_placeAt_l1 (g : G) (t : TE) (a1 : ByteArray) : List ByteArray → Int → LR Int Unit
  | [], v1 =>
    (LR.out ())
  | z1 :: ls1, v1 =>
    br (g.seq z1 a1)
    (
     (LR.ret v1))
    (
     I_placeAt_l1 g t a1 ls1 (g.wrap .i64 (g.add v1 1)))
def I_placeAt (g : G) (t : TE) (a0 : List ByteArray) (a1 : ByteArray) : Int :=
  lP (I_placeAt_l1 g t a1 a0 0) fun o1 => lrp o1 fun y1 =>
  (-1)
theorem c_I_placeAt {g : G} {t : TE} {a0 : List ByteArray} {a1 : ByteArray} {r : Int} (hg : g = G.real) (ht : t = TE.real) (h : I_placeAt g t a0 a1 = r) : Fn Try.prog 71 [.c (.s 1 (t.r_S a0)), .c (.v (.string a1))] (.c (.r (.v (.int .i64 r)))) := by
 obtain ⟨X, hX⟩ := hide (.c (.r (.v (.int .i64 r))) : X); rw [← hX]; refine fn_of (rvs := rv71) (j := ir71) Try.func71 rfl (by kernel_rfl) (Nat.le_of_ble_eq_true rfl) (by kernel_rfl) prog_mixed ?_; intro g2 F hg2 hF; obtain rfl : g2 = g := hg2.unique.trans hg.symm; clear hg2; obtain ⟨wrap, lt, _, _, _, _, _, _, _, _, _, _, _, add, _, _, _, seq, _, _, _, llen, _, _, _, _, _, _, _, _, _, _, _, _, _, _, _, _, _, _, _, _, _, _⟩ := g2; obtain ⟨_, _, _, _, _, _, _, _, r_S, _, _, _, _, _, _⟩ := t
 unfold I_placeAt at h; try dsimp only at h
 cbv; obtain ⟨o1, ho1, h⟩ := of_lP h; try dsimp only at h
 try rw [hg] at ho1
 try rw [ht] at ho1
 refine ABL.mk { p : Nat × Int // p.1 ≤ a0.length ∧ p.2 = ((p.1 : Nat) : Int) ∧ I_placeAt_l1 G.real TE.real a1 (List.drop p.1 a0) p.2 = o1 } (fun ⟨⟨k1, v1⟩, _⟩ => ({ sl := [(1, .c (.r (.v (.string a1)))), (7, .c (.r (.s 1 (r_S a0)))), (8, .c (.r (.v (.int .i64 (llen (r_S a0)))))), (9, .c (.r (.v (.int .i64 v1))))], tab := [] } : St)) 0 (fun p => a0.length - p.1.1) ⟨(0, 0), Nat.zero_le _, rfl, ho1⟩ (Unit) (fun _ => ({ sl := [], tab := [] } : St)) 0 (fun y => o1 = LR.out y) ?_ ?_ ?_
 ·refine Wk.of [] rfl rfl ?_ ?_
  ·cbv; all_goals exact ⟨⟨_, rfl, rfl⟩, ⟨_, rfl, rfl⟩, ⟨_, rfl, rfl⟩, ⟨_, rfl, rfl⟩, trivial⟩
  cbv; all_goals exact trivial
 ·rintro ⟨⟨k1, v1⟩, hk1, hi1, h_1⟩ hq1; have hm1 := (hq1.1 7 _ _ rfl); try dsimp only at hk1 hi1 h_1
  clear hq1; cbv
  by_cases hc1_ : k1 < a0.length
  ·have hb1 : lt v1 (llen (r_S a0)) = true := ltL_true_S hg ht hi1 hc1_; have hs1 := stepL_S hg ht hi1 hc1_ hm1; obtain ⟨z1, hz1⟩ := some_of_lt hc1_; rw [drop_of_some hz1] at h_1; rw [I_placeAt_l1] at h_1; try rw [← hg] at h_1
   try rw [← ht] at h_1
   try dsimp only at h_1
   rw [hb1]; cbv; refine AStep.mk (nn_L hi1) ?_; cbv; refine AGet.mk _ (r_getL_S hg ht hi1 hz1) ?_; cbv
   cases hb2 : (seq z1 a1)
   rotate_left
   ·rw [br_true hb2] at h_1; cbv; subst h_1; try dsimp only [lr, lrL, lrp, lrpL] at h
    subst h; exact ARet.mk trivial hX.symm
   rw [br_false hb2] at h_1; cbv; try rw [hg] at h_1
   try rw [ht] at h_1
   refine ⟨⟨(k1 + 1, (wrap .i64 (add v1 1))), hc1_, hs1, h_1⟩, Wk.of [] rfl rfl ?_ ?_, meas_L hc1_⟩
   ·cbv; all_goals exact ⟨⟨_, rfl, rfl⟩, ⟨_, rfl, rfl⟩, ⟨_, rfl, rfl⟩, ⟨_, rfl, rfl⟩, trivial⟩
   cbv; all_goals exact trivial
  have hb1 : lt v1 (llen (r_S a0)) = false := ltL_false_S hg ht hi1 hc1_; rw [List.drop_of_length_le (Nat.le_of_not_lt hc1_)] at h_1; rw [I_placeAt_l1] at h_1; try rw [← hg] at h_1
  try rw [← ht] at h_1
  try dsimp only at h_1
  rw [hb1]; cbv; refine ⟨(), Wk.of [] rfl rfl ?_ ?_, h_1.symm⟩
  ·cbv; all_goals exact trivial
  cbv; all_goals exact trivial
 rintro _ hy1; replace hy1 := hy1.symm; subst hy1; try dsimp only [lr, lrL, lrp, lrpL] at h
 cbv; subst h; exact ARet.mk trivial hX.symm
end Go.Vs
namespace Go.Proofs
open Go.RowKit Go.Sort
set_option maxHeartbeats 2000000
set_option maxRecDepth 100000
def Try.lays192_ren : Go.Shelf.Ren := ⟨fun | 192 => 101 | 190 => 110 | 125 => 115 | 258 => 114 | 128 => 127 | 129 => 128 | 302 => 118 | 303 => 119 | 304 => 120 | 305 => 121 | 306 => 122 | 307 => 123 | 308 => 124 | 309 => 125 | 310 => 126 | 333 => 129 | 329 => 130 | 330 => 131 | 334 => 132 | 335 => 133 | 336 => 134 | 344 => 135 | n => n, fun | 31 => 75 | 0 => 0 | 9 => 9 | 3 => 3 | 46 => 132 | 51 => 144 | 53 => 146 | 4 => 4 | 183 => 136 | 182 => 135 | 131 => 141 | 5 => 5 | 218 => 147 | 222 => 151 | 228 => 153 | 229 => 154 | n => n, fun | n => n⟩
theorem Try.lays192 : Go.Proofs.Lays.n192 Try.prog Try.lays192_ren := {
  mixed := by kernel_rfl
  f125 := Try.func115.trans (congrArg some (by kernel_rfl))
  f128 := Try.func127.trans (congrArg some (by kernel_rfl))
  f129 := Try.func128.trans (congrArg some (by kernel_rfl))
  f190 := Try.func110.trans (congrArg some (by kernel_rfl))
  f192 := Try.func101.trans (congrArg some (by kernel_rfl))
  f258 := Try.func114.trans (congrArg some (by kernel_rfl))
  f302 := Try.func118.trans (congrArg some (by kernel_rfl))
  f303 := Try.func119.trans (congrArg some (by kernel_rfl))
  f304 := Try.func120.trans (congrArg some (by kernel_rfl))
  f305 := Try.func121.trans (congrArg some (by kernel_rfl))
  f306 := Try.func122.trans (congrArg some (by kernel_rfl))
  f307 := Try.func123.trans (congrArg some (by kernel_rfl))
  f308 := Try.func124.trans (congrArg some (by kernel_rfl))
  f309 := Try.func125.trans (congrArg some (by kernel_rfl))
  f310 := Try.func126.trans (congrArg some (by kernel_rfl))
  f329 := Try.func130.trans (congrArg some (by kernel_rfl))
  f330 := Try.func131.trans (congrArg some (by kernel_rfl))
  f333 := Try.func129.trans (congrArg some (by kernel_rfl))
  f334 := Try.func132.trans (congrArg some (by kernel_rfl))
  f335 := Try.func133.trans (congrArg some (by kernel_rfl))
  f336 := Try.func134.trans (congrArg some (by kernel_rfl))
  f344 := Try.func135.trans (congrArg some (by kernel_rfl))
  t0 := Try.underlying0
  a0 := Try.isAgg0
  z0 := Try.sizeOf0
  v0 := Try.zeroValue0
  t3 := Try.underlying3
  a3 := Try.isAgg3
  z3 := Try.sizeOf3
  v3 := Try.zeroValue3
  t4 := Try.underlying4
  a4 := Try.isAgg4
  z4 := Try.sizeOf4
  v4 := Try.zeroValue4
  t5 := Try.underlying5
  a5 := Try.isAgg5
  z5 := Try.sizeOf5
  v5 := Try.zeroValue5
  t9 := Try.underlying9
  a9 := Try.isAgg9
  z9 := Try.sizeOf9
  v9 := Try.zeroValue9
  t31 := Try.underlying75
  a31 := Try.isAgg75
  z31 := Try.sizeOf75
  v31 := Try.zeroValue75
  t46 := Try.underlying132
  a46 := Try.isAgg132
  z46 := Try.sizeOf132
  v46 := Try.zeroValue132
  t51 := Try.underlying144
  a51 := Try.isAgg144
  z51 := Try.sizeOf144
  v51 := Try.zeroValue144
  t53 := Try.underlying146
  a53 := Try.isAgg146
  z53 := Try.sizeOf146
  v53 := Try.zeroValue146
  t131 := Try.underlying141
  a131 := Try.isAgg141
  z131 := Try.sizeOf141
  v131 := Try.zeroValue141
  t182 := Try.underlying135
  a182 := Try.isAgg135
  z182 := Try.sizeOf135
  v182 := Try.zeroValue135
  t183 := Try.underlying136
  a183 := Try.isAgg136
  z183 := Try.sizeOf136
  v183 := Try.zeroValue136
  t218 := Try.underlying147
  a218 := Try.isAgg147
  z218 := Try.sizeOf147
  v218 := Try.zeroValue147
  t222 := Try.underlying151
  a222 := Try.isAgg151
  z222 := Try.sizeOf151
  v222 := Try.zeroValue151
  t228 := Try.underlying153
  a228 := Try.isAgg153
  z228 := Try.sizeOf153
  v228 := Try.zeroValue153
  t229 := Try.underlying154
  a229 := Try.isAgg154
  z229 := Try.sizeOf154
  v229 := Try.zeroValue154 }
theorem Try.insS_nil (p : Option Addr) (cap : Nat) (w : World) :
    Calls Try.prog 118 #[.slice p 0 cap, .int .i64 0, .int .i64 0] w fun e w' => e = .returned (.tuple #[]) ∧ w' = w := by
  go_enter Try.func118, Try.ntmps118
  go_wp2
  refine wp_loop_rounds 1 ?_
  rw [rounds_succ]
  go_wp2
  go_end0
  exact ⟨rfl, rfl⟩
theorem Try.pdqS_nil (p : Option Addr) (cap : Nat) (w : World) :
    Calls Try.prog 114 #[.slice p 0 cap, .int .i64 0, .int .i64 0, .int .i64 0] w fun e w' => e = .returned (.tuple #[]) ∧ w' = w := by
  go_enter Try.func114, Try.ntmps114
  go_wp2
  refine wp_loop_rounds 1 ?_
  rw [rounds_succ]
  go_wp2_with (first | (go_at_call 118; refine (Try.insS_nil p cap _).mono ?_; rintro e w' ⟨rfl, rfl⟩))
  refine bodyPost_ret (results_none rfl _ _ _) rfl ?_
  exact ⟨rfl, rfl⟩
theorem Try.sortS_nil (p : Option Addr) (cap : Nat) (w : World) :
    Calls Try.prog 110 #[.slice p 0 cap] w fun e w' => e = .returned (.tuple #[]) ∧ w' = w := by
  have hLen : ∀ w, Calls Try.prog 115 #[.int .u64 0] w fun e w' => e = .returned (.int .i64 0) ∧ w' = w := fun w => calls_of_every_depth fun D => AnyS.bits_LenInS { Try.lays192 with } D 0 w (by omega) (by omega)
  go_enter Try.func110, Try.ntmps110
  go_wp2_with (first
    | (go_at_call 115; refine (hLen _).mono ?_; rintro e w' ⟨rfl, rfl⟩)
    | (go_at_call 114; refine (Try.pdqS_nil p cap _).mono ?_; rintro e w' ⟨rfl, rfl⟩))
  go_end0
  exact ⟨rfl, rfl⟩
theorem Try.strs_nil (p : Option Addr) (cap : Nat) (w : World) :
    Calls Try.prog 101 #[.slice p 0 cap] w fun e w' => e = .returned (.tuple #[]) ∧ w' = w := by
  go_enter Try.func101, Try.ntmps101
  go_wp2_with (first | (go_at_call 110; refine (Try.sortS_nil p cap _).mono ?_; rintro e w' ⟨rfl, rfl⟩))
  go_end0
  exact ⟨rfl, rfl⟩
end Go.Proofs
namespace Go.Vs
open Go.Proofs Go.RowKit
set_option linter.unusedVariables false
def X_sort_Strings (g : G) (t : TE) (a0 : List ByteArray) : Option (List ByteArray) := gd (a0.length < 4611686018427387904) <| some (srtS a0)
theorem c_X_sort_Strings {g : G} {t : TE} {a0 r : List ByteArray} (hg : g = G.real) (ht : t = TE.real) (h : X_sort_Strings g t a0 = some r) : FnM Try.prog 101 (.m (.o 1 (t.d_S a0))) [] (.u []) (.m (.o 1 (t.d_S r))) := by
 obtain ⟨hl, h⟩ := of_gd h; cases h
 subst ht; exact fnM_sortS a0 hl (fun blk cap w hH hb => calls_of_every_depth fun D => AnyS.sort_Strings_in Try.lays192 D blk 0 cap (a0.map bOf) w hH hb (by simpa using hl)) (fun e w => Try.strs_nil none 0 w)
set_option maxRecDepth 100000
def ir72 : J := .seq (.reg none [⟨some 1, none, .box (.t 0)⟩,⟨some 2, none, .mv (.k (.c (.n 1)))⟩] [1]) (.seq (.reg none [⟨some 9, none, .mkm true⟩,⟨some 3, none, .mv (.t 9)⟩] [1, 3]) (.seq (.reg none [⟨some 10, none, .bsl 1 []⟩,⟨some 4, none, .mv (.t 10)⟩] [1, 3, 4]) (.seq (.seq (.reg none [⟨some 11, none, .fa 0 (.t 1)⟩,⟨some 12, none, .ld false 1 (.t 11)⟩,⟨some 13, none, .len false (.t 12)⟩,⟨some 14, none, .mv (.k (V.i 0))⟩] [3, 4, 12, 13, 14]) (.bl 0 (.seq (.reg none [⟨some 15, none, .bin .lss .i (.t 14) (.t 13)⟩] [3, 4, 12, 13, 14, 15]) (.seq (.cond (.t 15) (.skip) (.exit 0)) (.seq (.block 1 (.seq (.reg none [⟨some 16, none, .ia 6 (.t 12) (.t 14)⟩,⟨some 17, none, .ld true 6 (.t 16)⟩,⟨some 6, none, .alloc [.r (.v (.string .empty)), .r (.v (.string .empty)), .r (.v (.int .i64 0)), .r (.v (.int .i64 0)), .r (.v (.int .i64 0)), .r (.v (.int .i64 0))]⟩,⟨none, none, .st 6 (.t 6) (.t 17)⟩] [3, 4, 6, 12, 13, 14]) (.seq (.reg none [⟨some 18, none, .fa 0 (.t 6)⟩,⟨some 19, none, .ld false 1 (.t 18)⟩,⟨some 20, none, .fa 1 (.t 6)⟩,⟨some 21, none, .ld false 1 (.t 20)⟩,⟨some 22, none, .bsl 1 [(.t 19), (.t 21)]⟩,⟨some 23, none, .len false (.t 22)⟩,⟨some 24, none, .mv (.k (V.i 0))⟩] [3, 4, 12, 13, 14, 22, 23, 24]) (.bl 2 (.seq (.reg none [⟨some 25, none, .bin .lss .i (.t 24) (.t 23)⟩] [3, 4, 12, 13, 14, 22, 23, 24, 25]) (.seq (.cond (.t 25) (.skip) (.exit 2)) (.seq (.block 3 (.seq (.reg none [⟨some 26, none, .ia 1 (.t 22) (.t 24)⟩,⟨some 27, none, .ld false 1 (.t 26)⟩,⟨some 8, none, .mv (.t 27)⟩] [3, 4, 8, 12, 13, 14, 22, 23, 24]) (.seq (.reg none [⟨some 28, none, .mv (.t 3)⟩,⟨some 29, none, .mv (.t 8)⟩,⟨some 30, none, .mlk true (.t 28) (.t 29)⟩,⟨some 31, none, .not (.t 30)⟩] [3, 4, 8, 12, 13, 14, 22, 23, 24, 31]) (.cond (.t 31) (.seq (.reg none [⟨some 32, none, .mv (.t 3)⟩,⟨some 33, none, .mv (.t 8)⟩,⟨none, none, .mup true (.t 32) (.t 33)⟩] [3, 4, 8, 12, 13, 14, 22, 23, 24]) (.reg none [⟨some 34, none, .mv (.t 4)⟩,⟨some 35, none, .mv (.t 8)⟩,⟨some 36, none, .bsl 1 [(.t 35)]⟩,⟨some 37, none, .app 1 16 true (.t 34) (.t 36)⟩,⟨some 4, none, .mv (.t 37)⟩] [3, 4, 12, 13, 14, 22, 23, 24])) (.skip))))) (.reg none [⟨some 38, none, .bin .add .i (.t 24) (.k (V.i 1))⟩,⟨some 24, none, .mv (.t 38)⟩] [3, 4, 12, 13, 14, 22, 23, 24])))))))) (.reg none [⟨some 39, none, .bin .add .i (.t 14) (.k (V.i 1))⟩,⟨some 14, none, .mv (.t 39)⟩] [3, 4, 12, 13, 14])))))) (.seq (.reg none [⟨some 40, none, .mv (.t 4)⟩,⟨some 41, none, .callm 101 (.t 40) []⟩] [4]) (.seq (.reg none [⟨some 42, none, .mv (.t 4)⟩,⟨some 2, none, .mv (.t 42)⟩] [2]) (.ret))))))
def rv72 : List RV := [.t 2]
open Go.Proofs Go.IntWalk
set_option maxHeartbeats 4000000
def I_PlacesOf_l2 (g : G) (t : TE) (l2 : List ByteArray) : Nat → Int → List ByteArray → List ByteArray → Option ((List ByteArray) × List ByteArray)
  | 0, v2, w3, w4 =>
    some (w3, w4)
  | n2 + 1, v2, w3, w4 =>
    gt l2 (g.nat v2) fun x1 =>
    br (g.hasS w3 x1)
    (
     I_PlacesOf_l2 g t l2 n2 (g.wrap .i64 (g.add v2 1)) w3 w4)
    (
     lP ([x1]) fun (l3 : List ByteArray) =>
     gd (((w4.length + l3.length) * 16 ≤ 70368744177664)) <|
     lP (w4 ++ l3) fun (l4 : List ByteArray) =>
     I_PlacesOf_l2 g t l2 n2 (g.wrap .i64 (g.add v2 1)) (g.putS w3 x1) l4)
def I_PlacesOf_l1 (g : G) (t : TE) : List Leg → List ByteArray → List ByteArray → Option (List ByteArray)
  | [], w1, w2 =>
    some w2
  | z1 :: ls1, w1, w2 =>
    lP ([z1.From, z1.To]) fun (l2 : List ByteArray) =>
    gd (((g.int (g.dlen (t.d_S l2))) ≤ 9223372036854775807)) <|
    cl (I_PlacesOf_l2 g t l2 (cntLt 0 (g.int (g.dlen (t.d_S l2)))) 0 w1 w2) fun y1 =>
    I_PlacesOf_l1 g t ls1 y1.1 y1.2
def I_PlacesOf (g : G) (t : TE) (a0 : Network) : Option (List ByteArray) :=
  lP ([]) fun (l1 : List ByteArray) =>
  cl (I_PlacesOf_l1 g t a0.Legs [] l1) fun y2 =>
  cl (X_sort_Strings g t y2) fun x2 =>
  gd ((x2.length = y2.length)) <|
  some x2
theorem c_I_PlacesOf {g : G} {t : TE} {a0 : Network} {r : List ByteArray} (hg : g = G.real) (ht : t = TE.real) (h : I_PlacesOf g t a0 = some r) : Fn Try.prog 72 [.g (Network.rs t a0)] (.c (.o 1 (t.d_S r))) := by
 obtain ⟨X, hX⟩ := hide (.c (.o 1 (t.d_S r)) : X); rw [← hX]; refine fn_of (rvs := rv72) (j := ir72) Try.func72 rfl (by kernel_rfl) (Nat.le_of_ble_eq_true rfl) (by kernel_rfl) prog_mixed ?_; intro g2 F hg2 hF; obtain rfl : g2 = g := hg2.unique.trans hg.symm; clear hg2; obtain ⟨wrap, lt, _, _, _, _, _, _, _, _, _, _, int, add, _, _, _, _, _, _, _, llen, _, _, dlen, _, _, _, _, _, _, _, _, _, _, _, _, _, hasS, putS, _, _, _, _⟩ := g2; obtain ⟨r_Leg, _, _, _, _, _, _, _, _, d_S, _, _, _, _, _⟩ := t
 obtain ⟨a0_Legs, a0_Off, a0_Change⟩ := a0; unfold I_PlacesOf at h; try dsimp only at h
 cbv; obtain ⟨l1, hl1, h⟩ := of_lP h; try dsimp only at h
 refine ANew.mk (d_S l1) (dlen (d_S l1)) (by rw [← hl1]; exact lit_S hg ht []) (by rw [← hl1]; exact litn_S hg ht []) ?_; cbv; obtain ⟨o1, ho1, h⟩ := of_cl h; try dsimp only at h
 try rw [hg] at ho1
 try rw [ht] at ho1
 refine ABL.mk { p : Nat × Int × (List ByteArray) × List ByteArray // p.1 ≤ a0_Legs.length ∧ p.2.1 = ((p.1 : Nat) : Int) ∧ I_PlacesOf_l1 G.real TE.real (List.drop p.1 a0_Legs) p.2.2.1 p.2.2.2 = some o1 } (fun ⟨⟨k1, v1, w1, w2⟩, _⟩ => ({ sl := [(3, .c (.m 0)), (4, .c (.f 1 1 0 (dlen (d_S w2)))), (12, .c (.r (.s 6 (r_Leg a0_Legs)))), (13, .c (.r (.v (.int .i64 (llen (r_Leg a0_Legs)))))), (14, .c (.r (.v (.int .i64 v1))))], tab := [(0, some (.ms w1)), (1, some (.arr 1 (d_S w2)))] } : St)) 2 (fun p => a0_Legs.length - p.1.1) ⟨(0, 0, [], l1), Nat.zero_le _, rfl, ho1⟩ (List ByteArray) (fun y2 => ({ sl := [(4, .c (.f 0 1 0 (dlen (d_S y2))))], tab := [(0, some (.arr 1 (d_S y2)))] } : St)) 1 (fun y => o1 = y) ?_ ?_ ?_
 ·refine Wk.of [(0, some 32), (1, some 64)] rfl rfl ?_ ?_
  ·cbv; all_goals exact ⟨⟨_, rfl, rfl⟩, ⟨_, rfl, rfl⟩, ⟨_, rfl, rfl⟩, ⟨_, rfl, rfl⟩, ⟨_, rfl, rfl⟩, trivial⟩
  cbv; all_goals exact ⟨⟨_, rfl, rfl⟩, ⟨_, rfl, rfl⟩, trivial⟩
 ·rintro ⟨⟨k1, v1, w1, w2⟩, hk1, hi1, h_1⟩ hq1; have hm1 := (hq1.1 12 _ _ rfl); try dsimp only at hk1 hi1 h_1
  clear hq1; cbv
  by_cases hc1_ : k1 < a0_Legs.length
  ·have hb1 : lt v1 (llen (r_Leg a0_Legs)) = true := ltL_true_Leg hg ht hi1 hc1_; have hs1 := stepL_Leg hg ht hi1 hc1_ hm1; obtain ⟨z1, hz1⟩ := some_of_lt hc1_; rw [drop_of_some hz1] at h_1; rw [I_PlacesOf_l1] at h_1; obtain ⟨z1_From, z1_To, z1_Start, z1_Takes, z1_Days, z1_Room⟩ := z1; try rw [← hg] at h_1
   try rw [← ht] at h_1
   try dsimp only at h_1
   rw [hb1]; cbv; refine AStep.mk (nn_L hi1) ?_; cbv; refine AGet.mk _ (r_getL_Leg hg ht hi1 hz1) ?_; cbv; obtain ⟨l2, hl2, h_1⟩ := of_lP h_1; try dsimp only at h_1
   refine ANew.mk (d_S l2) (dlen (d_S l2)) (by rw [← hl2]; exact lit_S hg ht [z1_From, z1_To]) (by rw [← hl2]; exact litn_S hg ht [z1_From, z1_To]) ?_; cbv; obtain ⟨hB2, h_1⟩ := of_gd h_1; obtain ⟨o2, ho2, h_1⟩ := of_cl h_1; try dsimp only at h_1
   try rw [hg] at ho2
   try rw [ht] at ho2
   refine ABL.mk { p : Nat × Int × (List ByteArray) × List ByteArray // p.1 = cntLt p.2.1 (int (dlen (d_S l2))) ∧ 0 ≤ p.2.1 ∧ I_PlacesOf_l2 G.real TE.real l2 p.1 p.2.1 p.2.2.1 p.2.2.2 = some o2 } (fun ⟨⟨n2, v2, w3, w4⟩, _⟩ => ({ sl := [(3, .c (.m 0)), (4, .c (.f 1 1 0 (dlen (d_S w4)))), (12, .c (.r (.s 6 (r_Leg a0_Legs)))), (13, .c (.r (.v (.int .i64 (llen (r_Leg a0_Legs)))))), (14, .c (.r (.v (.int .i64 v1)))), (22, .c (.f 2 1 0 (dlen (d_S l2)))), (23, .c (.r (.v (.int .i64 (int (dlen (d_S l2))))))), (24, .c (.r (.v (.int .i64 v2))))], tab := [(0, some (.ms w3)), (1, some (.arr 1 (d_S w4))), (2, some (.arr 1 (d_S l2)))] } : St)) 3 (fun p => p.1.1) ⟨(cntLt 0 (int (dlen (d_S l2))), 0, w1, w2), rfl, Int.le_refl _, ho2⟩ ((List ByteArray) × List ByteArray) (fun ⟨y1_1, y1_2⟩ => ({ sl := [(3, .c (.m 0)), (4, .c (.f 1 1 0 (dlen (d_S y1_2)))), (12, .c (.r (.s 6 (r_Leg a0_Legs)))), (13, .c (.r (.v (.int .i64 (llen (r_Leg a0_Legs)))))), (14, .c (.r (.v (.int .i64 v1))))], tab := [(0, some (.ms y1_1)), (1, some (.arr 1 (d_S y1_2)))] } : St)) 2 (fun y => o2 = y) ?_ ?_ ?_
   ·refine Wk.of [(0, some 0), (1, some 1), (2, some 146)] rfl rfl ?_ ?_
    ·cbv; all_goals exact ⟨⟨_, rfl, rfl⟩, ⟨_, rfl, rfl⟩, ⟨_, rfl, rfl⟩, ⟨_, rfl, rfl⟩, ⟨_, rfl, rfl⟩, ⟨_, rfl, rfl⟩, ⟨_, rfl, rfl⟩, ⟨_, rfl, rfl⟩, trivial⟩
    cbv; all_goals exact ⟨⟨_, rfl, rfl⟩, ⟨_, rfl, rfl⟩, ⟨_, rfl, rfl⟩, trivial⟩
   ·rintro ⟨⟨n2, v2, w3, w4⟩, hn2, hi2, h_2⟩ hq2; try dsimp only at hn2 hi2 h_2
    clear hq2; cbv; rcases n2 with _ | n2
    ·have hb2 : lt v2 (int (dlen (d_S l2))) = false := ltC_false hg hn2; rw [I_PlacesOf_l2] at h_2; try rw [← hg] at h_2
     try rw [← ht] at h_2
     try dsimp only at h_2
     rw [hb2]; cbv; refine ⟨(w3, w4), Wk.of [(0, some 0), (1, some 1)] rfl rfl ?_ ?_, (Option.some.inj h_2).symm⟩
     ·cbv; all_goals exact ⟨⟨_, rfl, rfl⟩, ⟨_, rfl, rfl⟩, ⟨_, rfl, rfl⟩, ⟨_, rfl, rfl⟩, ⟨_, rfl, rfl⟩, trivial⟩
     cbv; all_goals exact ⟨⟨_, rfl, rfl⟩, ⟨_, rfl, rfl⟩, trivial⟩
    have hb2 : lt v2 (int (dlen (d_S l2))) = true := ltC_true hg hn2; have hl2 := ltC_le hn2; have hs2 := stepltC hg hn2 hi2 hB2 (by decide); rw [I_PlacesOf_l2] at h_2; try rw [← hg] at h_2
    try rw [← ht] at h_2
    try dsimp only at h_2
    rw [hb2]; cbv; refine AStep.mk (rg_int hg hi2 hl2) ?_; cbv; obtain ⟨x1, hx1, h_2⟩ := of_gt h_2; try dsimp only at h_2
    refine AGet.mk _ (d_get_S hg ht hx1) ?_; cbv
    cases hb3 : (hasS w3 x1)
    rotate_left
    ·rw [br_true hb3] at h_2; cbv; try rw [hg] at h_2
     try rw [ht] at h_2
     refine ⟨⟨(n2, (wrap .i64 (add v2 1)), w3, w4), hs2.1, hs2.2, h_2⟩, Wk.of [(0, some 0), (1, some 1), (2, some 2)] rfl rfl ?_ ?_, Nat.lt_succ_self _⟩
     ·cbv; all_goals exact ⟨⟨_, rfl, rfl⟩, ⟨_, rfl, rfl⟩, ⟨_, rfl, rfl⟩, ⟨_, rfl, rfl⟩, ⟨_, rfl, rfl⟩, ⟨_, rfl, rfl⟩, ⟨_, rfl, rfl⟩, ⟨_, rfl, rfl⟩, trivial⟩
     cbv; all_goals exact ⟨⟨_, rfl, rfl⟩, ⟨_, rfl, rfl⟩, ⟨_, rfl, rfl⟩, trivial⟩
    rw [br_false hb3] at h_2; cbv; obtain ⟨l3, hl3, h_2⟩ := of_lP h_2; try dsimp only at h_2
    refine ANew.mk (d_S l3) (dlen (d_S l3)) (by rw [← hl3]; exact lit_S hg ht [x1]) (by rw [← hl3]; exact litn_S hg ht [x1]) ?_; cbv; obtain ⟨hc1, h_2⟩ := of_gd h_2; refine AStep.mk ⟨⟨rfl, (dlen_S hg ht _)⟩, (app_ok_S hg ht (dlen_S hg ht _) rfl hc1)⟩ ?_; cbv; obtain ⟨l4, hl4, h_2⟩ := of_lP h_2; try dsimp only at h_2
    refine ANew.mk (d_S l4) (dlen (d_S l4)) (by rw [← hl4]; exact app_S hg ht (dlen_S hg ht _) rfl) (by rw [← hl4]; exact appl_S hg ht (dlen_S hg ht _) rfl) ?_; cbv; try rw [hg] at h_2
    try rw [ht] at h_2
    refine ⟨⟨(n2, (wrap .i64 (add v2 1)), (putS w3 x1), l4), hs2.1, hs2.2, h_2⟩, Wk.of [(0, some 0), (1, some 227), (2, some 2)] rfl rfl ?_ ?_, Nat.lt_succ_self _⟩
    ·cbv; all_goals exact ⟨⟨_, rfl, rfl⟩, ⟨_, rfl, rfl⟩, ⟨_, rfl, rfl⟩, ⟨_, rfl, rfl⟩, ⟨_, rfl, rfl⟩, ⟨_, rfl, rfl⟩, ⟨_, rfl, rfl⟩, ⟨_, rfl, rfl⟩, trivial⟩
    cbv; all_goals exact ⟨⟨_, rfl, rfl⟩, ⟨_, rfl, rfl⟩, ⟨_, rfl, rfl⟩, trivial⟩
   rintro ⟨y1_1, y1_2⟩ hy2; replace hy2 := hy2.symm; subst hy2; try dsimp only [lr, lrL, lrp, lrpL] at h_1
   cbv; try rw [hg] at h_1
   try rw [ht] at h_1
   refine ⟨⟨(k1 + 1, (wrap .i64 (add v1 1)), y1_1, y1_2), hc1_, hs1, h_1⟩, Wk.of [(0, some 0), (1, some 1)] rfl rfl ?_ ?_, meas_L hc1_⟩
   ·cbv; all_goals exact ⟨⟨_, rfl, rfl⟩, ⟨_, rfl, rfl⟩, ⟨_, rfl, rfl⟩, ⟨_, rfl, rfl⟩, ⟨_, rfl, rfl⟩, trivial⟩
   cbv; all_goals exact ⟨⟨_, rfl, rfl⟩, ⟨_, rfl, rfl⟩, trivial⟩
  have hb1 : lt v1 (llen (r_Leg a0_Legs)) = false := ltL_false_Leg hg ht hi1 hc1_; rw [List.drop_of_length_le (Nat.le_of_not_lt hc1_)] at h_1; rw [I_PlacesOf_l1] at h_1; try rw [← hg] at h_1
  try rw [← ht] at h_1
  try dsimp only at h_1
  rw [hb1]; cbv; refine ⟨w2, Wk.of [(0, some 1)] rfl rfl ?_ ?_, (Option.some.inj h_1).symm⟩
  ·cbv; all_goals exact ⟨⟨_, rfl, rfl⟩, trivial⟩
  cbv; all_goals exact ⟨⟨_, rfl, rfl⟩, trivial⟩
 rintro y2 hy1; replace hy1 := hy1.symm; subst hy1; try dsimp only [lr, lrL, lrp, lrpL] at h
 cbv; refine AStep.mk ⟨rfl, (dlen_S hg ht _)⟩ ?_; cbv; obtain ⟨x2, hx2, h⟩ := of_cl h; try dsimp only at h
 refine ACallM.mk _ _ _ _ rfl rfl (hF _ _ _ (c_X_sort_Strings hg ht hx2)) rfl (Nat.le_of_ble_eq_true rfl) (Nat.le_of_ble_eq_true rfl) ?_; cbv; obtain ⟨hc2, h⟩ := of_gd h; obtain rfl := Option.some.inj h; exact ARet.mk ⟨rfl, (lenp_S ht (dlen_S hg ht _) hc2)⟩ hX.symm
def ir74 : J := .seq (.reg none [⟨some 2, none, .box (.t 0)⟩,⟨some 3, none, .box (.t 1)⟩,⟨some 4, none, .mv (.k (V.i 0))⟩] [2, 3]) (.seq (.reg (some [[], [0], [0, 1], [], [3], [], [5], [3, 4, 5, 6], [3, 4, 5, 6, 7], [3, 4, 5, 6, 7, 8], [0, 1, 2, 3, 4, 5, 6, 7, 8, 9], [0, 1, 2, 3, 4, 5, 6, 7, 8, 9, 10]]) [⟨some 5, none, .fa 1 (.t 3)⟩,⟨some 6, none, .ld false 1 (.t 5)⟩,⟨some 7, none, .bin .mul .i (.t 6) (.k (V.i 1440))⟩,⟨some 8, none, .fa 0 (.t 2)⟩,⟨some 9, none, .ld false 1 (.t 8)⟩,⟨some 10, none, .fa 0 (.t 3)⟩,⟨some 11, none, .ld false 1 (.t 10)⟩,⟨some 12, none, .ia 6 (.t 9) (.t 11)⟩,⟨some 13, none, .fa 2 (.t 12)⟩,⟨some 14, none, .ld false 1 (.t 13)⟩,⟨some 15, none, .bin .add .i (.t 7) (.t 14)⟩,⟨some 4, none, .mv (.t 15)⟩] [4]) (.ret))
def rv74 : List RV := [.t 4]
def I_starts (g : G) (t : TE) (a0 : Network) (a1 : Trip) : Option Int :=
  gd (((0 : Int) ≤ a1.Leg)) <|
  gt a0.Legs (g.nat a1.Leg) fun x1 =>
  some (g.wrap .i64 (g.add (g.wrap .i64 (g.mul a1.Day 1440)) x1.Start))
theorem c_I_starts {g : G} {t : TE} {a0 : Network} {a1 : Trip} {r : Int} (hg : g = G.real) (ht : t = TE.real) (h : I_starts g t a0 a1 = some r) : Fn Try.prog 74 [.g (Network.rs t a0), .g (Trip.rs t a1)] (.c (.r (.v (.int .i64 r)))) := by
 obtain ⟨X, hX⟩ := hide (.c (.r (.v (.int .i64 r))) : X); rw [← hX]; refine fn_of (rvs := rv74) (j := ir74) Try.func74 rfl (by kernel_rfl) (Nat.le_of_ble_eq_true rfl) (by kernel_rfl) prog_mixed ?_; intro g2 F hg2 hF; obtain rfl : g2 = g := hg2.unique.trans hg.symm; clear hg2; obtain ⟨_, _, _, _, _, _, _, _, _, _, _, _, _, _, _, _, _, _, _, _, _, _, _, _, _, _, _, _, _, _, _, _, _, _, _, _, _, _, _, _, _, _, _, _⟩ := g2; obtain ⟨_, _, _, _, _, _, _, _, _, _, _, _, _, _, _⟩ := t
 obtain ⟨a0_Legs, a0_Off, a0_Change⟩ := a0; obtain ⟨a1_Leg, a1_Day⟩ := a1; unfold I_starts at h; try dsimp only at h
 cbv; obtain ⟨hc1, h⟩ := of_gd h; refine AStep.mk hc1 ?_; cbv; obtain ⟨x1, hx1, h⟩ := of_gt h; obtain ⟨x1_From, x1_To, x1_Start, x1_Takes, x1_Days, x1_Room⟩ := x1; try dsimp only at h
 refine AGet.mk _ (r_get_Leg hg ht hx1) ?_; cbv; obtain rfl := Option.some.inj h; exact ARet.mk trivial hX.symm
end Go.Vs
