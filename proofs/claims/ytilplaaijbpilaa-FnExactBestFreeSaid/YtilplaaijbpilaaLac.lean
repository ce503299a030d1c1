/- Part of the proofs of this seat's laws: Lac. No condition. -/
import Derived.Test.YtilplaaijbpilaaTy
import Derived.Test.YtilplaaijbpilaaTIRall
import Derived.Test.YtilplaaijbpilaaLab
import Derived.Test.YtilplaaijbpilaaLaa
set_option linter.unusedVariables false
set_option linter.unusedSimpArgs false
set_option linter.unusedSectionVars false
namespace Go.Vs
set_option maxRecDepth 100000
def ir75 : J := .seq (.reg none [⟨some 2, none, .box (.t 0)⟩,⟨some 3, none, .box (.t 1)⟩,⟨some 4, none, .mv (.k (V.i 0))⟩] [2, 3]) (.seq (.reg (some [[], [], [0, 1], [], [3], [], [5], [3, 4, 5, 6], [3, 4, 5, 6, 7], [3, 4, 5, 6, 7, 8], [0, 1, 2, 3, 4, 5, 6, 7, 8, 9], [0, 1, 2, 3, 4, 5, 6, 7, 8, 9, 10]]) [⟨some 5, none, .ld true 3 (.t 2)⟩,⟨some 6, none, .ld true 2 (.t 3)⟩,⟨some 7, none, .call 74 true [(.t 5), (.t 6)]⟩,⟨some 8, none, .fa 0 (.t 2)⟩,⟨some 9, none, .ld false 1 (.t 8)⟩,⟨some 10, none, .fa 0 (.t 3)⟩,⟨some 11, none, .ld false 1 (.t 10)⟩,⟨some 12, none, .ia 6 (.t 9) (.t 11)⟩,⟨some 13, none, .fa 3 (.t 12)⟩,⟨some 14, none, .ld false 1 (.t 13)⟩,⟨some 15, none, .bin .add .i (.t 7) (.t 14)⟩,⟨some 4, none, .mv (.t 15)⟩] [4]) (.ret))
def rv75 : List RV := [.t 4]
open Go.Proofs Go.IntWalk
set_option linter.unusedVariables false
set_option maxHeartbeats 4000000
def I_ends (g : G) (t : TE) (a0 : Network) (a1 : Trip) : Option Int :=
  cl (I_starts g t a0 a1) fun x1 =>
  gd (((0 : Int) ≤ a1.Leg)) <|
  gt a0.Legs (g.nat a1.Leg) fun x2 =>
  some (g.wrap .i64 (g.add x1 x2.Takes))
theorem c_I_ends {g : G} {t : TE} {a0 : Network} {a1 : Trip} {r : Int} (hg : g = G.real) (ht : t = TE.real) (h : I_ends g t a0 a1 = some r) : Fn Try.prog 75 [.g (Network.rs t a0), .g (Trip.rs t a1)] (.c (.r (.v (.int .i64 r)))) := by
 obtain ⟨X, hX⟩ := hide (.c (.r (.v (.int .i64 r))) : X); rw [← hX]; refine fn_of (rvs := rv75) (j := ir75) Try.func75 rfl (by kernel_rfl) (Nat.le_of_ble_eq_true rfl) (by kernel_rfl) prog_mixed ?_; intro g2 F hg2 hF; obtain rfl : g2 = g := hg2.unique.trans hg.symm; clear hg2; obtain ⟨_, _, _, _, _, _, _, _, _, _, _, _, _, _, _, _, _, _, _, _, _, _, _, _, _, _, _, _, _, _, _, _, _, _, _, _, _, _, _, _, _, _, _, _⟩ := g2; obtain ⟨_, _, _, _, _, _, _, _, _, _, _, _, _, _, _⟩ := t
 obtain ⟨a0_Legs, a0_Off, a0_Change⟩ := a0; obtain ⟨a1_Leg, a1_Day⟩ := a1; unfold I_ends at h; try dsimp only at h
 cbv; obtain ⟨x1, hx1, h⟩ := of_cl h; try dsimp only at h
 refine ACall.mk _ _ rfl (hF _ _ _ (c_I_starts hg ht hx1)) (.inl rfl) (Nat.le_of_ble_eq_true rfl) ?_; cbv; obtain ⟨hc1, h⟩ := of_gd h; refine AStep.mk hc1 ?_; cbv; obtain ⟨x2, hx2, h⟩ := of_gt h; obtain ⟨x2_From, x2_To, x2_Start, x2_Takes, x2_Days, x2_Room⟩ := x2; try dsimp only at h
 refine AGet.mk _ (r_get_Leg hg ht hx2) ?_; cbv; obtain rfl := Option.some.inj h; exact ARet.mk trivial hX.symm
def ir91 : J := .seq (.reg none [⟨some 3, none, .box (.t 0)⟩,⟨some 6, none, .mv (.k (V.i 0))⟩] [1, 2, 3]) (.seq (.seq (.reg none [⟨some 7, none, .mv (.t 2)⟩] [1, 3, 7]) (.cond (.t 7) (.seq (.reg none [⟨some 8, none, .mv (.t 1)⟩,⟨some 6, none, .mv (.t 8)⟩] [6]) (.ret)) (.skip))) (.seq (.reg none [⟨some 9, none, .mv (.t 1)⟩,⟨some 10, none, .fa 2 (.t 3)⟩,⟨some 11, none, .ld false 1 (.t 10)⟩,⟨some 12, none, .bin .add .i (.t 9) (.t 11)⟩,⟨some 6, none, .mv (.t 12)⟩] [6]) (.ret)))
def rv91 : List RV := [.t 6]
def I_readyAt (g : G) (t : TE) (a0 : Network) (a1 : Int) (a2 : Bool) : Int :=
  br a2
  (
   a1)
  (
   (g.wrap .i64 (g.add a1 a0.Change)))
theorem c_I_readyAt {g : G} {t : TE} {a0 : Network} {a1 : Int} {a2 : Bool} {r : Int} (hg : g = G.real) (ht : t = TE.real) (h : I_readyAt g t a0 a1 a2 = r) : Fn Try.prog 91 [.g (Network.rs t a0), .c (.v (.int .i64 a1)), .c (.v (.bool a2))] (.c (.r (.v (.int .i64 r)))) := by
 obtain ⟨X, hX⟩ := hide (.c (.r (.v (.int .i64 r))) : X); rw [← hX]; refine fn_of (rvs := rv91) (j := ir91) Try.func91 rfl (by kernel_rfl) (Nat.le_of_ble_eq_true rfl) (by kernel_rfl) prog_mixed ?_; intro g2 F hg2 hF; obtain rfl : g2 = g := hg2.unique.trans hg.symm; clear hg2; obtain ⟨_, _, _, _, _, _, _, _, _, _, _, _, _, _, _, _, _, _, _, _, _, _, _, _, _, _, _, _, _, _, _, _, _, _, _, _, _, _, _, _, _, _, _, _⟩ := g2; obtain ⟨_, _, _, _, _, _, _, _, _, _, _, _, _, _, _⟩ := t
 obtain ⟨a0_Legs, a0_Off, a0_Change⟩ := a0; unfold I_readyAt at h; try dsimp only at h
 cbv
 cases hb1 : a2
 rotate_left
 ·rw [br_true hb1] at h; cbv; subst h; exact ARet.mk trivial hX.symm
 rw [br_false hb1] at h; cbv; subst h; exact ARet.mk trivial hX.symm
def ir94 : J := .seq (.reg none [⟨some 3, none, .box (.t 1)⟩,⟨some 4, none, .mv (.k (V.b false))⟩] [0, 3]) (.seq (.seq (.reg none [⟨some 7, none, .mv (.t 0)⟩,⟨some 8, none, .len false (.t 7)⟩,⟨some 9, none, .mv (.k (V.i 0))⟩] [3, 7, 8, 9]) (.bl 0 (.seq (.reg none [⟨some 10, none, .bin .lss .i (.t 9) (.t 8)⟩] [3, 7, 8, 9, 10]) (.seq (.cond (.t 10) (.skip) (.exit 0)) (.seq (.block 1 (.seq (.reg none [⟨some 11, none, .ia 2 (.t 7) (.t 9)⟩,⟨some 12, none, .ld true 2 (.t 11)⟩,⟨some 6, none, .alloc [.r (.v (.int .i64 0)), .r (.v (.int .i64 0))]⟩,⟨none, none, .st 2 (.t 6) (.t 12)⟩] [3, 6, 7, 8, 9]) (.seq (.reg none [⟨some 13, none, .ld true 2 (.t 6)⟩,⟨some 14, none, .ld true 2 (.t 3)⟩,⟨some 15, none, .eqs false [.i, .i] (.t 13) (.t 14)⟩] [3, 7, 8, 9, 15]) (.cond (.t 15) (.seq (.reg none [⟨some 4, none, .mv (.k (V.b true))⟩] [4]) (.ret)) (.skip))))) (.reg none [⟨some 16, none, .bin .add .i (.t 9) (.k (V.i 1))⟩,⟨some 9, none, .mv (.t 16)⟩] [3, 7, 8, 9])))))) (.seq (.reg none [⟨some 4, none, .mv (.k (V.b false))⟩] [4]) (.ret)))
def rv94 : List RV := [.t 4]
def I_hasTrip_l1 (g : G) (t : TE) (a1 : Trip) : List Trip → LR Bool Unit
  | [] =>
    (LR.out ())
  | z1 :: ls1 =>
    br (g.all [(g.eq z1.Leg a1.Leg), (g.eq z1.Day a1.Day)])
    (
     (LR.ret true))
    (
     I_hasTrip_l1 g t a1 ls1)
def I_hasTrip (g : G) (t : TE) (a0 : List Trip) (a1 : Trip) : Bool :=
  lP (I_hasTrip_l1 g t a1 a0) fun o1 => lrp o1 fun y1 =>
  false
theorem c_I_hasTrip {g : G} {t : TE} {a0 : List Trip} {a1 : Trip} {r : Bool} (hg : g = G.real) (ht : t = TE.real) (h : I_hasTrip g t a0 a1 = r) : Fn Try.prog 94 [.c (.s 2 (t.r_Trip a0)), .g (Trip.rs t a1)] (.c (.r (.v (.bool r)))) := by
 obtain ⟨X, hX⟩ := hide (.c (.r (.v (.bool r))) : X); rw [← hX]; refine fn_of (rvs := rv94) (j := ir94) Try.func94 rfl (by kernel_rfl) (Nat.le_of_ble_eq_true rfl) (by kernel_rfl) prog_mixed ?_; intro g2 F hg2 hF; obtain rfl : g2 = g := hg2.unique.trans hg.symm; clear hg2; obtain ⟨wrap, lt, _, eq, _, _, _, _, _, _, _, _, _, add, _, _, _, _, _, _, _, llen, _, _, _, _, _, _, _, _, _, _, _, all, _, _, _, _, _, _, _, _, _, _⟩ := g2; obtain ⟨_, _, _, _, _, _, r_Trip, _, _, _, _, _, _, _, _⟩ := t
 obtain ⟨a1_Leg, a1_Day⟩ := a1; unfold I_hasTrip at h; try dsimp only at h
 cbv; obtain ⟨o1, ho1, h⟩ := of_lP h; try dsimp only at h
 try rw [hg] at ho1
 try rw [ht] at ho1
 refine ABL.mk { p : Nat × Int // p.1 ≤ a0.length ∧ p.2 = ((p.1 : Nat) : Int) ∧ I_hasTrip_l1 G.real TE.real (Trip.mk a1_Leg a1_Day) (List.drop p.1 a0) = o1 } (fun ⟨⟨k1, v1⟩, _⟩ => ({ sl := [(3, .c (.p 0 2 0 0)), (7, .c (.r (.s 2 (r_Trip a0)))), (8, .c (.r (.v (.int .i64 (llen (r_Trip a0)))))), (9, .c (.r (.v (.int .i64 v1))))], tab := [(0, some (.foc 2 [] [.r (.v (.int .i64 a1_Leg)), .r (.v (.int .i64 a1_Day))] []))] } : St)) 1 (fun p => a0.length - p.1.1) ⟨(0, 0), Nat.zero_le _, rfl, ho1⟩ (Unit) (fun _ => ({ sl := [], tab := [] } : St)) 0 (fun y => o1 = LR.out y) ?_ ?_ ?_
 ·refine Wk.of [(0, some 0)] rfl rfl ?_ ?_
  ·cbv; all_goals exact ⟨⟨_, rfl, rfl⟩, ⟨_, rfl, rfl⟩, ⟨_, rfl, rfl⟩, ⟨_, rfl, rfl⟩, trivial⟩
  cbv; all_goals exact ⟨⟨_, rfl, _, rfl, rfl, rfl, trivial⟩, trivial⟩
 ·rintro ⟨⟨k1, v1⟩, hk1, hi1, h_1⟩ hq1; have hm1 := (hq1.1 7 _ _ rfl); try dsimp only at hk1 hi1 h_1
  clear hq1; cbv
  by_cases hc1_ : k1 < a0.length
  ·have hb1 : lt v1 (llen (r_Trip a0)) = true := ltL_true_Trip hg ht hi1 hc1_; have hs1 := stepL_Trip hg ht hi1 hc1_ hm1; obtain ⟨z1, hz1⟩ := some_of_lt hc1_; rw [drop_of_some hz1] at h_1; rw [I_hasTrip_l1] at h_1; obtain ⟨z1_Leg, z1_Day⟩ := z1; try rw [← hg] at h_1
   try rw [← ht] at h_1
   try dsimp only at h_1
   rw [hb1]; cbv; refine AStep.mk (nn_L hi1) ?_; cbv; refine AGet.mk _ (r_getL_Trip hg ht hi1 hz1) ?_; cbv
   cases hb2 : (all [(eq z1_Leg a1_Leg), (eq z1_Day a1_Day)])
   rotate_left
   ·rw [br_true hb2] at h_1; cbv; subst h_1; try dsimp only [lr, lrL, lrp, lrpL] at h
    subst h; exact ARet.mk trivial hX.symm
   rw [br_false hb2] at h_1; cbv; try rw [hg] at h_1
   try rw [ht] at h_1
   refine ⟨⟨(k1 + 1, (wrap .i64 (add v1 1))), hc1_, hs1, h_1⟩, Wk.of [(0, some 0)] rfl rfl ?_ ?_, meas_L hc1_⟩
   ·cbv; all_goals exact ⟨⟨_, rfl, rfl⟩, ⟨_, rfl, rfl⟩, ⟨_, rfl, rfl⟩, ⟨_, rfl, rfl⟩, trivial⟩
   cbv; all_goals exact ⟨⟨_, rfl, _, rfl, rfl, rfl, trivial⟩, trivial⟩
  have hb1 : lt v1 (llen (r_Trip a0)) = false := ltL_false_Trip hg ht hi1 hc1_; rw [List.drop_of_length_le (Nat.le_of_not_lt hc1_)] at h_1; rw [I_hasTrip_l1] at h_1; try rw [← hg] at h_1
  try rw [← ht] at h_1
  try dsimp only at h_1
  rw [hb1]; cbv; refine ⟨(), Wk.of [] rfl rfl ?_ ?_, h_1.symm⟩
  ·cbv; all_goals exact trivial
  cbv; all_goals exact trivial
 rintro _ hy1; replace hy1 := hy1.symm; subst hy1; try dsimp only [lr, lrL, lrp, lrpL] at h
 cbv; subst h; exact ARet.mk trivial hX.symm
def ir92 : J := .seq (.reg none [⟨some 8, none, .alloc [.r (.v (.int .i64 0)), .r (.v (.int .i64 0))]⟩,⟨some 9, none, .mv (.k (V.b false))⟩] [0, 1, 2, 3, 4, 5, 8]) (.seq (.seq (.reg none [⟨some 10, none, .mv (.k (V.i 0))⟩] [0, 1, 2, 3, 4, 5, 8, 10]) (.bl 0 (.seq (.seq (.reg none [⟨some 12, none, .mv (.t 10)⟩,⟨some 13, none, .bin .leq .i (.t 12) (.k (V.i 60))⟩] [0, 1, 2, 3, 4, 5, 8, 10, 13]) (.cond (.t 13) (.skip) (.exit 0))) (.seq (.block 1 (.seq (.reg none [⟨some 16, none, .mv (.t 0)⟩,⟨some 17, none, .mv (.t 10)⟩,⟨some 18, none, .bld [.r (.v (.int .i64 0)), .r (.v (.int .i64 0))] [(0, 1, (.t 16)), (1, 1, (.t 17))]⟩,⟨some 11, none, .alloc [.r (.v (.int .i64 0)), .r (.v (.int .i64 0))]⟩,⟨none, none, .st 2 (.t 11) (.t 18)⟩] [0, 1, 2, 3, 4, 5, 8, 10, 11]) (.seq (.reg (some [[], [], [], [0, 1, 2], [0, 1, 2, 3], [0, 1, 2, 3, 4], [0, 1, 2, 3, 4], [0, 1, 2, 3, 4, 5, 6], [0, 1, 2, 3, 4], [0, 1, 2, 3, 4, 5, 6, 7, 8], [0, 1, 2, 3, 4, 5, 6, 7, 8, 9], [0, 1, 2, 3, 4, 5, 6, 7, 8, 9, 10], [0, 1, 2, 3, 4, 5, 6, 7, 8, 9, 10, 11], [0, 1, 2, 3, 4, 5, 6, 7, 8, 9, 10, 11], [0, 1, 2, 3, 4, 5, 6, 7, 8, 9, 10, 11, 12, 13], [0, 1, 2, 3, 4, 5, 6, 7, 8, 9, 10, 11, 12, 13, 14], [0, 1, 2, 3, 4, 5, 6, 7, 8, 9, 10, 11, 12, 13, 14, 15], [0, 1, 2, 3, 4, 5, 6, 7, 8, 9, 10, 11, 12, 13, 14, 15, 16], [0, 1, 2, 3, 4, 5, 6, 7, 8, 9, 10, 11, 12, 13, 14, 15, 16, 17], [0, 1, 2, 3, 4, 5, 6, 7, 8, 9, 10, 11, 12, 13, 14, 15, 16, 17, 18], [0, 1, 2, 3, 4, 5, 6, 7, 8, 9, 10, 11, 12, 13, 14, 15, 16, 17], [0, 1, 2, 3, 4, 5, 6, 7, 8, 9, 10, 11, 12, 13, 14, 15, 16, 17, 18, 19, 20], [0, 1, 2, 3, 4, 5, 6, 7, 8, 9, 10, 11, 12, 13, 14, 15, 16, 17, 18, 19, 20, 21], [0, 1, 2, 3, 4, 5, 6, 7, 8, 9, 10, 11, 12, 13, 14, 15, 16, 17, 18, 19, 20, 21, 22], [0, 1, 2, 3, 4, 5, 6, 7, 8, 9, 10, 11, 12, 13, 14, 15, 16, 17], [0, 1, 2, 3, 4, 5, 6, 7, 8, 9, 10, 11, 12, 13, 14, 15, 16, 17], [0, 1, 2, 3, 4, 5, 6, 7, 8, 9, 10, 11, 12, 13, 14, 15, 16, 17, 24, 25], [0, 1, 2, 3, 4, 5, 6, 7, 8, 9, 10, 11, 12, 13, 14, 15, 16, 17, 18, 19, 20, 21, 22, 23, 24, 25, 26], [0, 1, 2, 3, 4, 5, 6, 7, 8, 9, 10, 11, 12, 13, 14, 15, 16, 17], [0, 1, 2, 3, 4, 5, 6, 7, 8, 9, 10, 11, 12, 13, 14, 15, 16, 17, 18, 19, 20, 21, 22, 23, 24, 25, 26, 27, 28], [0, 1, 2, 3, 4, 5, 6, 7, 8, 9, 10, 11, 12, 13, 14, 15, 16, 17, 18, 19, 20, 21, 22, 23, 24, 25, 26, 27, 28, 29]]) [⟨some 19, none, .ld true 3 (.t 2)⟩,⟨some 20, none, .mv (.t 0)⟩,⟨some 21, none, .mv (.t 10)⟩,⟨some 22, none, .call 93 true [(.t 19), (.t 20), (.t 21)]⟩,⟨some 23, none, .mv (.t 22)⟩,⟨some 24, (some (23, true)), .ld true 3 (.t 2)⟩,⟨some 25, (some (23, true)), .ld true 2 (.t 11)⟩,⟨some 26, (some (23, true)), .call 74 true [(.t 24), (.t 25)]⟩,⟨some 27, (some (23, true)), .mv (.t 1)⟩,⟨some 28, (some (23, true)), .bin .geq .i (.t 26) (.t 27)⟩,⟨some 29, none, .pick (.t 23) (.t 28) (.k (V.b false))⟩,⟨some 30, none, .mv (.t 29)⟩,⟨some 31, (some (30, true)), .ld false 1 (.t 3)⟩,⟨some 32, (some (30, true)), .ld true 2 (.t 11)⟩,⟨some 33, (some (30, true)), .call 94 true [(.t 31), (.t 32)]⟩,⟨some 34,
 (some (30, true)), .not (.t 33)⟩,⟨some 35, none, .pick (.t 30) (.t 34) (.k (V.b false))⟩,⟨some 36, none, .mv (.t 35)⟩,⟨some 37, (some (36, true)), .fa 0 (.t 2)⟩,⟨some 38, (some (36, true)), .ld false 1 (.t 37)⟩,⟨some 39, (some (36, true)), .mv (.t 0)⟩,⟨some 40, (some (36, true)), .ia 6 (.t 38) (.t 39)⟩,⟨some 41, (some (36, true)), .fa 5 (.t 40)⟩,⟨some 42, (some (36, true)), .ld false 1 (.t 41)⟩,⟨some 43, (some (36, true)), .ld false 1 (.t 4)⟩,⟨some 44, (some (36, true)), .ld true 2 (.t 11)⟩,⟨some 45, (some (36, true)), .call 90 true [(.t 43), (.t 44)]⟩,⟨some 46, (some (36, true)), .bin .sub .i (.t 42) (.t 45)⟩,⟨some 47, (some (36, true)), .ld false 1 (.t 5)⟩,⟨some 48, (some (36, true)), .bin .geq .i (.t 46) (.t 47)⟩,⟨some 49, none, .pick (.t 36) (.t 48) (.k (V.b false))⟩] [0, 1, 2, 3, 4, 5, 8, 10, 11, 49]) (.cond (.t 49) (.seq (.reg none [⟨some 50, none, .ld true 2 (.t 11)⟩,⟨none, none, .st 2 (.t 8) (.t 50)⟩,⟨some 9, none, .mv (.k (V.b true))⟩] [8, 9]) (.ret)) (.skip))))) (.reg none [⟨some 14, none, .mv (.t 10)⟩,⟨some 15, none, .bin .add .i (.t 14) (.k (V.i 1))⟩,⟨some 10, none, .mv (.t 15)⟩] [0, 1, 2, 3, 4, 5, 8, 10]))))) (.seq (.reg none [⟨some 51, none, .bld [.r (.v (.int .i64 0)), .r (.v (.int .i64 0))] []⟩,⟨none, none, .st 2 (.t 8) (.t 51)⟩,⟨some 9, none, .mv (.k (V.b false))⟩] [8, 9]) (.ret)))
def rv92 : List RV := [.c 8 true 2, .t 9]
def I_freeOf_1_l1 (g : G) (t : TE) (a0 : Int) (a1 : Int) (a2 : Network) (a3 : List Trip) (a4 : List Booking) (a5 : Int) : Nat → Int → Option (LR (Trip × Bool) Unit)
  | 0, v1 =>
    some (LR.out ())
  | n1 + 1, v1 =>
    cl (I_runs g t a2 a0 v1) fun x1 =>
    br x1
    (
     cl (I_starts g t a2 (Trip.mk a0 v1)) fun x2 =>
     br (g.le a1 x2)
     (
      lP (I_hasTrip g t a3 (Trip.mk a0 v1)) fun x3 =>
      br x3
      (
       I_freeOf_1_l1 g t a0 a1 a2 a3 a4 a5 n1 (g.wrap .i64 (g.add v1 1)))
      (
       gd (((0 : Int) ≤ a0)) <|
       gt a2.Legs (g.nat a0) fun x4 =>
       lP (I_LoadOf g t a4 (Trip.mk a0 v1)) fun x5 =>
       br (g.le a5 (g.wrap .i64 (g.sub x4.Room x5)))
       (
        some (LR.ret (((Trip.mk a0 v1), true))))
       (
        I_freeOf_1_l1 g t a0 a1 a2 a3 a4 a5 n1 (g.wrap .i64 (g.add v1 1)))))
     (
      I_freeOf_1_l1 g t a0 a1 a2 a3 a4 a5 n1 (g.wrap .i64 (g.add v1 1))))
    (
     I_freeOf_1_l1 g t a0 a1 a2 a3 a4 a5 n1 (g.wrap .i64 (g.add v1 1)))
def I_freeOf_1 (g : G) (t : TE) (a0 : Int) (a1 : Int) (a2 : Network) (a3 : List Trip) (a4 : List Booking) (a5 : Int) : Option (Trip × Bool) :=
  cl (I_freeOf_1_l1 g t a0 a1 a2 a3 a4 a5 (cntLe 0 60) 0) fun o1 => lr o1 fun y1 =>
  some (((Trip.mk 0 0), false))
theorem c_I_freeOf_1 {g : G} {t : TE} {a0 : Int} {a1 : Int} {a2 : Network} {a3 : List Trip} {a4 : List Booking} {a5 : Int} {r : Trip × Bool} (hg : g = G.real) (ht : t = TE.real) (h : I_freeOf_1 g t a0 a1 a2 a3 a4 a5 = some r) : Fn Try.prog 92 [.c (.v (.int .i64 a0)), .c (.v (.int .i64 a1)), .q (Network.rs t a2), .q [.s 2 (t.r_Trip a3)], .q [.s 4 (t.r_Booking a4)], .q [.v (.int .i64 a5)]] (.u [.g (Trip.ds t r.1), .c (.r (.v (.bool r.2)))]) := by
 obtain ⟨X, hX⟩ := hide (.u [.g (Trip.ds t r.1), .c (.r (.v (.bool r.2)))] : X); rw [← hX]; refine fn_of (rvs := rv92) (j := ir92) Try.func92 rfl (by kernel_rfl) (Nat.le_of_ble_eq_true rfl) (by kernel_rfl) prog_mixed ?_; intro g2 F hg2 hF; obtain rfl : g2 = g := hg2.unique.trans hg.symm; clear hg2; obtain ⟨wrap, _, le, _, _, _, _, _, _, _, _, _, _, add, sub, _, _, _, _, _, _, _, _, _, _, _, _, _, _, _, _, _, _, _, _, _, _, _, _, _, _, _, _, _⟩ := g2; obtain ⟨r_Leg, _, r_I64, _, r_Booking, _, r_Trip, _, _, _, _, _, _, _, _⟩ := t
 obtain ⟨a2_Legs, a2_Off, a2_Change⟩ := a2; unfold I_freeOf_1 at h; try dsimp only at h
 cbv; obtain ⟨o1, ho1, h⟩ := of_cl h; try dsimp only at h
 try rw [hg] at ho1
 try rw [ht] at ho1
 refine ABL.mk { p : Nat × Int // p.1 = cntLe p.2 60 ∧ 0 ≤ p.2 ∧ I_freeOf_1_l1 G.real TE.real a0 a1 (Network.mk a2_Legs a2_Off a2_Change) a3 a4 a5 p.1 p.2 = some o1 } (fun ⟨⟨n1, v1⟩, _⟩ => ({ sl := [(0, .c (.r (.v (.int .i64 a0)))), (1, .c (.r (.v (.int .i64 a1)))), (2, .q [(.s 6 (r_Leg a2_Legs)), (.s 1 (r_I64 a2_Off)), (.v (.int .i64 a2_Change))]), (3, .q [(.s 2 (r_Trip a3))]), (4, .q [(.s 4 (r_Booking a4))]), (5, .q [(.v (.int .i64 a5))]), (8, .c (.p 0 2 0 0)), (10, .c (.r (.v (.int .i64 v1))))], tab := [(0, some (.foc 2 [] [.r (.v (.int .i64 0)), .r (.v (.int .i64 0))] []))] } : St)) 1 (fun p => p.1.1) ⟨(cntLe 0 60, 0), rfl, Int.le_refl _, ho1⟩ (Unit) (fun _ => ({ sl := [(8, .c (.p 0 2 0 0))], tab := [(0, some (.foc 2 [] [.r (.v (.int .i64 0)), .r (.v (.int .i64 0))] []))] } : St)) 1 (fun y => o1 = LR.out y) ?_ ?_ ?_
 ·refine Wk.of [(0, some 0)] rfl rfl ?_ ?_
  ·cbv; all_goals exact ⟨⟨_, rfl, rfl⟩, ⟨_, rfl, rfl⟩, ⟨_, rfl, rfl⟩, ⟨_, rfl, rfl⟩, trivial⟩
  cbv; all_goals exact ⟨⟨_, rfl, _, rfl, rfl, rfl, trivial⟩, trivial⟩
 ·rintro ⟨⟨n1, v1⟩, hn1, hi1, h_1⟩ hq1; try dsimp only at hn1 hi1 h_1
  clear hq1; cbv; rcases n1 with _ | n1
  ·have hb1 : le v1 60 = false := leC_false hg hn1; rw [I_freeOf_1_l1] at h_1; try rw [← hg] at h_1
   try rw [← ht] at h_1
   try dsimp only at h_1
   rw [hb1]; cbv; refine ⟨(), Wk.of [(0, some 0)] rfl rfl ?_ ?_, (Option.some.inj h_1).symm⟩
   ·cbv; all_goals exact ⟨⟨_, rfl, rfl⟩, trivial⟩
   cbv; all_goals exact ⟨⟨_, rfl, _, rfl, rfl, rfl, trivial⟩, trivial⟩
  have hb1 : le v1 60 = true := leC_true hg hn1; have hl1 := leC_le hn1; have hs1 := stepleC hg hn1 hi1 (by decide) (by decide); rw [I_freeOf_1_l1] at h_1; try rw [← hg] at h_1
  try rw [← ht] at h_1
  try dsimp only at h_1
  rw [hb1]; cbv; obtain ⟨x1, hx1, h_1⟩ := of_cl h_1; try dsimp only at h_1
  refine ACall.mk _ _ rfl (hF _ _ _ (c_I_runs hg ht hx1)) (.inl rfl) (Nat.le_of_ble_eq_true rfl) ?_; cbv
  cases hb2 : x1
  ·rw [br_false hb2] at h_1; cbv; iterate 5 try (rw [hb2]; cbv)
   try rw [hg] at h_1
   try rw [ht] at h_1
   refine ⟨⟨(n1, (wrap .i64 (add v1 1))), hs1.1, hs1.2, h_1⟩, Wk.of [(0, some 0)] rfl rfl ?_ ?_, Nat.lt_succ_self _⟩
   ·cbv; all_goals exact ⟨⟨_, rfl, rfl⟩, ⟨_, rfl, rfl⟩, ⟨_, rfl, rfl⟩, ⟨_, rfl, rfl⟩, trivial⟩
   cbv; all_goals exact ⟨⟨_, rfl, _, rfl, rfl, rfl, trivial⟩, trivial⟩
  rw [br_true hb2] at h_1; cbv; iterate 2 try (rw [hb2]; cbv)
  obtain ⟨x2, hx2, h_1⟩ := of_cl h_1; try dsimp only at h_1
  refine ACall.mk _ _ rfl (hF _ _ _ (c_I_starts hg ht hx2)) (.inl rfl) (Nat.le_of_ble_eq_true rfl) ?_; cbv; iterate 3 try (rw [hb2]; cbv)
  cases hb3 : (le a1 x2)
  ·rw [br_false hb3] at h_1; cbv; iterate 4 try (rw [hb3]; cbv)
   try rw [hg] at h_1
   try rw [ht] at h_1
   refine ⟨⟨(n1, (wrap .i64 (add v1 1))), hs1.1, hs1.2, h_1⟩, Wk.of [(0, some 0)] rfl rfl ?_ ?_, Nat.lt_succ_self _⟩
   ·cbv; all_goals exact ⟨⟨_, rfl, rfl⟩, ⟨_, rfl, rfl⟩, ⟨_, rfl, rfl⟩, ⟨_, rfl, rfl⟩, trivial⟩
   cbv; all_goals exact ⟨⟨_, rfl, _, rfl, rfl, rfl, trivial⟩, trivial⟩
  rw [br_true hb3] at h_1; cbv; iterate 2 try (rw [hb3]; cbv)
  obtain ⟨x3, hx3, h_1⟩ := of_lP h_1; try dsimp only at h_1
  refine ACall.mk _ _ rfl (hF _ _ _ (c_I_hasTrip hg ht hx3)) (.inl rfl) (Nat.le_of_ble_eq_true rfl) ?_; cbv; iterate 2 try (rw [hb3]; cbv)
  cases hb4 : x3
  rotate_left
  ·rw [br_true hb4] at h_1; cbv; iterate 12 try (rw [hb4]; cbv)
   try rw [hg] at h_1
   try rw [ht] at h_1
   refine ⟨⟨(n1, (wrap .i64 (add v1 1))), hs1.1, hs1.2, h_1⟩, Wk.of [(0, some 0)] rfl rfl ?_ ?_, Nat.lt_succ_self _⟩
   ·cbv; all_goals exact ⟨⟨_, rfl, rfl⟩, ⟨_, rfl, rfl⟩, ⟨_, rfl, rfl⟩, ⟨_, rfl, rfl⟩, trivial⟩
   cbv; all_goals exact ⟨⟨_, rfl, _, rfl, rfl, rfl, trivial⟩, trivial⟩
  rw [br_false hb4] at h_1; cbv; iterate 3 try (rw [hb4]; cbv)
  obtain ⟨hc1, h_1⟩ := of_gd h_1; refine AStep.mk hc1 ?_; cbv; obtain ⟨x4, hx4, h_1⟩ := of_gt h_1; obtain ⟨x4_From, x4_To, x4_Start, x4_Takes, x4_Days, x4_Room⟩ := x4; try dsimp only at h_1
  refine AGet.mk _ (r_get_Leg hg ht hx4) ?_; cbv; iterate 5 try (rw [hb4]; cbv)
  obtain ⟨x5, hx5, h_1⟩ := of_lP h_1; try dsimp only at h_1
  refine ACall.mk _ _ rfl (hF _ _ _ (c_I_LoadOf hg ht hx5)) (.inl rfl) (Nat.le_of_ble_eq_true rfl) ?_; cbv; iterate 4 try (rw [hb4]; cbv)
  cases hb5 : (le a5 (wrap .i64 (sub x4_Room x5)))
  rotate_left
  ·rw [br_true hb5] at h_1; cbv; obtain rfl := Option.some.inj h_1; try dsimp only [lr, lrL, lrp, lrpL] at h
   obtain rfl := Option.some.inj h; exact ARet.mk trivial hX.symm
  rw [br_false hb5] at h_1; cbv; try rw [hg] at h_1
  try rw [ht] at h_1
  refine ⟨⟨(n1, (wrap .i64 (add v1 1))), hs1.1, hs1.2, h_1⟩, Wk.of [(0, some 0)] rfl rfl ?_ ?_, Nat.lt_succ_self _⟩
  ·cbv; all_goals exact ⟨⟨_, rfl, rfl⟩, ⟨_, rfl, rfl⟩, ⟨_, rfl, rfl⟩, ⟨_, rfl, rfl⟩, trivial⟩
  cbv; all_goals exact ⟨⟨_, rfl, _, rfl, rfl, rfl, trivial⟩, trivial⟩
 rintro _ hy1; replace hy1 := hy1.symm; subst hy1; try dsimp only [lr, lrL, lrp, lrpL] at h
 cbv; obtain rfl := Option.some.inj h; exact ARet.mk trivial hX.symm
def ir117 : J := .seq (.reg none [⟨some 3, none, .box (.t 0)⟩,⟨some 6, none, .alloc [.r (.v (.int .i64 0)), .r (.v (.int .i64 0))]⟩,⟨some 7, none, .mv (.k (V.b false))⟩] [1, 2, 3, 6]) (.seq (.seq (.reg none [⟨some 8, none, .mv (.k (V.i 0))⟩] [1, 2, 3, 6, 8]) (.bl 0 (.seq (.seq (.reg none [⟨some 10, none, .mv (.t 8)⟩,⟨some 11, none, .bin .leq .i (.t 10) (.k (V.i 60))⟩] [1, 2, 3, 6, 8, 11]) (.cond (.t 11) (.skip) (.exit 0))) (.seq (.block 1 (.seq (.reg none [⟨some 14, none, .mv (.t 1)⟩,⟨some 15, none, .mv (.t 8)⟩,⟨some 16, none, .bld [.r (.v (.int .i64 0)), .r (.v (.int .i64 0))] [(0, 1, (.t 14)), (1, 1, (.t 15))]⟩,⟨some 9, none, .alloc [.r (.v (.int .i64 0)), .r (.v (.int .i64 0))]⟩,⟨none, none, .st 2 (.t 9) (.t 16)⟩] [1, 2, 3, 6, 8, 9]) (.seq (.reg none [⟨some 17, none, .ld true 3 (.t 3)⟩,⟨some 18, none, .mv (.t 1)⟩,⟨some 19, none, .mv (.t 8)⟩,⟨some 20, none, .call 93 true [(.t 17), (.t 18), (.t 19)]⟩,⟨some 21, none, .mv (.t 20)⟩,⟨some 22, (some (21, true)), .ld true 3 (.t 3)⟩,⟨some 23, (some (21, true)), .ld true 2 (.t 9)⟩,⟨some 24, (some (21, true)), .call 74 true [(.t 22), (.t 23)]⟩,⟨some 25, (some (21, true)), .mv (.t 2)⟩,⟨some 26, (some (21, true)), .bin .geq .i (.t 24) (.t 25)⟩,⟨some 27, none, .pick (.t 21) (.t 26) (.k (V.b false))⟩] [1, 2, 3, 6, 8, 9, 27]) (.cond (.t 27) (.seq (.reg none [⟨some 28, none, .ld true 2 (.t 9)⟩,⟨none, none, .st 2 (.t 6) (.t 28)⟩,⟨some 7, none, .mv (.k (V.b true))⟩] [6, 7]) (.ret)) (.skip))))) (.reg none [⟨some 12, none, .mv (.t 8)⟩,⟨some 13, none, .bin .add .i (.t 12) (.k (V.i 1))⟩,⟨some 8, none, .mv (.t 13)⟩] [1, 2, 3, 6, 8]))))) (.seq (.reg none [⟨some 29, none, .bld [.r (.v (.int .i64 0)), .r (.v (.int .i64 0))] []⟩,⟨none, none, .st 2 (.t 6) (.t 29)⟩,⟨some 7, none, .mv (.k (V.b false))⟩] [6, 7]) (.ret)))
def rv117 : List RV := [.c 6 true 2, .t 7]
def I_next_l1 (g : G) (t : TE) (a0 : Network) (a1 : Int) (a2 : Int) : Nat → Int → Option (LR (Trip × Bool) Unit)
  | 0, v1 =>
    some (LR.out ())
  | n1 + 1, v1 =>
    cl (I_runs g t a0 a1 v1) fun x1 =>
    br x1
    (
     cl (I_starts g t a0 (Trip.mk a1 v1)) fun x2 =>
     br (g.le a2 x2)
     (
      some (LR.ret (((Trip.mk a1 v1), true))))
     (
      I_next_l1 g t a0 a1 a2 n1 (g.wrap .i64 (g.add v1 1))))
    (
     I_next_l1 g t a0 a1 a2 n1 (g.wrap .i64 (g.add v1 1)))
def I_next (g : G) (t : TE) (a0 : Network) (a1 : Int) (a2 : Int) : Option (Trip × Bool) :=
  cl (I_next_l1 g t a0 a1 a2 (cntLe 0 60) 0) fun o1 => lr o1 fun y1 =>
  some (((Trip.mk 0 0), false))
theorem c_I_next {g : G} {t : TE} {a0 : Network} {a1 : Int} {a2 : Int} {r : Trip × Bool} (hg : g = G.real) (ht : t = TE.real) (h : I_next g t a0 a1 a2 = some r) : Fn Try.prog 117 [.g (Network.rs t a0), .c (.v (.int .i64 a1)), .c (.v (.int .i64 a2))] (.u [.g (Trip.ds t r.1), .c (.r (.v (.bool r.2)))]) := by
 obtain ⟨X, hX⟩ := hide (.u [.g (Trip.ds t r.1), .c (.r (.v (.bool r.2)))] : X); rw [← hX]; refine fn_of (rvs := rv117) (j := ir117) Try.func117 rfl (by kernel_rfl) (Nat.le_of_ble_eq_true rfl) (by kernel_rfl) prog_mixed ?_; intro g2 F hg2 hF; obtain rfl : g2 = g := hg2.unique.trans hg.symm; clear hg2; obtain ⟨wrap, _, le, _, _, _, _, _, _, _, _, _, _, add, _, _, _, _, _, _, _, _, _, _, _, _, _, _, _, _, _, _, _, _, _, _, _, _, _, _, _, _, _, _⟩ := g2; obtain ⟨r_Leg, _, r_I64, _, _, _, _, _, _, _, _, _, _, _, _⟩ := t
 obtain ⟨a0_Legs, a0_Off, a0_Change⟩ := a0; unfold I_next at h; try dsimp only at h
 cbv; obtain ⟨o1, ho1, h⟩ := of_cl h; try dsimp only at h
 try rw [hg] at ho1
 try rw [ht] at ho1
 refine ABL.mk { p : Nat × Int // p.1 = cntLe p.2 60 ∧ 0 ≤ p.2 ∧ I_next_l1 G.real TE.real (Network.mk a0_Legs a0_Off a0_Change) a1 a2 p.1 p.2 = some o1 } (fun ⟨⟨n1, v1⟩, _⟩ => ({ sl := [(1, .c (.r (.v (.int .i64 a1)))), (2, .c (.r (.v (.int .i64 a2)))), (3, .c (.p 0 3 0 0)), (6, .c (.p 1 2 0 0)), (8, .c (.r (.v (.int .i64 v1))))], tab := [(0, some (.foc 3 [] [.r (.s 6 (r_Leg a0_Legs)), .r (.s 1 (r_I64 a0_Off)), .r (.v (.int .i64 a0_Change))] [])), (1, some (.foc 2 [] [.r (.v (.int .i64 0)), .r (.v (.int .i64 0))] []))] } : St)) 2 (fun p => p.1.1) ⟨(cntLe 0 60, 0), rfl, Int.le_refl _, ho1⟩ (Unit) (fun _ => ({ sl := [(6, .c (.p 0 2 0 0))], tab := [(0, some (.foc 2 [] [.r (.v (.int .i64 0)), .r (.v (.int .i64 0))] []))] } : St)) 1 (fun y => o1 = LR.out y) ?_ ?_ ?_
 ·refine Wk.of [(0, some 0), (1, some 16)] rfl rfl ?_ ?_
  ·cbv; all_goals exact ⟨⟨_, rfl, rfl⟩, ⟨_, rfl, rfl⟩, ⟨_, rfl, rfl⟩, ⟨_, rfl, rfl⟩, ⟨_, rfl, rfl⟩, trivial⟩
  cbv; all_goals exact ⟨⟨_, rfl, _, rfl, rfl, rfl, rfl, trivial⟩, ⟨_, rfl, _, rfl, rfl, rfl, trivial⟩, trivial⟩
 ·rintro ⟨⟨n1, v1⟩, hn1, hi1, h_1⟩ hq1; try dsimp only at hn1 hi1 h_1
  clear hq1; cbv; rcases n1 with _ | n1
  ·have hb1 : le v1 60 = false := leC_false hg hn1; rw [I_next_l1] at h_1; try rw [← hg] at h_1
   try rw [← ht] at h_1
   try dsimp only at h_1
   rw [hb1]; cbv; refine ⟨(), Wk.of [(0, some 1)] rfl rfl ?_ ?_, (Option.some.inj h_1).symm⟩
   ·cbv; all_goals exact ⟨⟨_, rfl, rfl⟩, trivial⟩
   cbv; all_goals exact ⟨⟨_, rfl, _, rfl, rfl, rfl, trivial⟩, trivial⟩
  have hb1 : le v1 60 = true := leC_true hg hn1; have hl1 := leC_le hn1; have hs1 := stepleC hg hn1 hi1 (by decide) (by decide); rw [I_next_l1] at h_1; try rw [← hg] at h_1
  try rw [← ht] at h_1
  try dsimp only at h_1
  rw [hb1]; cbv; obtain ⟨x1, hx1, h_1⟩ := of_cl h_1; try dsimp only at h_1
  refine ACall.mk _ _ rfl (hF _ _ _ (c_I_runs hg ht hx1)) (.inl rfl) (Nat.le_of_ble_eq_true rfl) ?_; cbv
  cases hb2 : x1
  ·rw [br_false hb2] at h_1; cbv; iterate 5 try (rw [hb2]; cbv)
   try rw [hg] at h_1
   try rw [ht] at h_1
   refine ⟨⟨(n1, (wrap .i64 (add v1 1))), hs1.1, hs1.2, h_1⟩, Wk.of [(0, some 0), (1, some 1)] rfl rfl ?_ ?_, Nat.lt_succ_self _⟩
   ·cbv; all_goals exact ⟨⟨_, rfl, rfl⟩, ⟨_, rfl, rfl⟩, ⟨_, rfl, rfl⟩, ⟨_, rfl, rfl⟩, ⟨_, rfl, rfl⟩, trivial⟩
   cbv; all_goals exact ⟨⟨_, rfl, _, rfl, rfl, rfl, rfl, trivial⟩, ⟨_, rfl, _, rfl, rfl, rfl, trivial⟩, trivial⟩
  rw [br_true hb2] at h_1; cbv; iterate 2 try (rw [hb2]; cbv)
  obtain ⟨x2, hx2, h_1⟩ := of_cl h_1; try dsimp only at h_1
  refine ACall.mk _ _ rfl (hF _ _ _ (c_I_starts hg ht hx2)) (.inl rfl) (Nat.le_of_ble_eq_true rfl) ?_; cbv; iterate 3 try (rw [hb2]; cbv)
  cases hb3 : (le a2 x2)
  rotate_left
  ·rw [br_true hb3] at h_1; cbv; obtain rfl := Option.some.inj h_1; try dsimp only [lr, lrL, lrp, lrpL] at h
   obtain rfl := Option.some.inj h; exact ARet.mk trivial hX.symm
  rw [br_false hb3] at h_1; cbv; try rw [hg] at h_1
  try rw [ht] at h_1
  refine ⟨⟨(n1, (wrap .i64 (add v1 1))), hs1.1, hs1.2, h_1⟩, Wk.of [(0, some 0), (1, some 1)] rfl rfl ?_ ?_, Nat.lt_succ_self _⟩
  ·cbv; all_goals exact ⟨⟨_, rfl, rfl⟩, ⟨_, rfl, rfl⟩, ⟨_, rfl, rfl⟩, ⟨_, rfl, rfl⟩, ⟨_, rfl, rfl⟩, trivial⟩
  cbv; all_goals exact ⟨⟨_, rfl, _, rfl, rfl, rfl, rfl, trivial⟩, ⟨_, rfl, _, rfl, rfl, rfl, trivial⟩, trivial⟩
 rintro _ hy1; replace hy1 := hy1.symm; subst hy1; try dsimp only [lr, lrL, lrp, lrpL] at h
 cbv; obtain rfl := Option.some.inj h; exact ARet.mk trivial hX.symm
def ir116 : J := .seq (.reg none [⟨some 5, none, .alloc [.r (.v (.int .i64 0)), .r (.v (.int .i64 0))]⟩,⟨some 6, none, .mv (.k (V.b false))⟩] [0, 1, 2, 5]) (.seq (.reg none [⟨some 10, none, .ld true 3 (.t 2)⟩,⟨some 11, none, .mv (.t 0)⟩,⟨some 12, none, .mv (.t 1)⟩,⟨some 13, none, .call 117 true [(.t 10), (.t 11), (.t 12)]⟩,⟨some 9, none, .mv (.t 13)⟩,⟨some 14, none, .ext 0 (.t 9)⟩,⟨some 15, none, .ext 1 (.t 9)⟩,⟨some 7, none, .alloc [.r (.v (.int .i64 0)), .r (.v (.int .i64 0))]⟩,⟨none, none, .st 2 (.t 7) (.t 14)⟩,⟨some 8, none, .mv (.t 15)⟩] [5, 7, 8]) (.seq (.reg none [⟨some 16, none, .ld true 2 (.t 7)⟩,⟨some 17, none, .mv (.t 8)⟩,⟨none, none, .st 2 (.t 5) (.t 16)⟩,⟨some 6, none, .mv (.t 17)⟩] [5, 6]) (.ret)))
def rv116 : List RV := [.c 5 true 2, .t 6]
def I_nextOf_1 (g : G) (t : TE) (a0 : Int) (a1 : Int) (a2 : Network) : Option (Trip × Bool) :=
  cl (I_next g t a2 a0 a1) fun x1 =>
  some (((Trip.mk x1.1.Leg x1.1.Day), x1.2))
theorem c_I_nextOf_1 {g : G} {t : TE} {a0 : Int} {a1 : Int} {a2 : Network} {r : Trip × Bool} (hg : g = G.real) (ht : t = TE.real) (h : I_nextOf_1 g t a0 a1 a2 = some r) : Fn Try.prog 116 [.c (.v (.int .i64 a0)), .c (.v (.int .i64 a1)), .q (Network.rs t a2)] (.u [.g (Trip.ds t r.1), .c (.r (.v (.bool r.2)))]) := by
 obtain ⟨X, hX⟩ := hide (.u [.g (Trip.ds t r.1), .c (.r (.v (.bool r.2)))] : X); rw [← hX]; refine fn_of (rvs := rv116) (j := ir116) Try.func116 rfl (by kernel_rfl) (Nat.le_of_ble_eq_true rfl) (by kernel_rfl) prog_mixed ?_; intro g2 F hg2 hF; obtain rfl : g2 = g := hg2.unique.trans hg.symm; clear hg2; obtain ⟨_, _, _, _, _, _, _, _, _, _, _, _, _, _, _, _, _, _, _, _, _, _, _, _, _, _, _, _, _, _, _, _, _, _, _, _, _, _, _, _, _, _, _, _⟩ := g2; obtain ⟨_, _, _, _, _, _, _, _, _, _, _, _, _, _, _⟩ := t
 obtain ⟨a2_Legs, a2_Off, a2_Change⟩ := a2; unfold I_nextOf_1 at h; try dsimp only at h
 cbv; obtain ⟨x1, hx1, h⟩ := of_cl h; obtain ⟨⟨x1_1_Leg, x1_1_Day⟩, x1_2⟩ := x1; try dsimp only at h
 refine ACall.mk _ _ rfl (hF _ _ _ (c_I_next hg ht hx1)) (.inl rfl) (Nat.le_of_ble_eq_true rfl) ?_; cbv; obtain rfl := Option.some.inj h; exact ARet.mk trivial hX.symm
def callFd (g : G) (t : TE) (f : Fd) (x0 : Int) (x1 : Int) : Option (Trip × Bool) := match f with
  | .I_freeOf_1 a0 a1 a2 a3 => I_freeOf_1 g t x0 x1 a0 a1 a2 a3
  | .I_nextOf_1 a0 => I_nextOf_1 g t x0 x1 a0
theorem c_callFd {g : G} {t : TE} {f : Fd} {x0 : Int} {x1 : Int} {r : Trip × Bool} (hg : g = G.real) (ht : t = TE.real) (h : callFd g t f x0 x1 = some r) : ∃ (q : Nat) (bs : List (List R)), t.r_Fd f = .fn q bs ∧ (funcOK Try.prog q = true ∧ Fn Try.prog q ([.c (.v (.int .i64 x0)), .c (.v (.int .i64 x1))] ++ bs.map A.q) (.u [.g (Trip.ds t r.1), .c (.r (.v (.bool r.2)))])) := by
 cases f with
 | I_freeOf_1 a0 a1 a2 a3 =>
  exact ⟨_, _, (fdc_I_freeOf_1 ht a0 a1 a2 a3).symm, by kernel_rfl, c_I_freeOf_1 hg ht h⟩
 | I_nextOf_1 a0 =>
  exact ⟨_, _, (fdc_I_nextOf_1 ht a0).symm, by kernel_rfl, c_I_nextOf_1 hg ht h⟩
def ir53 : J := .seq (.reg none [⟨some 5, none, .box (.t 0)⟩,⟨some 10, none, .mv (.k (.c (.n 1)))⟩] [1, 2, 3, 4, 5]) (.seq (.reg none [⟨some 23, none, .ld true 3 (.t 5)⟩,⟨some 24, none, .call 72 true [(.t 23)]⟩,⟨some 11, none, .mv (.t 24)⟩] [1, 2, 3, 4, 5, 11]) (.seq (.reg none [⟨some 25, none, .mv (.t 11)⟩,⟨some 26, none, .mv (.t 2)⟩,⟨some 27, none, .call 71 true [(.t 25), (.t 26)]⟩,⟨some 12, none, .mv (.t 27)⟩] [1, 3, 4, 5, 11, 12]) (.seq (.seq (.reg none [⟨some 28, none, .mv (.t 12)⟩,⟨some 29, none, .bin .lss .i (.t 28) (.k (V.i 0))⟩,⟨some 30, none, .mv (.t 29)⟩,⟨some 31, (some (30, false)), .mv (.t 3)⟩,⟨some 32, (some (30, false)), .bin .gtr .i (.t 31) (.k (V.i 100000))⟩,⟨some 33, none, .pick (.t 30) (.k (V.b true)) (.t 32)⟩,⟨some 34, none, .mv (.t 33)⟩,⟨some 35, (some (34, false)), .mv (.t 4)⟩,⟨some 36, (some (34, false)), .bin .lss .i (.t 35) (.k (V.i 0))⟩,⟨some 37, none, .pick (.t 34) (.k (V.b true)) (.t 36)⟩] [1, 3, 4, 5, 11, 12, 37]) (.cond (.t 37) (.seq (.reg none [⟨some 10, none, .mv (.k (.c (.n 1)))⟩] [10]) (.ret)) (.skip))) (.seq (.reg none [⟨some 38, none, .bsl 1 []⟩,⟨some 13, none, .mv (.t 38)⟩] [1, 3, 4, 5, 11, 12, 13]) (.seq (.seq (.reg none [⟨some 39, none, .mv (.t 11)⟩,⟨some 40, none, .len false (.t 39)⟩,⟨some 41, none, .mv (.k (V.i 0))⟩] [1, 3, 4, 5, 11, 12, 13, 40, 41]) (.bl 0 (.seq (.reg none [⟨some 42, none, .bin .lss .i (.t 41) (.t 40)⟩] [1, 3, 4, 5, 11, 12, 13, 40, 41, 42]) (.seq (.cond (.t 42) (.skip) (.exit 0)) (.seq (.block 1 (.reg none [⟨some 43, none, .mv (.t 13)⟩,⟨some 44, none, .bsl 1 [(.k (V.i (-1)))]⟩,⟨some 45, none, .app 1 8 true (.t 43) (.t 44)⟩,⟨some 13, none, .mv (.t 45)⟩] [1, 3, 4, 5, 11, 12, 13, 40, 41])) (.reg none [⟨some 46, none, .bin .add .i (.t 41) (.k (V.i 1))⟩,⟨some 41, none, .mv (.t 46)⟩] [1, 3, 4, 5, 11, 12, 13, 40, 41])))))) (.seq (.reg none [⟨some 47, none, .mv (.t 13)⟩,⟨some 48, none, .mv (.t 12)⟩,⟨some 49, none, .mv (.t 3)⟩,⟨some 50, none, .mnx true (.t 49) (.k (V.i 0))⟩,⟨some 51, none, .ia 1 (.t 47) (.t 48)⟩,⟨none, none, .st 1 (.t 51) (.t 50)⟩] [1, 4, 5, 11, 12, 13]) (.seq (.seq (.reg none [⟨some 14, none, .mv (.k (V.i 0))⟩] [1, 4, 5, 11, 12, 13, 14]) (.bl 2 (.seq (.seq (.reg none [⟨some 52, none, .mv (.t 14)⟩,⟨some 53, none, .mv (.t 4)⟩,⟨some 54, none, .bin .lss .i (.t 52) (.t 53)⟩] [1, 4, 5, 11, 12, 13, 14, 54]) (.cond (.t 54) (.skip) (.exit 2))) (.seq (.block 3 (.seq (.reg none [⟨some 57, none, .bsl 1 []⟩,⟨some 58, none, .mv (.t 13)⟩,⟨some 59, none, .app 1 8 false (.t 57) (.t 58)⟩,⟨some 15, none, .mv (.t 59)⟩] [1, 4, 5, 11, 12, 13, 14, 15]) (.seq (.reg none [⟨some 16, none, .mv (.k (V.b false))⟩] [1, 4, 5, 11, 12, 13, 14, 15, 16]) (.seq (.seq (.reg none [⟨some 60, none, .fa 0 (.t 5)⟩,⟨some 61, none, .ld false 1 (.t 60)⟩,⟨some 62, none, .len false (.t 61)⟩,⟨some 63, none, .mv (.k (V.i 0))⟩] [1, 4, 5, 11, 12, 13, 14, 15, 16, 61, 62, 63]) (.bl 4 (.seq (.reg none [⟨some 64, none, .bin .lss .i (.t 63) (.t 62)⟩] [1, 4, 5, 11, 12, 13, 14, 15, 16, 61, 62, 63, 64]) (.seq (.cond (.t 64) (.skip) (.exit
 4)) (.seq (.block 5 (.seq (.reg none [⟨some 65, none, .mv (.t 63)⟩,⟨some 66, none, .ia 6 (.t 61) (.t 63)⟩,⟨some 67, none, .ld true 6 (.t 66)⟩,⟨some 18, none, .alloc [.r (.v (.string .empty)), .r (.v (.string .empty)), .r (.v (.int .i64 0)), .r (.v (.int .i64 0)), .r (.v (.int .i64 0)), .r (.v (.int .i64 0))]⟩,⟨some 17, none, .mv (.t 65)⟩,⟨none, none, .st 6 (.t 18) (.t 67)⟩] [1, 4, 5, 11, 12, 13, 14, 15, 16, 17, 18, 61, 62, 63]) (.seq (.reg none [⟨some 68, none, .mv (.t 11)⟩,⟨some 69, none, .fa 0 (.t 18)⟩,⟨some 70, none, .ld false 1 (.t 69)⟩,⟨some 71, none, .call 71 true [(.t 68), (.t 70)]⟩,⟨some 19, none, .mv (.t 71)⟩] [1, 4, 5, 11, 12, 13, 14, 15, 16, 17, 18, 19, 61, 62, 63]) (.seq (.reg none [⟨some 72, none, .mv (.t 11)⟩,⟨some 73, none, .fa 1 (.t 18)⟩,⟨some 74, none, .ld false 1 (.t 73)⟩,⟨some 75, none, .call 71 true [(.t 72), (.t 74)]⟩,⟨some 20, none, .mv (.t 75)⟩] [1, 4, 5, 11, 12, 13, 14, 15, 16, 17, 19, 20, 61, 62, 63]) (.seq (.seq (.reg none [⟨some 76, none, .mv (.t 13)⟩,⟨some 77, none, .mv (.t 19)⟩,⟨some 78, none, .ia 1 (.t 76) (.t 77)⟩,⟨some 79, none, .ld false 1 (.t 78)⟩,⟨some 80, none, .bin .lss .i (.t 79) (.k (V.i 0))⟩] [1, 4, 5, 11, 12, 13, 14, 15, 16, 17, 19, 20, 61, 62, 63, 80]) (.cond (.t 80) (.exit 5) (.skip))) (.seq (.reg (some [[], [], [], [], [], [3, 4], [3, 4, 5], [], [], [7, 8], [2, 3, 4, 5, 6, 7, 8, 9], [0, 1, 2, 3, 4, 5, 6, 7, 8, 9, 10], [0, 1, 2, 3, 4, 5, 6, 7, 8, 9, 10, 11], [0, 1, 2, 3, 4, 5, 6, 7, 8, 9, 10, 11, 12], [0, 1, 2, 3, 4, 5, 6, 7, 8, 9, 10, 11, 12], [], [0, 1, 2, 3, 4, 5, 6, 7, 8, 9, 10, 11, 12, 13, 15], [0, 1, 2, 3, 4, 5, 6, 7, 8, 9, 10, 11, 12, 13, 14, 15, 16]]) [⟨some 82, none, .mv (.t 1)⟩,⟨some 83, none, .mv (.t 17)⟩,⟨some 84, none, .ld true 3 (.t 5)⟩,⟨some 85, none, .mv (.t 13)⟩,⟨some 86, none, .mv (.t 19)⟩,⟨some 87, none, .ia 1 (.t 85) (.t 86)⟩,⟨some 88, none, .ld false 1 (.t 87)⟩,⟨some 89, none, .mv (.t 19)⟩,⟨some 90, none, .mv (.t 12)⟩,⟨some 91, none, .bin .eql .i (.t 89) (.t 90)⟩,⟨some 92, none, .call 91 true [(.t 84), (.t 88), (.t 91)]⟩,⟨some 93, none, .callv true (.t 82) [(.t 83), (.t 92)]⟩,⟨some 81, none, .mv (.t 93)⟩,⟨some 94, none, .ext 0 (.t 81)⟩,⟨some 95, none, .ext 1 (.t 81)⟩,⟨some 21, none, .alloc [.r (.v (.int .i64 0)), .r (.v (.int .i64 0))]⟩,⟨none, none, .st 2 (.t 21) (.t 94)⟩,⟨some 22, none, .mv (.t 95)⟩] [1, 4, 5, 11, 12, 13, 14, 15, 16, 20, 21, 22, 61, 62, 63]) (.seq (.reg (some [[], [0], [0, 1], [0, 1], [0, 1, 2, 3], [0, 1, 2, 3, 4], [0, 1, 2, 3, 4, 5], [0, 1, 2, 3, 4, 5, 6], [0, 1, 2, 3, 4, 5, 6, 7], [0, 1, 2, 3, 4, 5, 6, 7], [0, 1, 2, 3, 4, 5, 6, 7, 8, 9], [0, 1, 2, 3, 4, 5, 6, 7], [0, 1, 2, 3, 4, 5, 6, 7], [0, 1, 2, 3, 4, 5, 6, 7, 11, 12], [0, 1, 2, 3, 4, 5, 6, 7, 11, 12, 13], [0, 1, 2, 3, 4, 5, 6, 7, 8, 9, 10, 11, 12, 13, 14], [0, 1, 2, 3, 4, 5, 6, 7, 8, 9, 10, 11, 12, 13, 14, 15], [0, 1, 2, 3, 4, 5, 6, 7, 8, 9, 10, 11, 12, 13, 14, 15, 16]]) [⟨some 96, none, .mv (.t 22)⟩,⟨some 97, none, .mv (.t 96)⟩,⟨some 98, (some (97, true)), .mv (.t 15)⟩,⟨some 99, (some (97, true)), .mv (.t 20)⟩,⟨some
 100, (some (97, true)), .ia 1 (.t 98) (.t 99)⟩,⟨some 101, (some (97, true)), .ld false 1 (.t 100)⟩,⟨some 102, (some (97, true)), .bin .lss .i (.t 101) (.k (V.i 0))⟩,⟨some 103, (some (97, true)), .mv (.t 102)⟩,⟨some 104, (some (103, false)), .ld true 3 (.t 5)⟩,⟨some 105, (some (103, false)), .ld true 2 (.t 21)⟩,⟨some 106, (some (103, false)), .call 75 true [(.t 104), (.t 105)]⟩,⟨some 107, (some (103, false)), .mv (.t 15)⟩,⟨some 108, (some (103, false)), .mv (.t 20)⟩,⟨some 109, (some (103, false)), .ia 1 (.t 107) (.t 108)⟩,⟨some 110, (some (103, false)), .ld false 1 (.t 109)⟩,⟨some 111, (some (103, false)), .bin .lss .i (.t 106) (.t 110)⟩,⟨some 112, (some (97, true)), .pick (.t 103) (.k (V.b true)) (.t 111)⟩,⟨some 113, none, .pick (.t 97) (.t 112) (.k (V.b false))⟩] [1, 4, 5, 11, 12, 13, 14, 15, 16, 20, 21, 61, 62, 63, 113]) (.cond (.t 113) (.seq (.reg none [⟨some 114, none, .mv (.t 15)⟩,⟨some 115, none, .mv (.t 20)⟩,⟨some 116, none, .ld true 3 (.t 5)⟩,⟨some 117, none, .ld true 2 (.t 21)⟩,⟨some 118, none, .call 75 true [(.t 116), (.t 117)]⟩,⟨some 119, none, .ia 1 (.t 114) (.t 115)⟩,⟨none, none, .st 1 (.t 119) (.t 118)⟩] [1, 4, 5, 11, 12, 13, 14, 15, 61, 62, 63]) (.reg none [⟨some 16, none, .mv (.k (V.b true))⟩] [1, 4, 5, 11, 12, 13, 14, 15, 16, 61, 62, 63])) (.skip))))))))) (.reg none [⟨some 120, none, .bin .add .i (.t 63) (.k (V.i 1))⟩,⟨some 63, none, .mv (.t 120)⟩] [1, 4, 5, 11, 12, 13, 14, 15, 16, 61, 62, 63])))))) (.seq (.reg none [⟨some 121, none, .mv (.t 15)⟩,⟨some 13, none, .mv (.t 121)⟩] [1, 4, 5, 11, 12, 13, 14, 16]) (.seq (.reg none [⟨some 122, none, .mv (.t 16)⟩,⟨some 123, none, .not (.t 122)⟩] [1, 4, 5, 11, 12, 13, 14, 123]) (.cond (.t 123) (.exit 2) (.skip)))))))) (.reg none [⟨some 55, none, .mv (.t 14)⟩,⟨some 56, none, .bin .add .i (.t 55) (.k (V.i 1))⟩,⟨some 14, none, .mv (.t 56)⟩] [1, 4, 5, 11, 12, 13, 14]))))) (.seq (.reg none [⟨some 124, none, .mv (.t 13)⟩,⟨some 10, none, .mv (.t 124)⟩] [10]) (.ret)))))))))
def rv53 : List RV := [.t 10]
def I_arrivals_l3 (g : G) (t : TE) (a0 : Network) (a1 : Fd) (w2 : List Int) (x1 : List ByteArray) (x2 : Int) : List Leg → Int → List Int → Bool → Option ((List Int) × Bool)
  | [], v4, w3, v3 =>
    some (w3, v3)
  | z3 :: ls3, v4, w3, v3 =>
    lP (I_placeAt g t x1 z3.From) fun x4 =>
    lP (I_placeAt g t x1 z3.To) fun x5 =>
    gd (((0 : Int) ≤ x4 ∧ x4 < (((g.dlen (t.d_I64 w2)) : Nat) : Int))) <|
    gt w2 (g.nat x4) fun x6 =>
    br (g.lt x6 0)
    (
     I_arrivals_l3 g t a0 a1 w2 x1 x2 ls3 (g.wrap .i64 (g.add v4 1)) w3 v3)
    (
     gd (((0 : Int) ≤ x4 ∧ x4 < (((g.dlen (t.d_I64 w2)) : Nat) : Int))) <|
     lP (I_readyAt g t a0 x6 (g.eq x4 x2)) fun x7 =>
     cl (callFd g t a1 v4 x7) fun x8 =>
     br x8.2
     (
      gd (((0 : Int) ≤ x5 ∧ x5 < (((g.dlen (t.d_I64 w3)) : Nat) : Int))) <|
      gt w3 (g.nat x5) fun x9 =>
      br (g.lt x9 0)
      (
       cl (I_ends g t a0 (Trip.mk x8.1.Leg x8.1.Day)) fun x10 =>
       gd (((0 : Int) ≤ x5 ∧ x5 < (((g.dlen (t.d_I64 w3)) : Nat) : Int))) <|
       lP (List.set w3 (g.nat x5) x10) fun (l7 : List Int) =>
       I_arrivals_l3 g t a0 a1 w2 x1 x2 ls3 (g.wrap .i64 (g.add v4 1)) l7 true)
      (
       cl (I_ends g t a0 (Trip.mk x8.1.Leg x8.1.Day)) fun x11 =>
       gd (((0 : Int) ≤ x5 ∧ x5 < (((g.dlen (t.d_I64 w3)) : Nat) : Int))) <|
       br (g.lt x11 x9)
       (
        cl (I_ends g t a0 (Trip.mk x8.1.Leg x8.1.Day)) fun x12 =>
        gd (((0 : Int) ≤ x5 ∧ x5 < (((g.dlen (t.d_I64 w3)) : Nat) : Int))) <|
        lP (List.set w3 (g.nat x5) x12) fun (l8 : List Int) =>
        I_arrivals_l3 g t a0 a1 w2 x1 x2 ls3 (g.wrap .i64 (g.add v4 1)) l8 true)
       (
        I_arrivals_l3 g t a0 a1 w2 x1 x2 ls3 (g.wrap .i64 (g.add v4 1)) w3 v3)))
     (
      I_arrivals_l3 g t a0 a1 w2 x1 x2 ls3 (g.wrap .i64 (g.add v4 1)) w3 v3))
def I_arrivals_l2 (g : G) (t : TE) (a0 : Network) (a1 : Fd) (x1 : List ByteArray) (x2 : Int) : Nat → List Int → Option (List Int)
  | 0, w2 =>
    some w2
  | n2 + 1, w2 =>
    lP ([]) fun (l5 : List Int) =>
    gd (((l5.length + w2.length) * 8 ≤ 70368744177664)) <|
    lP (l5 ++ w2) fun (l6 : List Int) =>
    cl (I_arrivals_l3 g t a0 a1 w2 x1 x2 a0.Legs 0 l6 false) fun y2 =>
    br y2.2
    (
     I_arrivals_l2 g t a0 a1 x1 x2 n2 y2.1)
    (
     some y2.1)
def I_arrivals_l1 (g : G) (t : TE) : Nat → List Int → Option (List Int)
  | 0, w1 =>
    some w1
  | n1 + 1, w1 =>
    lP ([(-1)]) fun (l2 : List Int) =>
    gd (((w1.length + l2.length) * 8 ≤ 70368744177664)) <|
    lP (w1 ++ l2) fun (l3 : List Int) =>
    I_arrivals_l1 g t n1 l3
def I_arrivals (g : G) (t : TE) (a0 : Network) (a1 : Fd) (a2 : ByteArray) (a3 : Int) (a4 : Int) : Option (List Int) :=
  cl (I_PlacesOf g t a0) fun x1 =>
  lP (I_placeAt g t x1 a2) fun x2 =>
  br (g.lt x2 0)
  (
   some [])
  (
   br (g.lt 100000 a3)
   (
    some [])
   (
    br (g.lt a4 0)
    (
     some [])
    (
     lP ([]) fun (l1 : List Int) =>
     gd (((g.int (g.dlen (t.d_S x1))) ≤ 9223372036854775807)) <|
     cl (I_arrivals_l1 g t (cntLt 0 (g.int (g.dlen (t.d_S x1)))) l1) fun y1 =>
     gd (((0 : Int) ≤ x2 ∧ x2 < (((g.dlen (t.d_I64 y1)) : Nat) : Int))) <|
     gt y1 (g.nat x2) fun x3 =>
     lP (List.set y1 (g.nat x2) (g.imax a3 0)) fun (l4 : List Int) =>
     gd ((a4 ≤ 9223372036854775807)) <|
     cl (I_arrivals_l2 g t a0 a1 x1 x2 (cntLt 0 a4) l4) fun y3 =>
     some y3)))
theorem c_I_arrivals {g : G} {t : TE} {a0 : Network} {a1 : Fd} {a2 : ByteArray} {a3 : Int} {a4 : Int} {r : List Int} (hg : g = G.real) (ht : t = TE.real) (h : I_arrivals g t a0 a1 a2 a3 a4 = some r) : Fn Try.prog 53 [.g (Network.rs t a0), .c (t.r_Fd a1), .c (.v (.string a2)), .c (.v (.int .i64 a3)), .c (.v (.int .i64 a4))] (.c (.o 1 (t.d_I64 r))) := by
 obtain ⟨X, hX⟩ := hide (.c (.o 1 (t.d_I64 r)) : X); rw [← hX]; refine fn_of (rvs := rv53) (j := ir53) Try.func53 rfl (by kernel_rfl) (Nat.le_of_ble_eq_true rfl) (by kernel_rfl) prog_mixed ?_; intro g2 F hg2 hF; obtain rfl : g2 = g := hg2.unique.trans hg.symm; clear hg2; obtain ⟨wrap, lt, _, _, _, _, _, _, _, _, _, _, int, add, _, _, _, _, _, _, _, llen, _, _, dlen, _, _, _, rd, _, _, _, _, _, _, _, _, _, _, _, _, imax, _, _⟩ := g2; obtain ⟨r_Leg, _, r_I64, d_I64, _, _, _, _, r_S, d_S, _, _, _, _, r_Fd⟩ := t
 obtain ⟨a0_Legs, a0_Off, a0_Change⟩ := a0; have hnil_I64 : d_I64 [] = [] := d_nil_I64 ht; unfold I_arrivals at h; try dsimp only at h
 cbv; obtain ⟨x1, hx1, h⟩ := of_cl h; try dsimp only at h
 refine ACall.mk _ _ rfl (hF _ _ _ (c_I_PlacesOf hg ht hx1)) (.inl rfl) (Nat.le_of_ble_eq_true rfl) ?_; cbv; refine AStep.mk (lend_S ht (dlen_S hg ht _)) ?_; cbv; obtain ⟨x2, hx2, h⟩ := of_lP h; try dsimp only at h
 refine ACall.mk _ _ (by rw [show rd (d_S x1) 0 (dlen (d_S x1)) = r_S x1 from rdw_S hg ht (dlen_S hg ht _)]; try rfl) (hF _ _ _ (c_I_placeAt hg ht hx2)) (.inr rfl) (Nat.le_of_ble_eq_true rfl) ?_
 cbv
 cases hb1 : (lt x2 0)
 rotate_left
 ·rw [br_true hb1] at h; cbv; iterate 2 try (rw [hb1]; cbv)
  obtain rfl := Option.some.inj h; exact ARet.mk trivial (by rw [hX]; first | rfl | (simp only [Leg.ds, Network.ds, Trip.ds, Scan.ds, Booking.ds, Spot.ds, hnil_I64]; try rfl))
 rw [br_false hb1] at h; cbv; iterate 2 try (rw [hb1]; cbv)
 cases hb2 : (lt 100000 a3)
 rotate_left
 ·rw [br_true hb2] at h; cbv; iterate 2 try (rw [hb2]; cbv)
  obtain rfl := Option.some.inj h; exact ARet.mk trivial (by rw [hX]; first | rfl | (simp only [Leg.ds, Network.ds, Trip.ds, Scan.ds, Booking.ds, Spot.ds, hnil_I64]; try rfl))
 rw [br_false hb2] at h; cbv; iterate 2 try (rw [hb2]; cbv)
 cases hb3 : (lt a4 0)
 rotate_left
 ·rw [br_true hb3] at h; cbv; obtain rfl := Option.some.inj h; exact ARet.mk trivial (by rw [hX]; first | rfl | (simp only [Leg.ds, Network.ds, Trip.ds, Scan.ds, Booking.ds, Spot.ds, hnil_I64]; try rfl))
 rw [br_false hb3] at h; cbv; obtain ⟨l1, hl1, h⟩ := of_lP h; try dsimp only at h
 refine ANew.mk (d_I64 l1) (dlen (d_I64 l1)) (by rw [← hl1]; exact lit_I64 hg ht []) (by rw [← hl1]; exact litn_I64 hg ht []) ?_; cbv; obtain ⟨hB1, h⟩ := of_gd h; obtain ⟨o1, ho1, h⟩ := of_cl h; try dsimp only at h
 try rw [hg] at ho1
 try rw [ht] at ho1
 refine ABL.mk { p : Nat × Int × List Int // p.1 = cntLt p.2.1 (int (dlen (d_S x1))) ∧ 0 ≤ p.2.1 ∧ I_arrivals_l1 G.real TE.real p.1 p.2.2 = some o1 } (fun ⟨⟨n1, v1, w1⟩, _⟩ => ({ sl := [(1, .c (.r (r_Fd a1))), (3, .c (.r (.v (.int .i64 a3)))), (4, .c (.r (.v (.int .i64 a4)))), (5, .c (.p 0 3 0 0)), (11, .c (.f 1 1 0 (dlen (d_S x1)))), (12, .c (.r (.v (.int .i64 x2)))), (13, .c (.f 2 1 0 (dlen (d_I64 w1)))), (40, .c (.r (.v (.int .i64 (int (dlen (d_S x1))))))), (41, .c (.r (.v (.int .i64 v1))))], tab := [(0, some (.foc 3 [] [.r (.s 6 (r_Leg a0_Legs)), .r (.s 1 (r_I64 a0_Off)), .r (.v (.int .i64 a0_Change))] [])), (1, some (.arr 1 (d_S x1))), (2, some (.arr 1 (d_I64 w1)))] } : St)) 3 (fun p => p.1.1) ⟨(cntLt 0 (int (dlen (d_S x1))), 0, l1), rfl, Int.le_refl _, ho1⟩ (List Int) (fun y1 => ({ sl := [(1, .c (.r (r_Fd a1))), (3, .c (.r (.v (.int .i64 a3)))), (4, .c (.r (.v (.int .i64 a4)))), (5, .c (.p 0 3 0 0)), (11, .c (.f 1 1 0 (dlen (d_S x1)))), (12, .c (.r (.v (.int .i64 x2)))), (13, .c (.f 2 1 0 (dlen (d_I64 y1))))], tab := [(0, some (.foc 3 [] [.r (.s 6 (r_Leg a0_Legs)), .r (.s 1 (r_I64 a0_Off)), .r (.v (.int .i64 a0_Change))] [])), (1, some (.arr 1 (d_S x1))), (2, some (.arr 1 (d_I64 y1)))] } : St)) 3 (fun y => o1 = y) ?_ ?_ ?_
 ·refine Wk.of [(0, some 0), (1, some 48), (2, some 304)] rfl rfl ?_ ?_
  ·cbv; all_goals exact ⟨⟨_, rfl, rfl⟩, ⟨_, rfl, rfl⟩, ⟨_, rfl, rfl⟩, ⟨_, rfl, rfl⟩, ⟨_, rfl, rfl⟩, ⟨_, rfl, rfl⟩, ⟨_, rfl, rfl⟩, ⟨_, rfl, rfl⟩, ⟨_, rfl, rfl⟩, trivial⟩
  cbv; all_goals exact ⟨⟨_, rfl, _, rfl, rfl, rfl, rfl, trivial⟩, ⟨_, rfl, rfl⟩, ⟨_, rfl, rfl⟩, trivial⟩
 ·rintro ⟨⟨n1, v1, w1⟩, hn1, hi1, h_1⟩ hq1; try dsimp only at hn1 hi1 h_1
  clear hq1; cbv; rcases n1 with _ | n1
  ·have hb4 : lt v1 (int (dlen (d_S x1))) = false := ltC_false hg hn1; rw [I_arrivals_l1] at h_1; try rw [← hg] at h_1
   try rw [← ht] at h_1
   try dsimp only at h_1
   rw [hb4]; cbv; refine ⟨w1, Wk.of [(0, some 0), (1, some 1), (2, some 2)] rfl rfl ?_ ?_, (Option.some.inj h_1).symm⟩
   ·cbv; all_goals exact ⟨⟨_, rfl, rfl⟩, ⟨_, rfl, rfl⟩, ⟨_, rfl, rfl⟩, ⟨_, rfl, rfl⟩, ⟨_, rfl, rfl⟩, ⟨_, rfl, rfl⟩, ⟨_, rfl, rfl⟩, trivial⟩
   cbv; all_goals exact ⟨⟨_, rfl, _, rfl, rfl, rfl, rfl, trivial⟩, ⟨_, rfl, rfl⟩, ⟨_, rfl, rfl⟩, trivial⟩
  have hb4 : lt v1 (int (dlen (d_S x1))) = true := ltC_true hg hn1; have hl1 := ltC_le hn1; have hs1 := stepltC hg hn1 hi1 hB1 (by decide); rw [I_arrivals_l1] at h_1; try rw [← hg] at h_1
  try rw [← ht] at h_1
  try dsimp only at h_1
  rw [hb4]; cbv; obtain ⟨l2, hl2, h_1⟩ := of_lP h_1; try dsimp only at h_1
  refine ANew.mk (d_I64 l2) (dlen (d_I64 l2)) (by rw [← hl2]; exact lit_I64 hg ht [(-1)]) (by rw [← hl2]; exact litn_I64 hg ht [(-1)]) ?_; cbv; obtain ⟨hc1, h_1⟩ := of_gd h_1; refine AStep.mk ⟨⟨rfl, (dlen_I64 hg ht _)⟩, (app_ok_I64 hg ht (dlen_I64 hg ht _) rfl hc1)⟩ ?_; cbv; obtain ⟨l3, hl3, h_1⟩ := of_lP h_1; try dsimp only at h_1
  refine ANew.mk (d_I64 l3) (dlen (d_I64 l3)) (by rw [← hl3]; exact app_I64 hg ht (dlen_I64 hg ht _) rfl) (by rw [← hl3]; exact appl_I64 hg ht (dlen_I64 hg ht _) rfl) ?_; cbv; try rw [hg] at h_1
  try rw [ht] at h_1
  refine ⟨⟨(n1, (wrap .i64 (add v1 1)), l3), hs1.1, hs1.2, h_1⟩, Wk.of [(0, some 0), (1, some 1), (2, some 51)] rfl rfl ?_ ?_, Nat.lt_succ_self _⟩
  ·cbv; all_goals exact ⟨⟨_, rfl, rfl⟩, ⟨_, rfl, rfl⟩, ⟨_, rfl, rfl⟩, ⟨_, rfl, rfl⟩, ⟨_, rfl, rfl⟩, ⟨_, rfl, rfl⟩, ⟨_, rfl, rfl⟩, ⟨_, rfl, rfl⟩, ⟨_, rfl, rfl⟩, trivial⟩
  cbv; all_goals exact ⟨⟨_, rfl, _, rfl, rfl, rfl, rfl, trivial⟩, ⟨_, rfl, rfl⟩, ⟨_, rfl, rfl⟩, trivial⟩
 rintro y1 hy1; replace hy1 := hy1.symm; subst hy1; try dsimp only [lr, lrL, lrp, lrpL] at h
 cbv; obtain ⟨hc2, h⟩ := of_gd h; refine AStep.mk hc2 ?_; cbv; obtain ⟨x3, hx3, h⟩ := of_gt h; try dsimp only at h
 refine AGet.mk _ (d_get_I64 hg ht hx3) ?_; cbv; obtain ⟨l4, hl4, h⟩ := of_lP h; try dsimp only at h
 refine ANew.mk (d_I64 l4) _ (by rw [← hl4]; exact dset_I64 hg ht _ _ (imax a3 0)) rfl ?_; have hnl4 : (dlen (d_I64 y1)) = (d_I64 l4).length := (by rw [← hl4, dsetl_I64 ht]; exact (dlen_I64 hg ht _)); cbv; obtain ⟨hB2, h⟩ := of_gd h; obtain ⟨o2, ho2, h⟩ := of_cl h; try dsimp only at h
 try rw [hg] at ho2
 try rw [ht] at ho2
 refine ABL.mk { p : Nat × Int × List Int // p.1 = cntLt p.2.1 a4 ∧ 0 ≤ p.2.1 ∧ I_arrivals_l2 G.real TE.real (Network.mk a0_Legs a0_Off a0_Change) a1 x1 x2 p.1 p.2.2 = some o2 } (fun ⟨⟨n2, v2, w2⟩, _⟩ => ({ sl := [(1, .c (.r (r_Fd a1))), (4, .c (.r (.v (.int .i64 a4)))), (5, .c (.p 0 3 0 0)), (11, .c (.f 1 1 0 (dlen (d_S x1)))), (12, .c (.r (.v (.int .i64 x2)))), (13, .c (.f 2 1 0 (dlen (d_I64 w2)))), (14, .c (.r (.v (.int .i64 v2))))], tab := [(0, some (.foc 3 [] [.r (.s 6 (r_Leg a0_Legs)), .r (.s 1 (r_I64 a0_Off)), .r (.v (.int .i64 a0_Change))] [])), (1, some (.arr 1 (d_S x1))), (2, some (.arr 1 (d_I64 w2)))] } : St)) 3 (fun p => p.1.1) ⟨(cntLt 0 a4, 0, l4), rfl, Int.le_refl _, ho2⟩ (List Int) (fun y3 => ({ sl := [(13, .c (.f 0 1 0 (dlen (d_I64 y3))))], tab := [(0, some (.arr 1 (d_I64 y3)))] } : St)) 1 (fun y => o2 = y) ?_ ?_ ?_
 ·refine Wk.of [(0, some 0), (1, some 1), (2, some 2)] rfl rfl ?_ ?_
  ·cbv; all_goals try rw [show (dlen (d_I64 y1)) = (dlen (d_I64 l4)) from (hnl4).trans (dlen_I64 hg ht _).symm]
   all_goals exact ⟨⟨_, rfl, rfl⟩, ⟨_, rfl, rfl⟩, ⟨_, rfl, rfl⟩, ⟨_, rfl, rfl⟩, ⟨_, rfl, rfl⟩, ⟨_, rfl, rfl⟩, ⟨_, rfl, rfl⟩, trivial⟩
  cbv; all_goals try rw [show (dlen (d_I64 y1)) = (dlen (d_I64 l4)) from (hnl4).trans (dlen_I64 hg ht _).symm]
  all_goals exact ⟨⟨_, rfl, _, rfl, rfl, rfl, rfl, trivial⟩, ⟨_, rfl, rfl⟩, ⟨_, rfl, rfl⟩, trivial⟩
 ·rintro ⟨⟨n2, v2, w2⟩, hn2, hi2, h_2⟩ hq2; try dsimp only at hn2 hi2 h_2
  clear hq2; cbv; rcases n2 with _ | n2
  ·have hb5 : lt v2 a4 = false := ltC_false hg hn2; rw [I_arrivals_l2] at h_2; try rw [← hg] at h_2
   try rw [← ht] at h_2
   try dsimp only at h_2
   rw [hb5]; cbv; refine ⟨w2, Wk.of [(0, some 2)] rfl rfl ?_ ?_, (Option.some.inj h_2).symm⟩
   ·cbv; all_goals exact ⟨⟨_, rfl, rfl⟩, trivial⟩
   cbv; all_goals exact ⟨⟨_, rfl, rfl⟩, trivial⟩
  have hb5 : lt v2 a4 = true := ltC_true hg hn2; have hl2 := ltC_le hn2; have hs2 := stepltC hg hn2 hi2 hB2 (by decide); rw [I_arrivals_l2] at h_2; try rw [← hg] at h_2
  try rw [← ht] at h_2
  try dsimp only at h_2
  rw [hb5]; cbv; obtain ⟨l5, hl5, h_2⟩ := of_lP h_2; try dsimp only at h_2
  refine ANew.mk (d_I64 l5) (dlen (d_I64 l5)) (by rw [← hl5]; exact lit_I64 hg ht []) (by rw [← hl5]; exact litn_I64 hg ht []) ?_; cbv; obtain ⟨hc9, h_2⟩ := of_gd h_2; refine AStep.mk ⟨(subw_ok_I64 hg ht (dlen_I64 hg ht _)), (app_ok_I64 hg ht (dlen_I64 hg ht _) (dsubw_I64 hg ht (dlen_I64 hg ht _)) hc9)⟩ ?_; cbv; obtain ⟨l6, hl6, h_2⟩ := of_lP h_2; try dsimp only at h_2
  refine ANew.mk (d_I64 l6) (dlen (d_I64 l6)) (by rw [← hl6]; exact app_I64 hg ht (dlen_I64 hg ht _) (dsubw_I64 hg ht (dlen_I64 hg ht _))) (by rw [← hl6]; exact appl_I64 hg ht (dlen_I64 hg ht _) (dsubw_I64 hg ht (dlen_I64 hg ht _))) ?_; cbv; obtain ⟨o3, ho3, h_2⟩ := of_cl h_2; try dsimp only at h_2
  try rw [hg] at ho3
  try rw [ht] at ho3
  refine ABL.mk { p : Nat × Int × (List Int) × Bool // p.1 ≤ a0_Legs.length ∧ p.2.1 = ((p.1 : Nat) : Int) ∧ I_arrivals_l3 G.real TE.real (Network.mk a0_Legs a0_Off a0_Change) a1 w2 x1 x2 (List.drop p.1 a0_Legs) p.2.1 p.2.2.1 p.2.2.2 = some o3 } (fun ⟨⟨k3, v4, w3, v3⟩, _⟩ => ({ sl := [(1, .c (.r (r_Fd a1))), (4, .c (.r (.v (.int .i64 a4)))), (5, .c (.p 0 3 0 0)), (11, .c (.f 1 1 0 (dlen (d_S x1)))), (12, .c (.r (.v (.int .i64 x2)))), (13, .c (.f 2 1 0 (dlen (d_I64 w2)))), (14, .c (.r (.v (.int .i64 v2)))), (15, .c (.f 3 1 0 (dlen (d_I64 w3)))), (16, .c (.r (.v (.bool v3)))), (61, .c (.r (.s 6 (r_Leg a0_Legs)))), (62, .c (.r (.v (.int .i64 (llen (r_Leg a0_Legs)))))), (63, .c (.r (.v (.int .i64 v4))))], tab := [(0, some (.foc 3 [] [.r (.s 6 (r_Leg a0_Legs)), .r (.s 1 (r_I64 a0_Off)), .r (.v (.int .i64 a0_Change))] [])), (1, some (.arr 1 (d_S x1))), (2, some (.arr 1 (d_I64 w2))), (3, some (.arr 1 (d_I64 w3)))] } : St)) 4 (fun p => a0_Legs.length - p.1.1) ⟨(0, 0, l6, false), Nat.zero_le _, rfl, ho3⟩ ((List Int) × Bool) (fun ⟨y2_1, y2_2⟩ => ({ sl := [(1, .c (.r (r_Fd a1))), (4, .c (.r (.v (.int .i64 a4)))), (5, .c (.p 0 3 0 0)), (11, .c (.f 1 1 0 (dlen (d_S x1)))), (12, .c (.r (.v (.int .i64 x2)))), (14, .c (.r (.v (.int .i64 v2)))), (15, .c (.f 2 1 0 (dlen (d_I64 y2_1)))), (16, .c (.r (.v (.bool y2_2))))], tab := [(0, some (.foc 3 [] [.r (.s 6 (r_Leg a0_Legs)), .r (.s 1 (r_I64 a0_Off)), .r (.v (.int .i64 a0_Change))] [])), (1, some (.arr 1 (d_S x1))), (2, some (.arr 1 (d_I64 y2_1)))] } : St)) 3 (fun y => o3 = y) ?_ ?_ ?_
  ·refine Wk.of [(0, some 0), (1, some 1), (2, some 2), (3, some 83)] rfl rfl ?_ ?_
   ·cbv; all_goals exact ⟨⟨_, rfl, rfl⟩, ⟨_, rfl, rfl⟩, ⟨_, rfl, rfl⟩, ⟨_, rfl, rfl⟩, ⟨_, rfl, rfl⟩, ⟨_, rfl, rfl⟩, ⟨_, rfl, rfl⟩, ⟨_, rfl, rfl⟩, ⟨_, rfl, rfl⟩, ⟨_, rfl, rfl⟩, ⟨_, rfl, rfl⟩, ⟨_, rfl, rfl⟩, trivial⟩
   cbv; all_goals exact ⟨⟨_, rfl, _, rfl, rfl, rfl, rfl, trivial⟩, ⟨_, rfl, rfl⟩, ⟨_, rfl, rfl⟩, ⟨_, rfl, rfl⟩, trivial⟩
  ·rintro ⟨⟨k3, v4, w3, v3⟩, hk3, hi3, h_3⟩ hq3; have hm3 := (hq3.1 61 _ _ rfl); try dsimp only at hk3 hi3 h_3
   clear hq3; cbv
   by_cases hc3_ : k3 < a0_Legs.length
   ·have hb6 : lt v4 (llen (r_Leg a0_Legs)) = true := ltL_true_Leg hg ht hi3 hc3_; have hs3 := stepL_Leg hg ht hi3 hc3_ hm3; obtain ⟨z3, hz3⟩ := some_of_lt hc3_; rw [drop_of_some hz3] at h_3; rw [I_arrivals_l3] at h_3; obtain ⟨z3_From, z3_To, z3_Start, z3_Takes, z3_Days, z3_Room⟩ := z3; try rw [← hg] at h_3
    try rw [← ht] at h_3
    try dsimp only at h_3
    rw [hb6]; cbv; refine AStep.mk (nn_L hi3) ?_; cbv; refine AGet.mk _ (r_getL_Leg hg ht hi3 hz3) ?_; cbv; refine AStep.mk (lend_S ht (dlen_S hg ht _)) ?_; cbv; obtain ⟨x4, hx4, h_3⟩ := of_lP h_3; try dsimp only at h_3
    refine ACall.mk _ _ (by rw [show rd (d_S x1) 0 (dlen (d_S x1)) = r_S x1 from rdw_S hg ht (dlen_S hg ht _)]; try rfl) (hF _ _ _ (c_I_placeAt hg ht hx4)) (.inr rfl) (Nat.le_of_ble_eq_true rfl) ?_
    cbv; refine AStep.mk (lend_S ht (dlen_S hg ht _)) ?_; cbv; obtain ⟨x5, hx5, h_3⟩ := of_lP h_3; try dsimp only at h_3
    refine ACall.mk _ _ (by rw [show rd (d_S x1) 0 (dlen (d_S x1)) = r_S x1 from rdw_S hg ht (dlen_S hg ht _)]; try rfl) (hF _ _ _ (c_I_placeAt hg ht hx5)) (.inr rfl) (Nat.le_of_ble_eq_true rfl) ?_
    cbv; obtain ⟨hc3, h_3⟩ := of_gd h_3; refine AStep.mk hc3 ?_; cbv; obtain ⟨x6, hx6, h_3⟩ := of_gt h_3; try dsimp only at h_3
    refine AGet.mk _ (d_get_I64 hg ht hx6) ?_; cbv
    cases hb7 : (lt x6 0)
    rotate_left
    ·rw [br_true hb7] at h_3; cbv; try rw [hg] at h_3
     try rw [ht] at h_3
     refine ⟨⟨(k3 + 1, (wrap .i64 (add v4 1)), w3, v3), hc3_, hs3, h_3⟩, Wk.of [(0, some 0), (1, some 1), (2, some 2), (3, some 3)] rfl rfl ?_ ?_, meas_L hc3_⟩
     ·cbv; all_goals exact ⟨⟨_, rfl, rfl⟩, ⟨_, rfl, rfl⟩, ⟨_, rfl, rfl⟩, ⟨_, rfl, rfl⟩, ⟨_, rfl, rfl⟩, ⟨_, rfl, rfl⟩, ⟨_, rfl, rfl⟩, ⟨_, rfl, rfl⟩, ⟨_, rfl, rfl⟩, ⟨_, rfl, rfl⟩, ⟨_, rfl, rfl⟩, ⟨_, rfl, rfl⟩, trivial⟩
     cbv; all_goals exact ⟨⟨_, rfl, _, rfl, rfl, rfl, rfl, trivial⟩, ⟨_, rfl, rfl⟩, ⟨_, rfl, rfl⟩, ⟨_, rfl, rfl⟩, trivial⟩
    rw [br_false hb7] at h_3; cbv; obtain ⟨hc4, h_3⟩ := of_gd h_3; refine AStep.mk hc4 ?_; cbv; refine AGet.mk _ (d_get_I64 hg ht hx6) ?_; cbv; obtain ⟨x7, hx7, h_3⟩ := of_lP h_3; try dsimp only at h_3
    refine ACall.mk _ _ rfl (hF _ _ _ (c_I_readyAt hg ht hx7)) (.inl rfl) (Nat.le_of_ble_eq_true rfl) ?_; cbv; obtain ⟨x8, hx8, h_3⟩ := of_cl h_3; obtain ⟨⟨x8_1_Leg, x8_1_Day⟩, x8_2⟩ := x8; try dsimp only at h_3
    obtain ⟨f_, bs_, hr_, hc_⟩ := c_callFd hg ht hx8; refine ACallV.mk f_ bs_ _ _ hr_ rfl (hF _ _ _ hc_) (.inl rfl) (Nat.le_of_ble_eq_true rfl) ?_; clear hr_ hc_; cbv
    cases hb8 : x8_2
    ·rw [br_false hb8] at h_3; cbv; iterate 7 try (rw [hb8]; cbv)
     try rw [hg] at h_3
     try rw [ht] at h_3
     refine ⟨⟨(k3 + 1, (wrap .i64 (add v4 1)), w3, v3), hc3_, hs3, h_3⟩, Wk.of [(0, some 0), (1, some 1), (2, some 2), (3, some 3)] rfl rfl ?_ ?_, meas_L hc3_⟩
     ·cbv; all_goals exact ⟨⟨_, rfl, rfl⟩, ⟨_, rfl, rfl⟩, ⟨_, rfl, rfl⟩, ⟨_, rfl, rfl⟩, ⟨_, rfl, rfl⟩, ⟨_, rfl, rfl⟩, ⟨_, rfl, rfl⟩, ⟨_, rfl, rfl⟩, ⟨_, rfl, rfl⟩, ⟨_, rfl, rfl⟩, ⟨_, rfl, rfl⟩, ⟨_, rfl, rfl⟩, trivial⟩
     cbv; all_goals exact ⟨⟨_, rfl, _, rfl, rfl, rfl, rfl, trivial⟩, ⟨_, rfl, rfl⟩, ⟨_, rfl, rfl⟩, ⟨_, rfl, rfl⟩, trivial⟩
    rw [br_true hb8] at h_3; cbv; iterate 2 try (rw [hb8]; cbv)
    obtain ⟨hc5, h_3⟩ := of_gd h_3; refine AStep.mk hc5 ?_; cbv; try (rw [hb8]; cbv)
    obtain ⟨x9, hx9, h_3⟩ := of_gt h_3; try dsimp only at h_3
    refine AGet.mk _ (d_get_I64 hg ht hx9) ?_; cbv; iterate 2 try (rw [hb8]; cbv)
    cases hb9 : (lt x9 0)
    rotate_left
    ·rw [br_true hb9] at h_3; cbv; iterate 7 try (rw [hb9]; cbv)
     try (rw [hb8]; cbv)
     try (rw [hb9]; cbv)
     try (rw [hb8]; cbv)
     obtain ⟨x10, hx10, h_3⟩ := of_cl h_3; try dsimp only at h_3
     refine ACall.mk _ _ rfl (hF _ _ _ (c_I_ends hg ht hx10)) (.inl rfl) (Nat.le_of_ble_eq_true rfl) ?_; cbv; obtain ⟨hc6, h_3⟩ := of_gd h_3; refine AStep.mk hc6 ?_; cbv; refine AGet.mk _ (d_get_I64 hg ht hx9) ?_; cbv; obtain ⟨l7, hl7, h_3⟩ := of_lP h_3; try dsimp only at h_3
     refine ANew.mk (d_I64 l7) _ (by rw [← hl7]; exact dset_I64 hg ht _ _ x10) rfl ?_; have hnl7 : (dlen (d_I64 w3)) = (d_I64 l7).length := (by rw [← hl7, dsetl_I64 ht]; exact (dlen_I64 hg ht _)); cbv; try rw [hg] at h_3
     try rw [ht] at h_3
     refine ⟨⟨(k3 + 1, (wrap .i64 (add v4 1)), l7, true), hc3_, hs3, h_3⟩, Wk.of [(0, some 0), (1, some 1), (2, some 2), (3, some 3)] rfl rfl ?_ ?_, meas_L hc3_⟩
     ·cbv; all_goals try rw [show (dlen (d_I64 w3)) = (dlen (d_I64 l7)) from (hnl7).trans (dlen_I64 hg ht _).symm]
      all_goals exact ⟨⟨_, rfl, rfl⟩, ⟨_, rfl, rfl⟩, ⟨_, rfl, rfl⟩, ⟨_, rfl, rfl⟩, ⟨_, rfl, rfl⟩, ⟨_, rfl, rfl⟩, ⟨_, rfl, rfl⟩, ⟨_, rfl, rfl⟩, ⟨_, rfl, rfl⟩, ⟨_, rfl, rfl⟩, ⟨_, rfl, rfl⟩, ⟨_, rfl, rfl⟩, trivial⟩
     cbv; all_goals try rw [show (dlen (d_I64 w3)) = (dlen (d_I64 l7)) from (hnl7).trans (dlen_I64 hg ht _).symm]
     all_goals exact ⟨⟨_, rfl, _, rfl, rfl, rfl, rfl, trivial⟩, ⟨_, rfl, rfl⟩, ⟨_, rfl, rfl⟩, ⟨_, rfl, rfl⟩, trivial⟩
    rw [br_false hb9] at h_3; cbv; iterate 2 try (rw [hb9]; cbv)
    obtain ⟨x11, hx11, h_3⟩ := of_cl h_3; try dsimp only at h_3
    refine ACall.mk _ _ rfl (hF _ _ _ (c_I_ends hg ht hx11)) (.inl rfl) (Nat.le_of_ble_eq_true rfl) ?_; cbv; iterate 3 try (rw [hb9]; cbv)
    obtain ⟨hc7, h_3⟩ := of_gd h_3; refine AStep.mk hc7 ?_; cbv; try (rw [hb9]; cbv)
    refine AGet.mk _ (d_get_I64 hg ht hx9) ?_; cbv; try (rw [hb9]; cbv)
    try (rw [hb8]; cbv)
    try (rw [hb9]; cbv)
    try (rw [hb8]; cbv)
    cases hb10 : (lt x11 x9)
    ·rw [br_false hb10] at h_3; cbv; try rw [hg] at h_3
     try rw [ht] at h_3
     refine ⟨⟨(k3 + 1, (wrap .i64 (add v4 1)), w3, v3), hc3_, hs3, h_3⟩, Wk.of [(0, some 0), (1, some 1), (2, some 2), (3, some 3)] rfl rfl ?_ ?_, meas_L hc3_⟩
     ·cbv; all_goals exact ⟨⟨_, rfl, rfl⟩, ⟨_, rfl, rfl⟩, ⟨_, rfl, rfl⟩, ⟨_, rfl, rfl⟩, ⟨_, rfl, rfl⟩, ⟨_, rfl, rfl⟩, ⟨_, rfl, rfl⟩, ⟨_, rfl, rfl⟩, ⟨_, rfl, rfl⟩, ⟨_, rfl, rfl⟩, ⟨_, rfl, rfl⟩, ⟨_, rfl, rfl⟩, trivial⟩
     cbv; all_goals exact ⟨⟨_, rfl, _, rfl, rfl, rfl, rfl, trivial⟩, ⟨_, rfl, rfl⟩, ⟨_, rfl, rfl⟩, ⟨_, rfl, rfl⟩, trivial⟩
    rw [br_true hb10] at h_3; cbv; obtain ⟨x12, hx12, h_3⟩ := of_cl h_3; try dsimp only at h_3
    refine ACall.mk _ _ rfl (hF _ _ _ (c_I_ends hg ht hx12)) (.inl rfl) (Nat.le_of_ble_eq_true rfl) ?_; cbv; obtain ⟨hc8, h_3⟩ := of_gd h_3; refine AStep.mk hc8 ?_; cbv; refine AGet.mk _ (d_get_I64 hg ht hx9) ?_; cbv; obtain ⟨l8, hl8, h_3⟩ := of_lP h_3; try dsimp only at h_3
    refine ANew.mk (d_I64 l8) _ (by rw [← hl8]; exact dset_I64 hg ht _ _ x12) rfl ?_; have hnl8 : (dlen (d_I64 w3)) = (d_I64 l8).length := (by rw [← hl8, dsetl_I64 ht]; exact (dlen_I64 hg ht _)); cbv; try rw [hg] at h_3
    try rw [ht] at h_3
    refine ⟨⟨(k3 + 1, (wrap .i64 (add v4 1)), l8, true), hc3_, hs3, h_3⟩, Wk.of [(0, some 0), (1, some 1), (2, some 2), (3, some 3)] rfl rfl ?_ ?_, meas_L hc3_⟩
    ·cbv; all_goals try rw [show (dlen (d_I64 w3)) = (dlen (d_I64 l8)) from (hnl8).trans (dlen_I64 hg ht _).symm]
     all_goals exact ⟨⟨_, rfl, rfl⟩, ⟨_, rfl, rfl⟩, ⟨_, rfl, rfl⟩, ⟨_, rfl, rfl⟩, ⟨_, rfl, rfl⟩, ⟨_, rfl, rfl⟩, ⟨_, rfl, rfl⟩, ⟨_, rfl, rfl⟩, ⟨_, rfl, rfl⟩, ⟨_, rfl, rfl⟩, ⟨_, rfl, rfl⟩, ⟨_, rfl, rfl⟩, trivial⟩
    cbv; all_goals try rw [show (dlen (d_I64 w3)) = (dlen (d_I64 l8)) from (hnl8).trans (dlen_I64 hg ht _).symm]
    all_goals exact ⟨⟨_, rfl, _, rfl, rfl, rfl, rfl, trivial⟩, ⟨_, rfl, rfl⟩, ⟨_, rfl, rfl⟩, ⟨_, rfl, rfl⟩, trivial⟩
   have hb6 : lt v4 (llen (r_Leg a0_Legs)) = false := ltL_false_Leg hg ht hi3 hc3_; rw [List.drop_of_length_le (Nat.le_of_not_lt hc3_)] at h_3; rw [I_arrivals_l3] at h_3; try rw [← hg] at h_3
   try rw [← ht] at h_3
   try dsimp only at h_3
   rw [hb6]; cbv; refine ⟨(w3, v3), Wk.of [(0, some 0), (1, some 1), (2, some 3)] rfl rfl ?_ ?_, (Option.some.inj h_3).symm⟩
   ·cbv; all_goals exact ⟨⟨_, rfl, rfl⟩, ⟨_, rfl, rfl⟩, ⟨_, rfl, rfl⟩, ⟨_, rfl, rfl⟩, ⟨_, rfl, rfl⟩, ⟨_, rfl, rfl⟩, ⟨_, rfl, rfl⟩, ⟨_, rfl, rfl⟩, trivial⟩
   cbv; all_goals exact ⟨⟨_, rfl, _, rfl, rfl, rfl, rfl, trivial⟩, ⟨_, rfl, rfl⟩, ⟨_, rfl, rfl⟩, trivial⟩
  rintro ⟨y2_1, y2_2⟩ hy3; replace hy3 := hy3.symm; subst hy3; try dsimp only [lr, lrL, lrp, lrpL] at h_2
  cbv
  cases hb11 : y2_2
  ·rw [br_false hb11] at h_2; cbv; refine ⟨y2_1, Wk.of [(0, some 2)] rfl rfl ?_ ?_, (Option.some.inj h_2).symm⟩
   ·cbv; all_goals exact ⟨⟨_, rfl, rfl⟩, trivial⟩
   cbv; all_goals exact ⟨⟨_, rfl, rfl⟩, trivial⟩
  rw [br_true hb11] at h_2; cbv; try rw [hg] at h_2
  try rw [ht] at h_2
  refine ⟨⟨(n2, (wrap .i64 (add v2 1)), y2_1), hs2.1, hs2.2, h_2⟩, Wk.of [(0, some 0), (1, some 1), (2, some 2)] rfl rfl ?_ ?_, Nat.lt_succ_self _⟩
  ·cbv; all_goals exact ⟨⟨_, rfl, rfl⟩, ⟨_, rfl, rfl⟩, ⟨_, rfl, rfl⟩, ⟨_, rfl, rfl⟩, ⟨_, rfl, rfl⟩, ⟨_, rfl, rfl⟩, ⟨_, rfl, rfl⟩, trivial⟩
  cbv; all_goals exact ⟨⟨_, rfl, _, rfl, rfl, rfl, rfl, trivial⟩, ⟨_, rfl, rfl⟩, ⟨_, rfl, rfl⟩, trivial⟩
 rintro y3 hy2; replace hy2 := hy2.symm; subst hy2; try dsimp only [lr, lrL, lrp, lrpL] at h
 cbv; obtain rfl := Option.some.inj h; exact ARet.mk ⟨rfl, (dlen_I64 hg ht _)⟩ hX.symm
def ir54 : J := .seq (.reg none [⟨some 4, none, .box (.t 0)⟩,⟨some 5, none, .box (.t 1)⟩,⟨some 6, none, .box (.t 2)⟩,⟨some 7, none, .box (.t 3)⟩,⟨some 8, none, .mv (.k (.c .un))⟩] [4, 5, 6, 7]) (.seq (.reg none [⟨some 9, none, .clo false 92 [(.t 4), (.t 6), (.t 5), (.t 7)]⟩,⟨some 8, none, .mv (.t 9)⟩] [8]) (.ret))
def rv54 : List RV := [.t 8]
def I_freeOf (g : G) (t : TE) (a0 : Network) (a1 : List Booking) (a2 : List Trip) (a3 : Int) : Fd :=
  (Fd.I_freeOf_1 a0 a2 a1 a3)
theorem c_I_freeOf {g : G} {t : TE} {a0 : Network} {a1 : List Booking} {a2 : List Trip} {a3 : Int} {r : Fd} (hg : g = G.real) (ht : t = TE.real) (h : I_freeOf g t a0 a1 a2 a3 = r) : Fn Try.prog 54 [.g (Network.rs t a0), .c (.s 4 (t.r_Booking a1)), .c (.s 2 (t.r_Trip a2)), .c (.v (.int .i64 a3))] (.c (.r (t.r_Fd r))) := by
 obtain ⟨X, hX⟩ := hide (.c (.r (t.r_Fd r)) : X); rw [← hX]; refine fn_of (rvs := rv54) (j := ir54) Try.func54 rfl (by kernel_rfl) (Nat.le_of_ble_eq_true rfl) (by kernel_rfl) prog_mixed ?_; intro g2 F hg2 hF; obtain rfl : g2 = g := hg2.unique.trans hg.symm; clear hg2; obtain ⟨_, _, _, _, _, _, _, _, _, _, _, _, _, _, _, _, _, _, _, _, _, _, _, _, _, _, _, _, _, _, _, _, _, _, _, _, _, _, _, _, _, _, _, _⟩ := g2; obtain ⟨_, _, _, _, _, _, _, _, _, _, _, _, _, _, r_Fd⟩ := t
 obtain ⟨a0_Legs, a0_Off, a0_Change⟩ := a0; unfold I_freeOf at h; try dsimp only at h
 cbv; refine AClo.mk (r_Fd (Fd.I_freeOf_1 (Network.mk a0_Legs a0_Off a0_Change) a2 a1 a3)) (fdc_I_freeOf_1 ht (Network.mk a0_Legs a0_Off a0_Change) a2 a1 a3) ?_; cbv; subst h; exact ARet.mk trivial hX.symm
def ir18 : J := .seq (.reg none [⟨some 7, none, .box (.t 0)⟩,⟨some 14, none, .mv (.k (.c (.n 1)))⟩] [1, 2, 3, 4, 5, 6, 7]) (.seq (.seq (.reg none [⟨some 15, none, .ld true 3 (.t 7)⟩,⟨some 16, none, .mv (.t 1)⟩,⟨some 17, none, .call 52 true [(.t 15), (.t 16)]⟩,⟨some 18, none, .not (.t 17)⟩,⟨some 19, none, .mv (.t 18)⟩,⟨some 20, (some (19, false)), .mv (.t 5)⟩,⟨some 21, (some (19, false)), .bin .lss .i (.t 20) (.k (V.i 1))⟩,⟨some 22, none, .pick (.t 19) (.k (V.b true)) (.t 21)⟩] [1, 2, 3, 4, 5, 6, 7, 22]) (.cond (.t 22) (.seq (.reg none [⟨some 14, none, .mv (.k (.c (.n 1)))⟩] [14]) (.ret)) (.skip))) (.seq (.reg (some [[], [], [], [], [], [1, 2, 3, 4], [], [], [], [0, 1, 2, 3, 4, 5, 6, 7, 8], [0, 1, 2, 3, 4, 5, 6, 7, 8, 9]]) [⟨some 23, none, .ld true 3 (.t 7)⟩,⟨some 24, none, .ld true 3 (.t 7)⟩,⟨some 25, none, .mv (.t 1)⟩,⟨some 26, none, .mv (.t 2)⟩,⟨some 27, none, .mv (.t 5)⟩,⟨some 28, none, .call 54 true [(.t 24), (.t 25), (.t 26), (.t 27)]⟩,⟨some 29, none, .mv (.t 3)⟩,⟨some 30, none, .mv (.t 4)⟩,⟨some 31, none, .mv (.t 6)⟩,⟨some 32, none, .call 53 true [(.t 23), (.t 28), (.t 29), (.t 30), (.t 31)]⟩,⟨some 14, none, .mv (.t 32)⟩] [14]) (.ret)))
def rv18 : List RV := [.t 14]
def I_BestFree (g : G) (t : TE) (a0 : Network) (a1 : List Booking) (a2 : List Trip) (a3 : ByteArray) (a4 : Int) (a5 : Int) (a6 : Int) : Option (List Int) :=
  cl (I_AreBookings g t a0 a1) fun x1 =>
  br x1
  (
   br (g.lt a5 1)
   (
    some [])
   (
    lP (I_freeOf g t a0 a1 a2 a5) fun x2 =>
    cl (I_arrivals g t a0 x2 a3 a4 a6) fun x3 =>
    some x3))
  (
   some [])
theorem c_I_BestFree {g : G} {t : TE} {a0 : Network} {a1 : List Booking} {a2 : List Trip} {a3 : ByteArray} {a4 : Int} {a5 : Int} {a6 : Int} {r : List Int} (hg : g = G.real) (ht : t = TE.real) (h : I_BestFree g t a0 a1 a2 a3 a4 a5 a6 = some r) : Fn Try.prog 18 [.g (Network.rs t a0), .c (.s 4 (t.r_Booking a1)), .c (.s 2 (t.r_Trip a2)), .c (.v (.string a3)), .c (.v (.int .i64 a4)), .c (.v (.int .i64 a5)), .c (.v (.int .i64 a6))] (.c (.o 1 (t.d_I64 r))) := by
 obtain ⟨X, hX⟩ := hide (.c (.o 1 (t.d_I64 r)) : X); rw [← hX]; refine fn_of (rvs := rv18) (j := ir18) Try.func18 rfl (by kernel_rfl) (Nat.le_of_ble_eq_true rfl) (by kernel_rfl) prog_mixed ?_; intro g2 F hg2 hF; obtain rfl : g2 = g := hg2.unique.trans hg.symm; clear hg2; obtain ⟨_, lt, _, _, _, _, _, _, _, _, _, _, _, _, _, _, _, _, _, _, _, _, _, _, _, _, _, _, _, _, _, _, _, _, _, _, _, _, _, _, _, _, _, _⟩ := g2; obtain ⟨_, _, _, d_I64, _, _, _, _, _, _, _, _, _, _, _⟩ := t
 obtain ⟨a0_Legs, a0_Off, a0_Change⟩ := a0; have hnil_I64 : d_I64 [] = [] := d_nil_I64 ht; unfold I_BestFree at h; try dsimp only at h
 cbv; obtain ⟨x1, hx1, h⟩ := of_cl h; try dsimp only at h
 refine ACall.mk _ _ rfl (hF _ _ _ (c_I_AreBookings hg ht hx1)) (.inl rfl) (Nat.le_of_ble_eq_true rfl) ?_; cbv
 cases hb1 : x1
 ·rw [br_false hb1] at h; cbv; iterate 2 try (rw [hb1]; cbv)
  obtain rfl := Option.some.inj h; exact ARet.mk trivial (by rw [hX]; first | rfl | (simp only [Leg.ds, Network.ds, Trip.ds, Scan.ds, Booking.ds, Spot.ds, hnil_I64]; try rfl))
 rw [br_true hb1] at h; cbv; iterate 2 try (rw [hb1]; cbv)
 cases hb2 : (lt a5 1)
 rotate_left
 ·rw [br_true hb2] at h; cbv; obtain rfl := Option.some.inj h; exact ARet.mk trivial (by rw [hX]; first | rfl | (simp only [Leg.ds, Network.ds, Trip.ds, Scan.ds, Booking.ds, Spot.ds, hnil_I64]; try rfl))
 rw [br_false hb2] at h; cbv; obtain ⟨x2, hx2, h⟩ := of_lP h; try dsimp only at h
 refine ACall.mk _ _ rfl (hF _ _ _ (c_I_freeOf hg ht hx2)) (.inl rfl) (Nat.le_of_ble_eq_true rfl) ?_; cbv; obtain ⟨x3, hx3, h⟩ := of_cl h; try dsimp only at h
 refine ACall.mk _ _ rfl (hF _ _ _ (c_I_arrivals hg ht hx3)) (.inl rfl) (Nat.le_of_ble_eq_true rfl) ?_; cbv; obtain rfl := Option.some.inj h; exact ARet.mk ⟨rfl, (dlen_I64 hg ht _)⟩ hX.symm
def ir56 : J := .seq (.reg none [⟨some 2, none, .box (.t 0)⟩,⟨some 3, none, .box (.t 1)⟩,⟨some 4, none, .mv (.k (V.b false))⟩] [2, 3]) (.seq (.seq (.reg none [⟨some 5, none, .fa 0 (.t 2)⟩,⟨some 6, none, .ld false 1 (.t 5)⟩,⟨some 7, none, .fa 0 (.t 3)⟩,⟨some 8, none, .ld false 1 (.t 7)⟩,⟨some 9, none, .bin .neq .i (.t 6) (.t 8)⟩] [2, 3, 9]) (.cond (.t 9) (.seq (.reg none [⟨some 4, none, .mv (.k (V.b false))⟩] [4]) (.ret)) (.skip))) (.seq (.seq (.reg none [⟨some 10, none, .fa 1 (.t 2)⟩,⟨some 11, none, .ld false 1 (.t 10)⟩,⟨some 12, none, .fa 1 (.t 3)⟩,⟨some 13, none, .ld false 1 (.t 12)⟩,⟨some 14, none, .bin .neq .i (.t 11) (.t 13)⟩] [14]) (.cond (.t 14) (.seq (.reg none [⟨some 4, none, .mv (.k (V.b false))⟩] [4]) (.ret)) (.skip))) (.seq (.reg none [⟨some 4, none, .mv (.k (V.b true))⟩] [4]) (.ret))))
def rv56 : List RV := [.t 4]
def L_eqTrip (g : G) (t : TE) (a0 : Trip) (a1 : Trip) : Bool :=
  br (g.eq a0.Leg a1.Leg)
  (
   br (g.eq a0.Day a1.Day)
   (
    true)
   (
    false))
  (
   false)
theorem c_L_eqTrip {g : G} {t : TE} {a0 : Trip} {a1 : Trip} {r : Bool} (hg : g = G.real) (ht : t = TE.real) (h : L_eqTrip g t a0 a1 = r) : Fn Try.prog 56 [.g (Trip.rs t a0), .g (Trip.rs t a1)] (.c (.r (.v (.bool r)))) := by
 obtain ⟨X, hX⟩ := hide (.c (.r (.v (.bool r))) : X); rw [← hX]; refine fn_of (rvs := rv56) (j := ir56) Try.func56 rfl (by kernel_rfl) (Nat.le_of_ble_eq_true rfl) (by kernel_rfl) prog_mixed ?_; intro g2 F hg2 hF; obtain rfl : g2 = g := hg2.unique.trans hg.symm; clear hg2; obtain ⟨_, _, _, eq, _, _, _, _, _, _, _, _, _, _, _, _, _, _, _, _, _, _, _, _, _, _, _, _, _, _, _, _, _, _, _, _, _, _, _, _, _, _, _, _⟩ := g2; obtain ⟨_, _, _, _, _, _, _, _, _, _, _, _, _, _, _⟩ := t
 obtain ⟨a0_Leg, a0_Day⟩ := a0; obtain ⟨a1_Leg, a1_Day⟩ := a1; unfold L_eqTrip at h; try dsimp only at h
 cbv
 cases hb1 : (eq a0_Leg a1_Leg)
 ·rw [br_false hb1] at h; cbv; subst h; exact ARet.mk trivial hX.symm
 rw [br_true hb1] at h; cbv
 cases hb2 : (eq a0_Day a1_Day)
 rotate_left
 ·rw [br_true hb2] at h; cbv; subst h; exact ARet.mk trivial hX.symm
 rw [br_false hb2] at h; cbv; subst h; exact ARet.mk trivial hX.symm
def ir55 : J := .seq (.reg none [⟨some 2, none, .box (.t 0)⟩,⟨some 3, none, .box (.t 1)⟩,⟨some 4, none, .mv (.k (V.b false))⟩] [2, 3]) (.seq (.seq (.reg none [⟨some 5, none, .fa 0 (.t 2)⟩,⟨some 6, none, .ld false 1 (.t 5)⟩,⟨some 7, none, .fa 0 (.t 3)⟩,⟨some 8, none, .ld false 1 (.t 7)⟩,⟨some 9, none, .bin .neq .i (.t 6) (.t 8)⟩] [2, 3, 9]) (.cond (.t 9) (.seq (.reg none [⟨some 4, none, .mv (.k (V.b false))⟩] [4]) (.ret)) (.skip))) (.seq (.seq (.reg none [⟨some 10, none, .fa 1 (.t 2)⟩,⟨some 11, none, .ld true 2 (.t 10)⟩,⟨some 12, none, .fa 1 (.t 3)⟩,⟨some 13, none, .ld true 2 (.t 12)⟩,⟨some 14, none, .call 56 true [(.t 11), (.t 13)]⟩,⟨some 15, none, .not (.t 14)⟩] [2, 3, 15]) (.cond (.t 15) (.seq (.reg none [⟨some 4, none, .mv (.k (V.b false))⟩] [4]) (.ret)) (.skip))) (.seq (.seq (.reg none [⟨some 16, none, .fa 3 (.t 2)⟩,⟨some 17, none, .ld false 1 (.t 16)⟩,⟨some 18, none, .fa 3 (.t 3)⟩,⟨some 19, none, .ld false 1 (.t 18)⟩,⟨some 20, none, .bin .neq .i (.t 17) (.t 19)⟩] [20]) (.cond (.t 20) (.seq (.reg none [⟨some 4, none, .mv (.k (V.b false))⟩] [4]) (.ret)) (.skip))) (.seq (.reg none [⟨some 4, none, .mv (.k (V.b true))⟩] [4]) (.ret)))))
def rv55 : List RV := [.t 4]
def L_eqBooking (g : G) (t : TE) (a0 : Booking) (a1 : Booking) : Bool :=
  br (g.eq a0.Thing a1.Thing)
  (
   lP (L_eqTrip g t (Trip.mk a0.Trip.Leg a0.Trip.Day) (Trip.mk a1.Trip.Leg a1.Trip.Day)) fun x1 =>
   br x1
   (
    br (g.eq a0.Weight a1.Weight)
    (
     true)
    (
     false))
   (
    false))
  (
   false)
theorem c_L_eqBooking {g : G} {t : TE} {a0 : Booking} {a1 : Booking} {r : Bool} (hg : g = G.real) (ht : t = TE.real) (h : L_eqBooking g t a0 a1 = r) : Fn Try.prog 55 [.g (Booking.rs t a0), .g (Booking.rs t a1)] (.c (.r (.v (.bool r)))) := by
 obtain ⟨X, hX⟩ := hide (.c (.r (.v (.bool r))) : X); rw [← hX]; refine fn_of (rvs := rv55) (j := ir55) Try.func55 rfl (by kernel_rfl) (Nat.le_of_ble_eq_true rfl) (by kernel_rfl) prog_mixed ?_; intro g2 F hg2 hF; obtain rfl : g2 = g := hg2.unique.trans hg.symm; clear hg2; obtain ⟨_, _, _, eq, _, _, _, _, _, _, _, _, _, _, _, _, _, _, _, _, _, _, _, _, _, _, _, _, _, _, _, _, _, _, _, _, _, _, _, _, _, _, _, _⟩ := g2; obtain ⟨_, _, _, _, _, _, _, _, _, _, _, _, _, _, _⟩ := t
 obtain ⟨a0_Thing, ⟨a0_Trip_Leg, a0_Trip_Day⟩, a0_Weight⟩ := a0; obtain ⟨a1_Thing, ⟨a1_Trip_Leg, a1_Trip_Day⟩, a1_Weight⟩ := a1; unfold L_eqBooking at h; try dsimp only at h
 cbv
 cases hb1 : (eq a0_Thing a1_Thing)
 ·rw [br_false hb1] at h; cbv; subst h; exact ARet.mk trivial hX.symm
 rw [br_true hb1] at h; cbv; obtain ⟨x1, hx1, h⟩ := of_lP h; try dsimp only at h
 refine ACall.mk _ _ rfl (hF _ _ _ (c_L_eqTrip hg ht hx1)) (.inl rfl) (Nat.le_of_ble_eq_true rfl) ?_; cbv
 cases hb2 : x1
 ·rw [br_false hb2] at h; cbv; subst h; exact ARet.mk trivial hX.symm
 rw [br_true hb2] at h; cbv
 cases hb3 : (eq a0_Weight a1_Weight)
 rotate_left
 ·rw [br_true hb3] at h; cbv; subst h; exact ARet.mk trivial hX.symm
 rw [br_false hb3] at h; cbv; subst h; exact ARet.mk trivial hX.symm
def ir20 : J := .seq (.reg none [⟨some 4, none, .mv (.k (V.b false))⟩] [0, 1]) (.seq (.seq (.reg none [⟨some 6, none, .mv (.t 0)⟩,⟨some 7, none, .len false (.t 6)⟩,⟨some 8, none, .mv (.t 1)⟩,⟨some 9, none, .len false (.t 8)⟩,⟨some 10, none, .bin .neq .i (.t 7) (.t 9)⟩] [0, 1, 10]) (.cond (.t 10) (.seq (.reg none [⟨some 4, none, .mv (.k (V.b false))⟩] [4]) (.ret)) (.skip))) (.seq (.seq (.reg none [⟨some 5, none, .mv (.k (V.i 0))⟩] [0, 1, 5]) (.bl 0 (.seq (.seq (.reg none [⟨some 11, none, .mv (.t 5)⟩,⟨some 12, none, .mv (.t 0)⟩,⟨some 13, none, .len false (.t 12)⟩,⟨some 14, none, .bin .lss .i (.t 11) (.t 13)⟩] [0, 1, 5, 14]) (.cond (.t 14) (.skip) (.exit 0))) (.seq (.block 1 (.seq (.reg (some [[], [], [0, 1], [0, 1, 2], [], [], [4, 5], [4, 5, 6], [0, 1, 2, 3, 4, 5, 6, 7], [0, 1, 2, 3, 4, 5, 6, 7, 8]]) [⟨some 17, none, .mv (.t 0)⟩,⟨some 18, none, .mv (.t 5)⟩,⟨some 19, none, .ia 4 (.t 17) (.t 18)⟩,⟨some 20, none, .ld true 4 (.t 19)⟩,⟨some 21, none, .mv (.t 1)⟩,⟨some 22, none, .mv (.t 5)⟩,⟨some 23, none, .ia 4 (.t 21) (.t 22)⟩,⟨some 24, none, .ld true 4 (.t 23)⟩,⟨some 25, none, .call 55 true [(.t 20), (.t 24)]⟩,⟨some 26, none, .not (.t 25)⟩] [0, 1, 5, 26]) (.cond (.t 26) (.seq (.reg none [⟨some 4, none, .mv (.k (V.b false))⟩] [4]) (.ret)) (.skip)))) (.reg none [⟨some 15, none, .mv (.t 5)⟩,⟨some 16, none, .bin .add .i (.t 15) (.k (V.i 1))⟩,⟨some 5, none, .mv (.t 16)⟩] [0, 1, 5]))))) (.seq (.reg none [⟨some 4, none, .mv (.k (V.b true))⟩] [4]) (.ret))))
def rv20 : List RV := [.t 4]
def L_eqBookingS_l1 (g : G) (t : TE) (a1 : List Booking) : List Booking → Int → Option (LR Bool Unit)
  | [], v1 =>
    some (LR.out ())
  | z1 :: ls1, v1 =>
    gt a1 (g.nat v1) fun x1 =>
    lP (L_eqBooking g t (Booking.mk z1.Thing (Trip.mk z1.Trip.Leg z1.Trip.Day) z1.Weight) (Booking.mk x1.Thing (Trip.mk x1.Trip.Leg x1.Trip.Day) x1.Weight)) fun x2 =>
    br x2
    (
     L_eqBookingS_l1 g t a1 ls1 (g.wrap .i64 (g.add v1 1)))
    (
     some (LR.ret false))
def L_eqBookingS (g : G) (t : TE) (a0 : List Booking) (a1 : List Booking) : Option Bool :=
  br (g.eq (g.llen (t.r_Booking a0)) (g.llen (t.r_Booking a1)))
  (
   cl (L_eqBookingS_l1 g t a1 a0 0) fun o1 => lr o1 fun y1 =>
   some true)
  (
   some false)
theorem c_L_eqBookingS {g : G} {t : TE} {a0 : List Booking} {a1 : List Booking} {r : Bool} (hg : g = G.real) (ht : t = TE.real) (h : L_eqBookingS g t a0 a1 = some r) : Fn Try.prog 20 [.c (.s 4 (t.r_Booking a0)), .c (.s 4 (t.r_Booking a1))] (.c (.r (.v (.bool r)))) := by
 obtain ⟨X, hX⟩ := hide (.c (.r (.v (.bool r))) : X); rw [← hX]; refine fn_of (rvs := rv20) (j := ir20) Try.func20 rfl (by kernel_rfl) (Nat.le_of_ble_eq_true rfl) (by kernel_rfl) prog_mixed ?_; intro g2 F hg2 hF; obtain rfl : g2 = g := hg2.unique.trans hg.symm; clear hg2; obtain ⟨wrap, lt, _, eq, _, _, _, _, _, _, _, _, _, add, _, _, _, _, _, _, _, llen, _, _, _, _, _, _, _, _, _, _, _, _, _, _, _, _, _, _, _, _, _, _⟩ := g2; obtain ⟨_, _, _, _, r_Booking, _, _, _, _, _, _, _, _, _, _⟩ := t
 unfold L_eqBookingS at h; try dsimp only at h
 cbv
 cases hb1 : (eq (llen (r_Booking a0)) (llen (r_Booking a1)))
 ·rw [br_false hb1] at h; cbv; obtain rfl := Option.some.inj h; exact ARet.mk trivial hX.symm
 rw [br_true hb1] at h; cbv; obtain ⟨o1, ho1, h⟩ := of_cl h; try dsimp only at h
 try rw [hg] at ho1
 try rw [ht] at ho1
 refine ABL.mk { p : Nat × Int // p.1 ≤ a0.length ∧ p.2 = ((p.1 : Nat) : Int) ∧ L_eqBookingS_l1 G.real TE.real a1 (List.drop p.1 a0) p.2 = some o1 } (fun ⟨⟨k1, v1⟩, _⟩ => ({ sl := [(0, .c (.r (.s 4 (r_Booking a0)))), (1, .c (.r (.s 4 (r_Booking a1)))), (5, .c (.r (.v (.int .i64 v1))))], tab := [] } : St)) 0 (fun p => a0.length - p.1.1) ⟨(0, 0), Nat.zero_le _, rfl, ho1⟩ (Unit) (fun _ => ({ sl := [], tab := [] } : St)) 0 (fun y => o1 = LR.out y) ?_ ?_ ?_
 ·refine Wk.of [] rfl rfl ?_ ?_
  ·cbv; all_goals exact ⟨⟨_, rfl, rfl⟩, ⟨_, rfl, rfl⟩, ⟨_, rfl, rfl⟩, trivial⟩
  cbv; all_goals exact trivial
 ·rintro ⟨⟨k1, v1⟩, hk1, hi1, h_1⟩ hq1; have hm1 := (hq1.1 0 _ _ rfl); try dsimp only at hk1 hi1 h_1
  clear hq1; cbv
  by_cases hc1_ : k1 < a0.length
  ·have hb2 : lt v1 (llen (r_Booking a0)) = true := ltL_true_Booking hg ht hi1 hc1_; have hs1 := stepL_Booking hg ht hi1 hc1_ hm1; obtain ⟨z1, hz1⟩ := some_of_lt hc1_; rw [drop_of_some hz1] at h_1; rw [L_eqBookingS_l1] at h_1; obtain ⟨z1_Thing, ⟨z1_Trip_Leg, z1_Trip_Day⟩, z1_Weight⟩ := z1; try rw [← hg] at h_1
   try rw [← ht] at h_1
   try dsimp only at h_1
   rw [hb2]; cbv; refine AStep.mk (nn_L hi1) ?_; cbv; refine AGet.mk _ (r_getL_Booking hg ht hi1 hz1) ?_; cbv; refine AStep.mk (nn_L hi1) ?_; cbv; obtain ⟨x1, hx1, h_1⟩ := of_gt h_1; obtain ⟨x1_Thing, ⟨x1_Trip_Leg, x1_Trip_Day⟩, x1_Weight⟩ := x1; try dsimp only at h_1
   refine AGet.mk _ (r_get_Booking hg ht hx1) ?_; cbv; obtain ⟨x2, hx2, h_1⟩ := of_lP h_1; try dsimp only at h_1
   refine ACall.mk _ _ rfl (hF _ _ _ (c_L_eqBooking hg ht hx2)) (.inl rfl) (Nat.le_of_ble_eq_true rfl) ?_; cbv
   cases hb3 : x2
   ·rw [br_false hb3] at h_1; cbv; obtain rfl := Option.some.inj h_1; try dsimp only [lr, lrL, lrp, lrpL] at h
    obtain rfl := Option.some.inj h; exact ARet.mk trivial hX.symm
   rw [br_true hb3] at h_1; cbv; try rw [hg] at h_1
   try rw [ht] at h_1
   refine ⟨⟨(k1 + 1, (wrap .i64 (add v1 1))), hc1_, hs1, h_1⟩, Wk.of [] rfl rfl ?_ ?_, meas_L hc1_⟩
   ·cbv; all_goals exact ⟨⟨_, rfl, rfl⟩, ⟨_, rfl, rfl⟩, ⟨_, rfl, rfl⟩, trivial⟩
   cbv; all_goals exact trivial
  have hb2 : lt v1 (llen (r_Booking a0)) = false := ltL_false_Booking hg ht hi1 hc1_; rw [List.drop_of_length_le (Nat.le_of_not_lt hc1_)] at h_1; rw [L_eqBookingS_l1] at h_1; try rw [← hg] at h_1
  try rw [← ht] at h_1
  try dsimp only at h_1
  rw [hb2]; cbv; refine ⟨(), Wk.of [] rfl rfl ?_ ?_, (Option.some.inj h_1).symm⟩
  ·cbv; all_goals exact trivial
  cbv; all_goals exact trivial
 rintro _ hy1; replace hy1 := hy1.symm; subst hy1; try dsimp only [lr, lrL, lrp, lrpL] at h
 cbv; obtain rfl := Option.some.inj h; exact ARet.mk trivial hX.symm
def ir21 : J := .seq (.reg none [⟨some 4, none, .mv (.k (V.b false))⟩] [0, 1]) (.seq (.seq (.reg none [⟨some 6, none, .mv (.t 0)⟩,⟨some 7, none, .len false (.t 6)⟩,⟨some 8, none, .mv (.t 1)⟩,⟨some 9, none, .len false (.t 8)⟩,⟨some 10, none, .bin .neq .i (.t 7) (.t 9)⟩] [0, 1, 10]) (.cond (.t 10) (.seq (.reg none [⟨some 4, none, .mv (.k (V.b false))⟩] [4]) (.ret)) (.skip))) (.seq (.seq (.reg none [⟨some 5, none, .mv (.k (V.i 0))⟩] [0, 1, 5]) (.bl 0 (.seq (.seq (.reg none [⟨some 11, none, .mv (.t 5)⟩,⟨some 12, none, .mv (.t 0)⟩,⟨some 13, none, .len false (.t 12)⟩,⟨some 14, none, .bin .lss .i (.t 11) (.t 13)⟩] [0, 1, 5, 14]) (.cond (.t 14) (.skip) (.exit 0))) (.seq (.block 1 (.seq (.reg (some [[], [], [0, 1], [0, 1, 2], [], [], [4, 5], [4, 5, 6], [0, 1, 2, 3, 4, 5, 6, 7], [0, 1, 2, 3, 4, 5, 6, 7, 8]]) [⟨some 17, none, .mv (.t 0)⟩,⟨some 18, none, .mv (.t 5)⟩,⟨some 19, none, .ia 2 (.t 17) (.t 18)⟩,⟨some 20, none, .ld true 2 (.t 19)⟩,⟨some 21, none, .mv (.t 1)⟩,⟨some 22, none, .mv (.t 5)⟩,⟨some 23, none, .ia 2 (.t 21) (.t 22)⟩,⟨some 24, none, .ld true 2 (.t 23)⟩,⟨some 25, none, .call 56 true [(.t 20), (.t 24)]⟩,⟨some 26, none, .not (.t 25)⟩] [0, 1, 5, 26]) (.cond (.t 26) (.seq (.reg none [⟨some 4, none, .mv (.k (V.b false))⟩] [4]) (.ret)) (.skip)))) (.reg none [⟨some 15, none, .mv (.t 5)⟩,⟨some 16, none, .bin .add .i (.t 15) (.k (V.i 1))⟩,⟨some 5, none, .mv (.t 16)⟩] [0, 1, 5]))))) (.seq (.reg none [⟨some 4, none, .mv (.k (V.b true))⟩] [4]) (.ret))))
def rv21 : List RV := [.t 4]
def L_eqTripS_l1 (g : G) (t : TE) (a1 : List Trip) : List Trip → Int → Option (LR Bool Unit)
  | [], v1 =>
    some (LR.out ())
  | z1 :: ls1, v1 =>
    gt a1 (g.nat v1) fun x1 =>
    lP (L_eqTrip g t z1 x1) fun x2 =>
    br x2
    (
     L_eqTripS_l1 g t a1 ls1 (g.wrap .i64 (g.add v1 1)))
    (
     some (LR.ret false))
def L_eqTripS (g : G) (t : TE) (a0 : List Trip) (a1 : List Trip) : Option Bool :=
  br (g.eq (g.llen (t.r_Trip a0)) (g.llen (t.r_Trip a1)))
  (
   cl (L_eqTripS_l1 g t a1 a0 0) fun o1 => lr o1 fun y1 =>
   some true)
  (
   some false)
theorem c_L_eqTripS {g : G} {t : TE} {a0 : List Trip} {a1 : List Trip} {r : Bool} (hg : g = G.real) (ht : t = TE.real) (h : L_eqTripS g t a0 a1 = some r) : Fn Try.prog 21 [.c (.s 2 (t.r_Trip a0)), .c (.s 2 (t.r_Trip a1))] (.c (.r (.v (.bool r)))) := by
 obtain ⟨X, hX⟩ := hide (.c (.r (.v (.bool r))) : X); rw [← hX]; refine fn_of (rvs := rv21) (j := ir21) Try.func21 rfl (by kernel_rfl) (Nat.le_of_ble_eq_true rfl) (by kernel_rfl) prog_mixed ?_; intro g2 F hg2 hF; obtain rfl : g2 = g := hg2.unique.trans hg.symm; clear hg2; obtain ⟨wrap, lt, _, eq, _, _, _, _, _, _, _, _, _, add, _, _, _, _, _, _, _, llen, _, _, _, _, _, _, _, _, _, _, _, _, _, _, _, _, _, _, _, _, _, _⟩ := g2; obtain ⟨_, _, _, _, _, _, r_Trip, _, _, _, _, _, _, _, _⟩ := t
 unfold L_eqTripS at h; try dsimp only at h
 cbv
 cases hb1 : (eq (llen (r_Trip a0)) (llen (r_Trip a1)))
 ·rw [br_false hb1] at h; cbv; obtain rfl := Option.some.inj h; exact ARet.mk trivial hX.symm
 rw [br_true hb1] at h; cbv; obtain ⟨o1, ho1, h⟩ := of_cl h; try dsimp only at h
 try rw [hg] at ho1
 try rw [ht] at ho1
 refine ABL.mk { p : Nat × Int // p.1 ≤ a0.length ∧ p.2 = ((p.1 : Nat) : Int) ∧ L_eqTripS_l1 G.real TE.real a1 (List.drop p.1 a0) p.2 = some o1 } (fun ⟨⟨k1, v1⟩, _⟩ => ({ sl := [(0, .c (.r (.s 2 (r_Trip a0)))), (1, .c (.r (.s 2 (r_Trip a1)))), (5, .c (.r (.v (.int .i64 v1))))], tab := [] } : St)) 0 (fun p => a0.length - p.1.1) ⟨(0, 0), Nat.zero_le _, rfl, ho1⟩ (Unit) (fun _ => ({ sl := [], tab := [] } : St)) 0 (fun y => o1 = LR.out y) ?_ ?_ ?_
 ·refine Wk.of [] rfl rfl ?_ ?_
  ·cbv; all_goals exact ⟨⟨_, rfl, rfl⟩, ⟨_, rfl, rfl⟩, ⟨_, rfl, rfl⟩, trivial⟩
  cbv; all_goals exact trivial
 ·rintro ⟨⟨k1, v1⟩, hk1, hi1, h_1⟩ hq1; have hm1 := (hq1.1 0 _ _ rfl); try dsimp only at hk1 hi1 h_1
  clear hq1; cbv
  by_cases hc1_ : k1 < a0.length
  ·have hb2 : lt v1 (llen (r_Trip a0)) = true := ltL_true_Trip hg ht hi1 hc1_; have hs1 := stepL_Trip hg ht hi1 hc1_ hm1; obtain ⟨z1, hz1⟩ := some_of_lt hc1_; rw [drop_of_some hz1] at h_1; rw [L_eqTripS_l1] at h_1; obtain ⟨z1_Leg, z1_Day⟩ := z1; try rw [← hg] at h_1
   try rw [← ht] at h_1
   try dsimp only at h_1
   rw [hb2]; cbv; refine AStep.mk (nn_L hi1) ?_; cbv; refine AGet.mk _ (r_getL_Trip hg ht hi1 hz1) ?_; cbv; refine AStep.mk (nn_L hi1) ?_; cbv; obtain ⟨x1, hx1, h_1⟩ := of_gt h_1; obtain ⟨x1_Leg, x1_Day⟩ := x1; try dsimp only at h_1
   refine AGet.mk _ (r_get_Trip hg ht hx1) ?_; cbv; obtain ⟨x2, hx2, h_1⟩ := of_lP h_1; try dsimp only at h_1
   refine ACall.mk _ _ rfl (hF _ _ _ (c_L_eqTrip hg ht hx2)) (.inl rfl) (Nat.le_of_ble_eq_true rfl) ?_; cbv
   cases hb3 : x2
   ·rw [br_false hb3] at h_1; cbv; obtain rfl := Option.some.inj h_1; try dsimp only [lr, lrL, lrp, lrpL] at h
    obtain rfl := Option.some.inj h; exact ARet.mk trivial hX.symm
   rw [br_true hb3] at h_1; cbv; try rw [hg] at h_1
   try rw [ht] at h_1
   refine ⟨⟨(k1 + 1, (wrap .i64 (add v1 1))), hc1_, hs1, h_1⟩, Wk.of [] rfl rfl ?_ ?_, meas_L hc1_⟩
   ·cbv; all_goals exact ⟨⟨_, rfl, rfl⟩, ⟨_, rfl, rfl⟩, ⟨_, rfl, rfl⟩, trivial⟩
   cbv; all_goals exact trivial
  have hb2 : lt v1 (llen (r_Trip a0)) = false := ltL_false_Trip hg ht hi1 hc1_; rw [List.drop_of_length_le (Nat.le_of_not_lt hc1_)] at h_1; rw [L_eqTripS_l1] at h_1; try rw [← hg] at h_1
  try rw [← ht] at h_1
  try dsimp only at h_1
  rw [hb2]; cbv; refine ⟨(), Wk.of [] rfl rfl ?_ ?_, (Option.some.inj h_1).symm⟩
  ·cbv; all_goals exact trivial
  cbv; all_goals exact trivial
 rintro _ hy1; replace hy1 := hy1.symm; subst hy1; try dsimp only [lr, lrL, lrp, lrpL] at h
 cbv; obtain rfl := Option.some.inj h; exact ARet.mk trivial hX.symm
def ir25 : J := .seq (.reg none [⟨some 4, none, .mv (.k (V.i 0))⟩] [0, 1]) (.seq (.seq (.reg none [⟨some 5, none, .mv (.k (V.i 0))⟩] [0, 1, 5]) (.bl 0 (.seq (.seq (.reg none [⟨some 6, none, .mv (.t 5)⟩,⟨some 7, none, .mv (.t 0)⟩,⟨some 8, none, .len false (.t 7)⟩,⟨some 9, none, .bin .lss .i (.t 6) (.t 8)⟩] [0, 1, 5, 9]) (.cond (.t 9) (.skip) (.exit 0))) (.seq (.block 1 (.seq (.reg none [⟨some 12, none, .mv (.t 0)⟩,⟨some 13, none, .mv (.t 5)⟩,⟨some 14, none, .mv (.t 1)⟩,⟨some 15, none, .ia 1 (.t 12) (.t 13)⟩,⟨none, none, .st 1 (.t 15) (.t 14)⟩] [0, 1, 5]) (.reg none [⟨some 16, none, .mv (.t 1)⟩,⟨some 17, none, .bin .add .i (.t 16) (.k (V.i 1))⟩,⟨some 1, none, .mv (.t 17)⟩] [0, 1, 5]))) (.reg none [⟨some 10, none, .mv (.t 5)⟩,⟨some 11, none, .bin .add .i (.t 10) (.k (V.i 1))⟩,⟨some 5, none, .mv (.t 11)⟩] [0, 1, 5]))))) (.seq (.reg none [⟨some 18, none, .mv (.t 1)⟩,⟨some 4, none, .mv (.t 18)⟩] [4]) (.ret)))
def rv25 : List RV := [.t 4]
def L_markIntS_l1 (g : G) (t : TE) : Nat → List Int → Int → Int → Option ((List Int) × Int)
  | 0, _, _, _ => none
  | n1 + 1, w1, v1, v2 =>
    br (g.lt v2 (g.int (g.dlen (t.d_I64 w1))))
    (
     gd (((0 : Int) ≤ v2 ∧ v2 < (((g.dlen (t.d_I64 w1)) : Nat) : Int))) <|
     gt w1 (g.nat v2) fun x1 =>
     lP (List.set w1 (g.nat v2) v1) fun (l1 : List Int) =>
     L_markIntS_l1 g t n1 l1 (g.wrap .i64 (g.add v1 1)) (g.wrap .i64 (g.add v2 1)))
    (
     some (w1, v1))
def L_markIntS (g : G) (t : TE) (a0 : List Int) (a1 : Int) : Option (Int × (List Int)) :=
  cl (L_markIntS_l1 g t 1000000000 a0 a1 0) fun y1 =>
  gd ((y1.1.length = a0.length)) <|
  some ((y1.2, y1.1))
theorem c_L_markIntS {g : G} {t : TE} {a0 : List Int} {a1 : Int} {r : Int × (List Int)} (hg : g = G.real) (ht : t = TE.real) (h : L_markIntS g t a0 a1 = some r) : FnM Try.prog 25 (.m (.o 1 (t.d_I64 a0))) [.c (.v (.int .i64 a1))] (.c (.r (.v (.int .i64 r.1)))) (.m (.o 1 (t.d_I64 r.2))) := by
 obtain ⟨X, hX⟩ := hide (.c (.r (.v (.int .i64 r.1))) : X); obtain ⟨Y, hY⟩ := hide (.m (.o 1 (t.d_I64 r.2)) : AM); rw [← hX, ← hY]; refine fnM_of (rvs := rv25) (j := ir25) Try.func25 rfl (by kernel_rfl) (Nat.le_of_ble_eq_true rfl) (by kernel_rfl) prog_mixed ?_; intro g2 F hg2 hF; obtain rfl : g2 = g := hg2.unique.trans hg.symm; clear hg2; obtain ⟨wrap, lt, _, _, _, _, _, _, _, _, _, _, int, add, _, _, _, _, _, _, _, _, _, _, dlen, _, _, _, _, _, _, _, _, _, _, _, _, _, _, _, _, _, _, _⟩ := g2; obtain ⟨_, _, _, d_I64, _, _, _, _, _, _, _, _, _, _, _⟩ := t
 unfold L_markIntS at h; try dsimp only at h
 cbv; obtain ⟨o1, ho1, h⟩ := of_cl h; try dsimp only at h
 try rw [hg] at ho1
 try rw [ht] at ho1
 refine ABL.mk { p : Nat × (List Int) × Int × Int // L_markIntS_l1 G.real TE.real p.1 p.2.1 p.2.2.1 p.2.2.2 = some o1 } (fun ⟨⟨n1, w1, v1, v2⟩, _⟩ => ({ sl := [(0, .c (.f 0 1 0 (dlen (d_I64 w1)))), (1, .c (.r (.v (.int .i64 v1)))), (5, .c (.r (.v (.int .i64 v2))))], tab := [(0, some (.arr 1 (d_I64 w1)))] } : St)) 1 (fun p => p.1.1) ⟨(1000000000, a0, a1, 0), ho1⟩ ((List Int) × Int) (fun ⟨y1_1, y1_2⟩ => ({ sl := [(1, .c (.r (.v (.int .i64 y1_2))))], tab := [(0, some (.arr 1 (d_I64 y1_1)))] } : St)) 1 (fun y => o1 = y) ?_ ?_ ?_
 ·refine Wk.of [(0, some 0)] rfl rfl ?_ ?_
  ·cbv; all_goals exact ⟨⟨_, rfl, rfl⟩, ⟨_, rfl, rfl⟩, ⟨_, rfl, rfl⟩, trivial⟩
  cbv; all_goals exact ⟨⟨_, rfl, rfl⟩, trivial⟩
 ·rintro ⟨⟨n1, w1, v1, v2⟩, h_1⟩ hq1; try dsimp only at h_1
  clear hq1; rcases n1 with _ | n1
  ·rw [L_markIntS_l1] at h_1; cases h_1
  rw [L_markIntS_l1] at h_1; try rw [← hg] at h_1
  try rw [← ht] at h_1
  try dsimp only at h_1
  cbv
  cases hb1 : (lt v2 (int (dlen (d_I64 w1))))
  ·rw [br_false hb1] at h_1; cbv; refine ⟨(w1, v1), Wk.of [(0, some 0)] rfl rfl ?_ ?_, (Option.some.inj h_1).symm⟩
   ·cbv; all_goals exact ⟨⟨_, rfl, rfl⟩, trivial⟩
   cbv; all_goals exact ⟨⟨_, rfl, rfl⟩, trivial⟩
  rw [br_true hb1] at h_1; cbv; obtain ⟨hc1, h_1⟩ := of_gd h_1; refine AStep.mk hc1 ?_; cbv; obtain ⟨x1, hx1, h_1⟩ := of_gt h_1; try dsimp only at h_1
  refine AGet.mk _ (d_get_I64 hg ht hx1) ?_; cbv; obtain ⟨l1, hl1, h_1⟩ := of_lP h_1; try dsimp only at h_1
  refine ANew.mk (d_I64 l1) _ (by rw [← hl1]; exact dset_I64 hg ht _ _ v1) rfl ?_; have hnl1 : (dlen (d_I64 w1)) = (d_I64 l1).length := (by rw [← hl1, dsetl_I64 ht]; exact (dlen_I64 hg ht _)); cbv; try rw [hg] at h_1
  try rw [ht] at h_1
  refine ⟨⟨(n1, l1, (wrap .i64 (add v1 1)), (wrap .i64 (add v2 1))), h_1⟩, Wk.of [(0, some 0)] rfl rfl ?_ ?_, Nat.lt_succ_self _⟩
  ·cbv; all_goals try rw [show (dlen (d_I64 w1)) = (dlen (d_I64 l1)) from (hnl1).trans (dlen_I64 hg ht _).symm]
   all_goals exact ⟨⟨_, rfl, rfl⟩, ⟨_, rfl, rfl⟩, ⟨_, rfl, rfl⟩, trivial⟩
  cbv; all_goals try rw [show (dlen (d_I64 w1)) = (dlen (d_I64 l1)) from (hnl1).trans (dlen_I64 hg ht _).symm]
  all_goals exact ⟨⟨_, rfl, rfl⟩, trivial⟩
 rintro ⟨y1_1, y1_2⟩ hy1; replace hy1 := hy1.symm; subst hy1; try dsimp only [lr, lrL, lrp, lrpL] at h
 cbv; obtain ⟨hc2, h⟩ := of_gd h; obtain rfl := Option.some.inj h; exact ARetM.mk ⟨rfl, (lenp_I64 ht (dlen_I64 hg ht _) hc2)⟩ hX.symm hY.symm
def ir95 (s_k0 s_k1 s_k2 : ByteArray) : J := .seq (.reg none [⟨some 2, none, .mv (.k (.c (.r (.v (.string s_k0)))))⟩] [0]) (.seq (.seq (.reg none [⟨some 4, none, .mv (.t 0)⟩,⟨some 5, none, .bin .leq .i (.t 4) (.k (V.i 0))⟩] [0, 5]) (.cond (.t 5) (.seq (.reg none [⟨some 2, none, .mv (.k (.c (.r (.v (.string s_k1)))))⟩] [2]) (.ret)) (.skip))) (.seq (.reg none [⟨some 3, none, .mv (.k (.c (.r (.v (.string s_k0)))))⟩] [0, 3]) (.seq (.bl 0 (.seq (.seq (.reg none [⟨some 6, none, .mv (.t 0)⟩,⟨some 7, none, .bin .gtr .i (.t 6) (.k (V.i 0))⟩] [0, 3, 7]) (.cond (.t 7) (.skip) (.exit 0))) (.block 1 (.seq (.reg none [⟨some 8, none, .mv (.t 0)⟩,⟨some 9, none, .bin .rem .i (.t 8) (.k (V.i 10))⟩,⟨some 10, none, .bin .add .i (.k (V.i 48)) (.t 9)⟩,⟨some 11, none, .cvt .u8 (.t 10)⟩,⟨some 12, none, .bsl 1 [(.t 11)]⟩,⟨some 13, none, .b2s (.t 12)⟩,⟨some 14, none, .mv (.t 3)⟩,⟨some 15, none, .bin .add .s (.t 13) (.t 14)⟩,⟨some 3, none, .mv (.t 15)⟩] [0, 3]) (.reg none [⟨some 16, none, .mv (.t 0)⟩,⟨some 17, none, .bin .quo .i (.t 16) (.k (V.i 10))⟩,⟨some 0, none, .mv (.t 17)⟩] [0, 3]))))) (.seq (.reg none [⟨some 18, none, .mv (.t 3)⟩,⟨some 19, none, .bin .add .s (.k (.c (.r (.v (.string s_k2))))) (.t 18)⟩,⟨some 2, none, .mv (.t 19)⟩] [2]) (.ret)))))
def rv95 : List RV := [.t 2]
def L_markText_l1 (g : G) (t : TE) : Nat → Int → ByteArray → Option ByteArray
  | 0, _, _ => none
  | n1 + 1, v1, v2 =>
    br (g.lt 0 v1)
    (
     lP ([(g.wrap .u8 (g.wrap .i64 (g.add 48 (g.rem v1 10))))]) fun (l1 : List Int) =>
     gd (((g.bstr l1).size + v2.size ≤ 70368744177664)) <|
     L_markText_l1 g t n1 (g.wrap .i64 (g.quo v1 10)) (g.cat (g.bstr l1) v2))
    (
     some v2)
def L_markText (g : G) (t : TE) (a0 : Int) : Option ByteArray :=
  br (g.le a0 0)
  (
   some str_k1)
  (
   cl (L_markText_l1 g t 1000000000 a0 str_k0) fun y1 =>
   gd ((str_k2.size + y1.size ≤ 70368744177664)) <|
   some (g.cat str_k2 y1))
theorem c_L_markText {g : G} {t : TE} {a0 : Int} {r : ByteArray} (hg : g = G.real) (ht : t = TE.real) (h : L_markText g t a0 = some r) : Fn Try.prog 95 [.c (.v (.int .i64 a0))] (.c (.r (.v (.string r)))) := by
 obtain ⟨X, hX⟩ := hide (.c (.r (.v (.string r))) : X); rw [← hX]; refine fn_of (rvs := rv95) (j := (ir95 str_k0 str_k1 str_k2)) Try.func95 rfl (by kernel_rfl) (Nat.le_of_ble_eq_true rfl) (by kernel_rfl) prog_mixed ?_; intro g2 F hg2 hF; obtain rfl : g2 = g := hg2.unique.trans hg.symm; clear hg2; obtain ⟨wrap, lt, le, _, quo, rem, _, _, _, _, _, _, _, add, _, _, cat, _, _, _, _, _, _, _, dlen, _, _, _, rd, _, _, _, _, _, _, _, _, _, _, _, _, _, _, bstr⟩ := g2; obtain ⟨_, _, _, _, _, _, _, _, _, _, _, _, r_U8, d_U8, _⟩ := t
 unfold L_markText at h; try dsimp only at h
 obtain ⟨s_k0, hs_k0⟩ : ∃ s, str_k0 = s := ⟨_, rfl⟩; try rw [hs_k0] at h
 rw [hs_k0]; obtain ⟨s_k1, hs_k1⟩ : ∃ s, str_k1 = s := ⟨_, rfl⟩; try rw [hs_k1] at h
 rw [hs_k1]; obtain ⟨s_k2, hs_k2⟩ : ∃ s, str_k2 = s := ⟨_, rfl⟩; try rw [hs_k2] at h
 rw [hs_k2]; cbv
 cases hb1 : (le a0 0)
 rotate_left
 ·rw [br_true hb1] at h; cbv; obtain rfl := Option.some.inj h; exact ARet.mk trivial hX.symm
 rw [br_false hb1] at h; cbv; obtain ⟨o1, ho1, h⟩ := of_cl h; try dsimp only at h
 try rw [hg] at ho1
 try rw [ht] at ho1
 refine ABL.mk { p : Nat × Int × ByteArray // L_markText_l1 G.real TE.real p.1 p.2.1 p.2.2 = some o1 } (fun ⟨⟨n1, v1, v2⟩, _⟩ => ({ sl := [(0, .c (.r (.v (.int .i64 v1)))), (3, .c (.r (.v (.string v2))))], tab := [] } : St)) 0 (fun p => p.1.1) ⟨(1000000000, a0, s_k0), ho1⟩ (ByteArray) (fun y1 => ({ sl := [(3, .c (.r (.v (.string y1))))], tab := [] } : St)) 0 (fun y => o1 = y) ?_ ?_ ?_
 ·refine Wk.of [] rfl rfl ?_ ?_
  ·cbv; all_goals exact ⟨⟨_, rfl, rfl⟩, ⟨_, rfl, rfl⟩, trivial⟩
  cbv; all_goals exact trivial
 ·rintro ⟨⟨n1, v1, v2⟩, h_1⟩ hq1; try dsimp only at h_1
  clear hq1; rcases n1 with _ | n1
  ·rw [L_markText_l1] at h_1; cases h_1
  rw [L_markText_l1] at h_1; try rw [← hg] at h_1
  try rw [← ht] at h_1
  try dsimp only at h_1
  try rw [hs_k0] at h_1
  try rw [hs_k1] at h_1
  try rw [hs_k2] at h_1
  cbv
  cases hb2 : (lt 0 v1)
  ·rw [br_false hb2] at h_1; cbv; refine ⟨v2, Wk.of [] rfl rfl ?_ ?_, (Option.some.inj h_1).symm⟩
   ·cbv; all_goals exact ⟨⟨_, rfl, rfl⟩, trivial⟩
   cbv; all_goals exact trivial
  rw [br_true hb2] at h_1; cbv; refine AStep.mk (by decide) ?_; cbv; obtain ⟨l1, hl1, h_1⟩ := of_lP h_1; try dsimp only at h_1
  refine ANew.mk (d_U8 l1) (dlen (d_U8 l1)) (by rw [← hl1]; exact lit_U8 hg ht [(wrap .u8 (wrap .i64 (add 48 (rem v1 10))))]) (by rw [← hl1]; exact litn_U8 hg ht [(wrap .u8 (wrap .i64 (add 48 (rem v1 10))))]) ?_; cbv; refine AStep.mk (lend_U8 ht (dlen_U8 hg ht _)) ?_; cbv; refine AB2.mk l1 (by rw [show rd (d_U8 l1) 0 (dlen (d_U8 l1)) = r_U8 l1 from rdw_U8 hg ht (dlen_U8 hg ht _)]; exact bsr_U8 ht _) ?_; cbv; obtain ⟨hc1, h_1⟩ := of_gd h_1; refine AStep.mk (cat_ok hc1) ?_; cbv; refine AStep.mk (by decide) ?_; cbv; try rw [hg] at h_1
  try rw [ht] at h_1
  refine ⟨⟨(n1, (wrap .i64 (quo v1 10)), (cat (bstr l1) v2)), h_1⟩, Wk.of [] rfl rfl ?_ ?_, Nat.lt_succ_self _⟩
  ·cbv; all_goals exact ⟨⟨_, rfl, rfl⟩, ⟨_, rfl, rfl⟩, trivial⟩
  cbv; all_goals exact trivial
 rintro y1 hy1; replace hy1 := hy1.symm; subst hy1; try dsimp only [lr, lrL, lrp, lrpL] at h
 cbv; obtain ⟨hc2, h⟩ := of_gd h; refine AStep.mk (cat_ok hc2) ?_; cbv; obtain rfl := Option.some.inj h; exact ARet.mk trivial hX.symm
def ir57 : J := .seq (.reg none [⟨some 4, none, .mv (.k (V.i 0))⟩] [0, 1]) (.seq (.seq (.reg none [⟨some 5, none, .mv (.k (V.i 0))⟩] [0, 1, 5]) (.bl 0 (.seq (.seq (.reg none [⟨some 6, none, .mv (.t 5)⟩,⟨some 7, none, .mv (.t 0)⟩,⟨some 8, none, .len false (.t 7)⟩,⟨some 9, none, .bin .lss .i (.t 6) (.t 8)⟩] [0, 1, 5, 9]) (.cond (.t 9) (.skip) (.exit 0))) (.seq (.block 1 (.seq (.reg none [⟨some 12, none, .mv (.t 0)⟩,⟨some 13, none, .mv (.t 5)⟩,⟨some 14, none, .mv (.t 1)⟩,⟨some 15, none, .call 95 true [(.t 14)]⟩,⟨some 16, none, .ia 6 (.t 12) (.t 13)⟩,⟨some 17, none, .fa 0 (.t 16)⟩,⟨none, none, .st 1 (.t 17) (.t 15)⟩] [0, 1, 5]) (.seq (.reg none [⟨some 18, none, .mv (.t 1)⟩,⟨some 19, none, .bin .add .i (.t 18) (.k (V.i 1))⟩,⟨some 1, none, .mv (.t 19)⟩] [0, 1, 5]) (.seq (.reg none [⟨some 20, none, .mv (.t 0)⟩,⟨some 21, none, .mv (.t 5)⟩,⟨some 22, none, .mv (.t 1)⟩,⟨some 23, none, .call 95 true [(.t 22)]⟩,⟨some 24, none, .ia 6 (.t 20) (.t 21)⟩,⟨some 25, none, .fa 1 (.t 24)⟩,⟨none, none, .st 1 (.t 25) (.t 23)⟩] [0, 1, 5]) (.seq (.reg none [⟨some 26, none, .mv (.t 1)⟩,⟨some 27, none, .bin .add .i (.t 26) (.k (V.i 1))⟩,⟨some 1, none, .mv (.t 27)⟩] [0, 1, 5]) (.seq (.reg none [⟨some 28, none, .mv (.t 0)⟩,⟨some 29, none, .mv (.t 5)⟩,⟨some 30, none, .mv (.t 1)⟩,⟨some 31, none, .ia 6 (.t 28) (.t 29)⟩,⟨some 32, none, .fa 2 (.t 31)⟩,⟨none, none, .st 1 (.t 32) (.t 30)⟩] [0, 1, 5]) (.seq (.reg none [⟨some 33, none, .mv (.t 1)⟩,⟨some 34, none, .bin .add .i (.t 33) (.k (V.i 1))⟩,⟨some 1, none, .mv (.t 34)⟩] [0, 1, 5]) (.seq (.reg none [⟨some 35, none, .mv (.t 0)⟩,⟨some 36, none, .mv (.t 5)⟩,⟨some 37, none, .mv (.t 1)⟩,⟨some 38, none, .ia 6 (.t 35) (.t 36)⟩,⟨some 39, none, .fa 3 (.t 38)⟩,⟨none, none, .st 1 (.t 39) (.t 37)⟩] [0, 1, 5]) (.seq (.reg none [⟨some 40, none, .mv (.t 1)⟩,⟨some 41, none, .bin .add .i (.t 40) (.k (V.i 1))⟩,⟨some 1, none, .mv (.t 41)⟩] [0, 1, 5]) (.seq (.reg none [⟨some 42, none, .mv (.t 0)⟩,⟨some 43, none, .mv (.t 5)⟩,⟨some 44, none, .mv (.t 1)⟩,⟨some 45, none, .ia 6 (.t 42) (.t 43)⟩,⟨some 46, none, .fa 4 (.t 45)⟩,⟨none, none, .st 1 (.t 46) (.t 44)⟩] [0, 1, 5]) (.seq (.reg none [⟨some 47, none, .mv (.t 1)⟩,⟨some 48, none, .bin .add .i (.t 47) (.k (V.i 1))⟩,⟨some 1, none, .mv (.t 48)⟩] [0, 1, 5]) (.seq (.reg none [⟨some 49, none, .mv (.t 0)⟩,⟨some 50, none, .mv (.t 5)⟩,⟨some 51, none, .mv (.t 1)⟩,⟨some 52, none, .ia 6 (.t 49) (.t 50)⟩,⟨some 53, none, .fa 5 (.t 52)⟩,⟨none, none, .st 1 (.t 53) (.t 51)⟩] [0, 1, 5]) (.reg none [⟨some 54, none, .mv (.t 1)⟩,⟨some 55, none, .bin .add .i (.t 54) (.k (V.i 1))⟩,⟨some 1, none, .mv (.t 55)⟩] [0, 1, 5]))))))))))))) (.reg none [⟨some 10, none, .mv (.t 5)⟩,⟨some 11, none, .bin .add .i (.t 10) (.k (V.i 1))⟩,⟨some 5, none, .mv (.t 11)⟩] [0, 1, 5]))))) (.seq (.reg none [⟨some 56, none, .mv (.t 1)⟩,⟨some 4, none, .mv (.t 56)⟩] [4]) (.ret)))
def rv57 : List RV := [.t 4]
def L_markLegS_l1 (g : G) (t : TE) : Nat → List Leg → Int → Int → Option ((List Leg) × Int)
  | 0, _, _, _ => none
  | n1 + 1, w1, v1, v2 =>
    br (g.lt v2 (g.int (g.dlen (t.d_Leg w1))))
    (
     cl (L_markText g t v1) fun x1 =>
     gd (((0 : Int) ≤ v2 ∧ v2 < (((g.dlen (t.d_Leg w1)) : Nat) : Int))) <|
     gt w1 (g.nat v2) fun x2 =>
     lP (List.set w1 (g.nat v2) (Leg.mk x1 x2.To x2.Start x2.Takes x2.Days x2.Room)) fun (l1 : List Leg) =>
     cl (L_markText g t (g.wrap .i64 (g.add v1 1))) fun x3 =>
     gd (((0 : Int) ≤ v2 ∧ v2 < (((g.dlen (t.d_Leg w1)) : Nat) : Int))) <|
     gt l1 (g.nat v2) fun x4 =>
     lP (List.set l1 (g.nat v2) (Leg.mk x4.From x3 x4.Start x4.Takes x4.Days x4.Room)) fun (l2 : List Leg) =>
     gd (((0 : Int) ≤ v2 ∧ v2 < (((g.dlen (t.d_Leg w1)) : Nat) : Int))) <|
     gt l2 (g.nat v2) fun x5 =>
     lP (List.set l2 (g.nat v2) (Leg.mk x5.From x5.To (g.wrap .i64 (g.add (g.wrap .i64 (g.add v1 1)) 1)) x5.Takes x5.Days x5.Room)) fun (l3 : List Leg) =>
     gd (((0 : Int) ≤ v2 ∧ v2 < (((g.dlen (t.d_Leg w1)) : Nat) : Int))) <|
     gt l3 (g.nat v2) fun x6 =>
     lP (List.set l3 (g.nat v2) (Leg.mk x6.From x6.To x6.Start (g.wrap .i64 (g.add (g.wrap .i64 (g.add (g.wrap .i64 (g.add v1 1)) 1)) 1)) x6.Days x6.Room)) fun (l4 : List Leg) =>
     gd (((0 : Int) ≤ v2 ∧ v2 < (((g.dlen (t.d_Leg w1)) : Nat) : Int))) <|
     gt l4 (g.nat v2) fun x7 =>
     lP (List.set l4 (g.nat v2) (Leg.mk x7.From x7.To x7.Start x7.Takes (g.wrap .i64 (g.add (g.wrap .i64 (g.add (g.wrap .i64 (g.add (g.wrap .i64 (g.add v1 1)) 1)) 1)) 1)) x7.Room)) fun (l5 : List Leg) =>
     gd (((0 : Int) ≤ v2 ∧ v2 < (((g.dlen (t.d_Leg w1)) : Nat) : Int))) <|
     gt l5 (g.nat v2) fun x8 =>
     lP (List.set l5 (g.nat v2) (Leg.mk x8.From x8.To x8.Start x8.Takes x8.Days (g.wrap .i64 (g.add (g.wrap .i64 (g.add (g.wrap .i64 (g.add (g.wrap .i64 (g.add (g.wrap .i64 (g.add v1 1)) 1)) 1)) 1)) 1)))) fun (l6 : List Leg) =>
     L_markLegS_l1 g t n1 l6 (g.wrap .i64 (g.add (g.wrap .i64 (g.add (g.wrap .i64 (g.add (g.wrap .i64 (g.add (g.wrap .i64 (g.add (g.wrap .i64 (g.add v1 1)) 1)) 1)) 1)) 1)) 1)) (g.wrap .i64 (g.add v2 1)))
    (
     some (w1, v1))
def L_markLegS (g : G) (t : TE) (a0 : List Leg) (a1 : Int) : Option (Int × (List Leg)) :=
  cl (L_markLegS_l1 g t 1000000000 a0 a1 0) fun y1 =>
  gd ((y1.1.length = a0.length)) <|
  some ((y1.2, y1.1))
theorem c_L_markLegS {g : G} {t : TE} {a0 : List Leg} {a1 : Int} {r : Int × (List Leg)} (hg : g = G.real) (ht : t = TE.real) (h : L_markLegS g t a0 a1 = some r) : FnM Try.prog 57 (.m (.o 6 (t.d_Leg a0))) [.c (.v (.int .i64 a1))] (.c (.r (.v (.int .i64 r.1)))) (.m (.o 6 (t.d_Leg r.2))) := by
 obtain ⟨X, hX⟩ := hide (.c (.r (.v (.int .i64 r.1))) : X); obtain ⟨Y, hY⟩ := hide (.m (.o 6 (t.d_Leg r.2)) : AM); rw [← hX, ← hY]; refine fnM_of (rvs := rv57) (j := ir57) Try.func57 rfl (by kernel_rfl) (Nat.le_of_ble_eq_true rfl) (by kernel_rfl) prog_mixed ?_; intro g2 F hg2 hF; obtain rfl : g2 = g := hg2.unique.trans hg.symm; clear hg2; obtain ⟨wrap, lt, _, _, _, _, _, _, _, _, _, _, int, add, _, _, _, _, _, _, _, _, _, _, dlen, _, _, _, _, _, _, _, _, _, _, _, _, _, _, _, _, _, _, _⟩ := g2; obtain ⟨_, d_Leg, _, _, _, _, _, _, _, _, _, _, _, _, _⟩ := t
 unfold L_markLegS at h; try dsimp only at h
 cbv; obtain ⟨o1, ho1, h⟩ := of_cl h; try dsimp only at h
 try rw [hg] at ho1
 try rw [ht] at ho1
 refine ABL.mk { p : Nat × (List Leg) × Int × Int // L_markLegS_l1 G.real TE.real p.1 p.2.1 p.2.2.1 p.2.2.2 = some o1 } (fun ⟨⟨n1, w1, v1, v2⟩, _⟩ => ({ sl := [(0, .c (.f 0 6 0 (dlen (d_Leg w1)))), (1, .c (.r (.v (.int .i64 v1)))), (5, .c (.r (.v (.int .i64 v2))))], tab := [(0, some (.arr 6 (d_Leg w1)))] } : St)) 1 (fun p => p.1.1) ⟨(1000000000, a0, a1, 0), ho1⟩ ((List Leg) × Int) (fun ⟨y1_1, y1_2⟩ => ({ sl := [(1, .c (.r (.v (.int .i64 y1_2))))], tab := [(0, some (.arr 6 (d_Leg y1_1)))] } : St)) 1 (fun y => o1 = y) ?_ ?_ ?_
 ·refine Wk.of [(0, some 0)] rfl rfl ?_ ?_
  ·cbv; all_goals exact ⟨⟨_, rfl, rfl⟩, ⟨_, rfl, rfl⟩, ⟨_, rfl, rfl⟩, trivial⟩
  cbv; all_goals exact ⟨⟨_, rfl, rfl⟩, trivial⟩
 ·rintro ⟨⟨n1, w1, v1, v2⟩, h_1⟩ hq1; try dsimp only at h_1
  clear hq1; rcases n1 with _ | n1
  ·rw [L_markLegS_l1] at h_1; cases h_1
  rw [L_markLegS_l1] at h_1; try rw [← hg] at h_1
  try rw [← ht] at h_1
  try dsimp only at h_1
  cbv
  cases hb1 : (lt v2 (int (dlen (d_Leg w1))))
  ·rw [br_false hb1] at h_1; cbv; refine ⟨(w1, v1), Wk.of [(0, some 0)] rfl rfl ?_ ?_, (Option.some.inj h_1).symm⟩
   ·cbv; all_goals exact ⟨⟨_, rfl, rfl⟩, trivial⟩
   cbv; all_goals exact ⟨⟨_, rfl, rfl⟩, trivial⟩
  rw [br_true hb1] at h_1; cbv; obtain ⟨x1, hx1, h_1⟩ := of_cl h_1; try dsimp only at h_1
  refine ACall.mk _ _ rfl (hF _ _ _ (c_L_markText hg ht hx1)) (.inl rfl) (Nat.le_of_ble_eq_true rfl) ?_; cbv; obtain ⟨hc1, h_1⟩ := of_gd h_1; refine AStep.mk hc1 ?_; cbv; obtain ⟨x2, hx2, h_1⟩ := of_gt h_1; obtain ⟨x2_From, x2_To, x2_Start, x2_Takes, x2_Days, x2_Room⟩ := x2; try dsimp only at h_1
  refine AGet.mk _ (d_get_Leg hg ht hx2) ?_; cbv; obtain ⟨l1, hl1, h_1⟩ := of_lP h_1; try dsimp only at h_1
  refine ANew.mk (d_Leg l1) _ (by rw [← hl1]; exact dset_Leg hg ht _ _ (Leg.mk x1 x2_To x2_Start x2_Takes x2_Days x2_Room)) rfl ?_; have hnl1 : (dlen (d_Leg w1)) = (d_Leg l1).length := (by rw [← hl1, dsetl_Leg ht]; exact (dlen_Leg hg ht _)); cbv; obtain ⟨x3, hx3, h_1⟩ := of_cl h_1; try dsimp only at h_1
  refine ACall.mk _ _ rfl (hF _ _ _ (c_L_markText hg ht hx3)) (.inl rfl) (Nat.le_of_ble_eq_true rfl) ?_; cbv; obtain ⟨hc2, h_1⟩ := of_gd h_1; refine AStep.mk hc2 ?_; cbv; obtain ⟨x4, hx4, h_1⟩ := of_gt h_1; obtain ⟨x4_From, x4_To, x4_Start, x4_Takes, x4_Days, x4_Room⟩ := x4; try dsimp only at h_1
  refine AGet.mk _ (d_get_Leg hg ht hx4) ?_; cbv; obtain ⟨l2, hl2, h_1⟩ := of_lP h_1; try dsimp only at h_1
  refine ANew.mk (d_Leg l2) _ (by rw [← hl2]; exact dset_Leg hg ht _ _ (Leg.mk x4_From x3 x4_Start x4_Takes x4_Days x4_Room)) rfl ?_; have hnl2 : (dlen (d_Leg w1)) = (d_Leg l2).length := (by rw [← hl2, dsetl_Leg ht]; exact hnl1); cbv; obtain ⟨hc3, h_1⟩ := of_gd h_1; refine AStep.mk hc3 ?_; cbv; obtain ⟨x5, hx5, h_1⟩ := of_gt h_1; obtain ⟨x5_From, x5_To, x5_Start, x5_Takes, x5_Days, x5_Room⟩ := x5; try dsimp only at h_1
  refine AGet.mk _ (d_get_Leg hg ht hx5) ?_; cbv; obtain ⟨l3, hl3, h_1⟩ := of_lP h_1; try dsimp only at h_1
  refine ANew.mk (d_Leg l3) _ (by rw [← hl3]; exact dset_Leg hg ht _ _ (Leg.mk x5_From x5_To (wrap .i64 (add (wrap .i64 (add v1 1)) 1)) x5_Takes x5_Days x5_Room)) rfl ?_; have hnl3 : (dlen (d_Leg w1)) = (d_Leg l3).length := (by rw [← hl3, dsetl_Leg ht]; exact hnl2); cbv; obtain ⟨hc4, h_1⟩ := of_gd h_1; refine AStep.mk hc4 ?_; cbv; obtain ⟨x6, hx6, h_1⟩ := of_gt h_1; obtain ⟨x6_From, x6_To, x6_Start, x6_Takes, x6_Days, x6_Room⟩ := x6; try dsimp only at h_1
  refine AGet.mk _ (d_get_Leg hg ht hx6) ?_; cbv; obtain ⟨l4, hl4, h_1⟩ := of_lP h_1; try dsimp only at h_1
  refine ANew.mk (d_Leg l4) _ (by rw [← hl4]; exact dset_Leg hg ht _ _ (Leg.mk x6_From x6_To x6_Start (wrap .i64 (add (wrap .i64 (add (wrap .i64 (add v1 1)) 1)) 1)) x6_Days x6_Room)) rfl ?_; have hnl4 : (dlen (d_Leg w1)) = (d_Leg l4).length := (by rw [← hl4, dsetl_Leg ht]; exact hnl3); cbv; obtain ⟨hc5, h_1⟩ := of_gd h_1; refine AStep.mk hc5 ?_; cbv; obtain ⟨x7, hx7, h_1⟩ := of_gt h_1; obtain ⟨x7_From, x7_To, x7_Start, x7_Takes, x7_Days, x7_Room⟩ := x7; try dsimp only at h_1
  refine AGet.mk _ (d_get_Leg hg ht hx7) ?_; cbv; obtain ⟨l5, hl5, h_1⟩ := of_lP h_1; try dsimp only at h_1
  refine ANew.mk (d_Leg l5) _ (by rw [← hl5]; exact dset_Leg hg ht _ _ (Leg.mk x7_From x7_To x7_Start x7_Takes (wrap .i64 (add (wrap .i64 (add (wrap .i64 (add (wrap .i64 (add v1 1)) 1)) 1)) 1)) x7_Room)) rfl ?_; have hnl5 : (dlen (d_Leg w1)) = (d_Leg l5).length := (by rw [← hl5, dsetl_Leg ht]; exact hnl4); cbv; obtain ⟨hc6, h_1⟩ := of_gd h_1; refine AStep.mk hc6 ?_; cbv; obtain ⟨x8, hx8, h_1⟩ := of_gt h_1; obtain ⟨x8_From, x8_To, x8_Start, x8_Takes, x8_Days, x8_Room⟩ := x8; try dsimp only at h_1
  refine AGet.mk _ (d_get_Leg hg ht hx8) ?_; cbv; obtain ⟨l6, hl6, h_1⟩ := of_lP h_1; try dsimp only at h_1
  refine ANew.mk (d_Leg l6) _ (by rw [← hl6]; exact dset_Leg hg ht _ _ (Leg.mk x8_From x8_To x8_Start x8_Takes x8_Days (wrap .i64 (add (wrap .i64 (add (wrap .i64 (add (wrap .i64 (add (wrap .i64 (add v1 1)) 1)) 1)) 1)) 1)))) rfl ?_; have hnl6 : (dlen (d_Leg w1)) = (d_Leg l6).length := (by rw [← hl6, dsetl_Leg ht]; exact hnl5); cbv; try rw [hg] at h_1
  try rw [ht] at h_1
  refine ⟨⟨(n1, l6, (wrap .i64 (add (wrap .i64 (add (wrap .i64 (add (wrap .i64 (add (wrap .i64 (add (wrap .i64 (add v1 1)) 1)) 1)) 1)) 1)) 1)), (wrap .i64 (add v2 1))), h_1⟩, Wk.of [(0, some 0)] rfl rfl ?_ ?_, Nat.lt_succ_self _⟩
  ·cbv; all_goals try rw [show (dlen (d_Leg w1)) = (dlen (d_Leg l6)) from (hnl6).trans (dlen_Leg hg ht _).symm]
   all_goals exact ⟨⟨_, rfl, rfl⟩, ⟨_, rfl, rfl⟩, ⟨_, rfl, rfl⟩, trivial⟩
  cbv; all_goals try rw [show (dlen (d_Leg w1)) = (dlen (d_Leg l6)) from (hnl6).trans (dlen_Leg hg ht _).symm]
  all_goals exact ⟨⟨_, rfl, rfl⟩, trivial⟩
 rintro ⟨y1_1, y1_2⟩ hy1; replace hy1 := hy1.symm; subst hy1; try dsimp only [lr, lrL, lrp, lrpL] at h
 cbv; obtain ⟨hc7, h⟩ := of_gd h; obtain rfl := Option.some.inj h; exact ARetM.mk ⟨rfl, (lenp_Leg ht (dlen_Leg hg ht _) hc7)⟩ hX.symm hY.symm
def ir22 : J := .seq (.reg none [⟨some 2, none, .box (.t 0)⟩,⟨some 4, none, .mv (.k (V.i 0))⟩] [1, 2]) (.seq (.reg none [⟨some 5, none, .fa 0 (.t 2)⟩,⟨some 6, none, .ld false 1 (.t 5)⟩,⟨some 7, none, .mv (.t 1)⟩,⟨some 8, none, .callm 57 (.t 6) [(.t 7)]⟩,⟨some 1, none, .mv (.t 8)⟩] [1, 2]) (.seq (.reg none [⟨some 9, none, .fa 1 (.t 2)⟩,⟨some 10, none, .ld false 1 (.t 9)⟩,⟨some 11, none, .mv (.t 1)⟩,⟨some 12, none, .callm 25 (.t 10) [(.t 11)]⟩,⟨some 1, none, .mv (.t 12)⟩] [1]) (.seq (.reg none [⟨some 13, none, .mv (.t 1)⟩,⟨some 4, none, .mv (.t 13)⟩] [4]) (.ret))))
def rv22 : List RV := [.t 4]
def L_markNetwork (g : G) (t : TE) (a0 : Network) (a1 : Int) : Option (Int × Network) :=
  cl (L_markLegS g t a0.Legs a1) fun x1 =>
  gd ((x1.2.length = a0.Legs.length)) <|
  cl (L_markIntS g t a0.Off x1.1) fun x2 =>
  gd ((x2.2.length = a0.Off.length)) <|
  some ((x2.1, (Network.mk x1.2 x2.2 a0.Change)))
theorem c_L_markNetwork {g : G} {t : TE} {a0 : Network} {a1 : Int} {r : Int × Network} (hg : g = G.real) (ht : t = TE.real) (h : L_markNetwork g t a0 a1 = some r) : FnM Try.prog 22 (.g (Network.ds t a0)) [.c (.v (.int .i64 a1))] (.c (.r (.v (.int .i64 r.1)))) (.g (Network.ds t r.2)) := by
 obtain ⟨X, hX⟩ := hide (.c (.r (.v (.int .i64 r.1))) : X); obtain ⟨Y, hY⟩ := hide (.g (Network.ds t r.2) : AM); rw [← hX, ← hY]; refine fnM_of (rvs := rv22) (j := ir22) Try.func22 rfl (by kernel_rfl) (Nat.le_of_ble_eq_true rfl) (by kernel_rfl) prog_mixed ?_; intro g2 F hg2 hF; obtain rfl : g2 = g := hg2.unique.trans hg.symm; clear hg2; obtain ⟨_, _, _, _, _, _, _, _, _, _, _, _, _, _, _, _, _, _, _, _, _, _, _, _, _, _, _, _, _, _, _, _, _, _, _, _, _, _, _, _, _, _, _, _⟩ := g2; obtain ⟨_, _, _, _, _, _, _, _, _, _, _, _, _, _, _⟩ := t
 obtain ⟨a0_Legs, a0_Off, a0_Change⟩ := a0; unfold L_markNetwork at h; try dsimp only at h
 cbv; refine AStep.mk ⟨rfl, (dlen_Leg hg ht _)⟩ ?_; cbv; obtain ⟨x1, hx1, h⟩ := of_cl h; obtain ⟨x1_1, x1_2⟩ := x1; try dsimp only at h
 refine ACallM.mk _ _ _ _ rfl rfl (hF _ _ _ (c_L_markLegS hg ht hx1)) rfl (Nat.le_of_ble_eq_true rfl) (Nat.le_of_ble_eq_true rfl) ?_; cbv; obtain ⟨hc1, h⟩ := of_gd h; refine AStep.mk ⟨rfl, (dlen_I64 hg ht _)⟩ ?_; cbv; obtain ⟨x2, hx2, h⟩ := of_cl h; obtain ⟨x2_1, x2_2⟩ := x2; try dsimp only at h
 refine ACallM.mk _ _ _ _ rfl rfl (hF _ _ _ (c_L_markIntS hg ht hx2)) rfl (Nat.le_of_ble_eq_true rfl) (Nat.le_of_ble_eq_true rfl) ?_; cbv; obtain ⟨hc2, h⟩ := of_gd h; obtain rfl := Option.some.inj h; exact ARetM.mk ⟨⟨rfl, (lenp_Leg ht (dlen_Leg hg ht _) hc1)⟩, ⟨rfl, (lenp_I64 ht (dlen_I64 hg ht _) hc2)⟩⟩ hX.symm hY.symm
def ir23 : J := .seq (.reg none [⟨some 4, none, .mv (.k (V.i 0))⟩] [0, 1]) (.seq (.seq (.reg none [⟨some 5, none, .mv (.k (V.i 0))⟩] [0, 1, 5]) (.bl 0 (.seq (.seq (.reg none [⟨some 6, none, .mv (.t 5)⟩,⟨some 7, none, .mv (.t 0)⟩,⟨some 8, none, .len false (.t 7)⟩,⟨some 9, none, .bin .lss .i (.t 6) (.t 8)⟩] [0, 1, 5, 9]) (.cond (.t 9) (.skip) (.exit 0))) (.seq (.block 1 (.seq (.reg none [⟨some 12, none, .mv (.t 0)⟩,⟨some 13, none, .mv (.t 5)⟩,⟨some 14, none, .mv (.t 1)⟩,⟨some 15, none, .ia 4 (.t 12) (.t 13)⟩,⟨some 16, none, .fa 0 (.t 15)⟩,⟨none, none, .st 1 (.t 16) (.t 14)⟩] [0, 1, 5]) (.seq (.reg none [⟨some 17, none, .mv (.t 1)⟩,⟨some 18, none, .bin .add .i (.t 17) (.k (V.i 1))⟩,⟨some 1, none, .mv (.t 18)⟩] [0, 1, 5]) (.seq (.reg none [⟨some 19, none, .mv (.t 0)⟩,⟨some 20, none, .mv (.t 5)⟩,⟨some 21, none, .mv (.t 1)⟩,⟨some 22, none, .ia 4 (.t 19) (.t 20)⟩,⟨some 23, none, .fa 1 (.t 22)⟩,⟨some 24, none, .fa 0 (.t 23)⟩,⟨none, none, .st 1 (.t 24) (.t 21)⟩] [0, 1, 5]) (.seq (.reg none [⟨some 25, none, .mv (.t 1)⟩,⟨some 26, none, .bin .add .i (.t 25) (.k (V.i 1))⟩,⟨some 1, none, .mv (.t 26)⟩] [0, 1, 5]) (.seq (.reg none [⟨some 27, none, .mv (.t 0)⟩,⟨some 28, none, .mv (.t 5)⟩,⟨some 29, none, .mv (.t 1)⟩,⟨some 30, none, .ia 4 (.t 27) (.t 28)⟩,⟨some 31, none, .fa 1 (.t 30)⟩,⟨some 32, none, .fa 1 (.t 31)⟩,⟨none, none, .st 1 (.t 32) (.t 29)⟩] [0, 1, 5]) (.seq (.reg none [⟨some 33, none, .mv (.t 1)⟩,⟨some 34, none, .bin .add .i (.t 33) (.k (V.i 1))⟩,⟨some 1, none, .mv (.t 34)⟩] [0, 1, 5]) (.seq (.reg none [⟨some 35, none, .mv (.t 0)⟩,⟨some 36, none, .mv (.t 5)⟩,⟨some 37, none, .mv (.t 1)⟩,⟨some 38, none, .ia 4 (.t 35) (.t 36)⟩,⟨some 39, none, .fa 3 (.t 38)⟩,⟨none, none, .st 1 (.t 39) (.t 37)⟩] [0, 1, 5]) (.reg none [⟨some 40, none, .mv (.t 1)⟩,⟨some 41, none, .bin .add .i (.t 40) (.k (V.i 1))⟩,⟨some 1, none, .mv (.t 41)⟩] [0, 1, 5]))))))))) (.reg none [⟨some 10, none, .mv (.t 5)⟩,⟨some 11, none, .bin .add .i (.t 10) (.k (V.i 1))⟩,⟨some 5, none, .mv (.t 11)⟩] [0, 1, 5]))))) (.seq (.reg none [⟨some 42, none, .mv (.t 1)⟩,⟨some 4, none, .mv (.t 42)⟩] [4]) (.ret)))
def rv23 : List RV := [.t 4]
def L_markBookingS_l1 (g : G) (t : TE) : Nat → List Booking → Int → Int → Option ((List Booking) × Int)
  | 0, _, _, _ => none
  | n1 + 1, w1, v1, v2 =>
    br (g.lt v2 (g.int (g.dlen (t.d_Booking w1))))
    (
     gd (((0 : Int) ≤ v2 ∧ v2 < (((g.dlen (t.d_Booking w1)) : Nat) : Int))) <|
     gt w1 (g.nat v2) fun x1 =>
     lP (List.set w1 (g.nat v2) (Booking.mk v1 (Trip.mk x1.Trip.Leg x1.Trip.Day) x1.Weight)) fun (l1 : List Booking) =>
     gd (((0 : Int) ≤ v2 ∧ v2 < (((g.dlen (t.d_Booking w1)) : Nat) : Int))) <|
     gt l1 (g.nat v2) fun x2 =>
     lP (List.set l1 (g.nat v2) (Booking.mk x2.Thing (Trip.mk (g.wrap .i64 (g.add v1 1)) x2.Trip.Day) x2.Weight)) fun (l2 : List Booking) =>
     gd (((0 : Int) ≤ v2 ∧ v2 < (((g.dlen (t.d_Booking w1)) : Nat) : Int))) <|
     gt l2 (g.nat v2) fun x3 =>
     lP (List.set l2 (g.nat v2) (Booking.mk x3.Thing (Trip.mk x3.Trip.Leg (g.wrap .i64 (g.add (g.wrap .i64 (g.add v1 1)) 1))) x3.Weight)) fun (l3 : List Booking) =>
     gd (((0 : Int) ≤ v2 ∧ v2 < (((g.dlen (t.d_Booking w1)) : Nat) : Int))) <|
     gt l3 (g.nat v2) fun x4 =>
     lP (List.set l3 (g.nat v2) (Booking.mk x4.Thing (Trip.mk x4.Trip.Leg x4.Trip.Day) (g.wrap .i64 (g.add (g.wrap .i64 (g.add (g.wrap .i64 (g.add v1 1)) 1)) 1)))) fun (l4 : List Booking) =>
     L_markBookingS_l1 g t n1 l4 (g.wrap .i64 (g.add (g.wrap .i64 (g.add (g.wrap .i64 (g.add (g.wrap .i64 (g.add v1 1)) 1)) 1)) 1)) (g.wrap .i64 (g.add v2 1)))
    (
     some (w1, v1))
def L_markBookingS (g : G) (t : TE) (a0 : List Booking) (a1 : Int) : Option (Int × (List Booking)) :=
  cl (L_markBookingS_l1 g t 1000000000 a0 a1 0) fun y1 =>
  gd ((y1.1.length = a0.length)) <|
  some ((y1.2, y1.1))
theorem c_L_markBookingS {g : G} {t : TE} {a0 : List Booking} {a1 : Int} {r : Int × (List Booking)} (hg : g = G.real) (ht : t = TE.real) (h : L_markBookingS g t a0 a1 = some r) : FnM Try.prog 23 (.m (.o 4 (t.d_Booking a0))) [.c (.v (.int .i64 a1))] (.c (.r (.v (.int .i64 r.1)))) (.m (.o 4 (t.d_Booking r.2))) := by
 obtain ⟨X, hX⟩ := hide (.c (.r (.v (.int .i64 r.1))) : X); obtain ⟨Y, hY⟩ := hide (.m (.o 4 (t.d_Booking r.2)) : AM); rw [← hX, ← hY]; refine fnM_of (rvs := rv23) (j := ir23) Try.func23 rfl (by kernel_rfl) (Nat.le_of_ble_eq_true rfl) (by kernel_rfl) prog_mixed ?_; intro g2 F hg2 hF; obtain rfl : g2 = g := hg2.unique.trans hg.symm; clear hg2; obtain ⟨wrap, lt, _, _, _, _, _, _, _, _, _, _, int, add, _, _, _, _, _, _, _, _, _, _, dlen, _, _, _, _, _, _, _, _, _, _, _, _, _, _, _, _, _, _, _⟩ := g2; obtain ⟨_, _, _, _, _, d_Booking, _, _, _, _, _, _, _, _, _⟩ := t
 unfold L_markBookingS at h; try dsimp only at h
 cbv; obtain ⟨o1, ho1, h⟩ := of_cl h; try dsimp only at h
 try rw [hg] at ho1
 try rw [ht] at ho1
 refine ABL.mk { p : Nat × (List Booking) × Int × Int // L_markBookingS_l1 G.real TE.real p.1 p.2.1 p.2.2.1 p.2.2.2 = some o1 } (fun ⟨⟨n1, w1, v1, v2⟩, _⟩ => ({ sl := [(0, .c (.f 0 4 0 (dlen (d_Booking w1)))), (1, .c (.r (.v (.int .i64 v1)))), (5, .c (.r (.v (.int .i64 v2))))], tab := [(0, some (.arr 4 (d_Booking w1)))] } : St)) 1 (fun p => p.1.1) ⟨(1000000000, a0, a1, 0), ho1⟩ ((List Booking) × Int) (fun ⟨y1_1, y1_2⟩ => ({ sl := [(1, .c (.r (.v (.int .i64 y1_2))))], tab := [(0, some (.arr 4 (d_Booking y1_1)))] } : St)) 1 (fun y => o1 = y) ?_ ?_ ?_
 ·refine Wk.of [(0, some 0)] rfl rfl ?_ ?_
  ·cbv; all_goals exact ⟨⟨_, rfl, rfl⟩, ⟨_, rfl, rfl⟩, ⟨_, rfl, rfl⟩, trivial⟩
  cbv; all_goals exact ⟨⟨_, rfl, rfl⟩, trivial⟩
 ·rintro ⟨⟨n1, w1, v1, v2⟩, h_1⟩ hq1; try dsimp only at h_1
  clear hq1; rcases n1 with _ | n1
  ·rw [L_markBookingS_l1] at h_1; cases h_1
  rw [L_markBookingS_l1] at h_1; try rw [← hg] at h_1
  try rw [← ht] at h_1
  try dsimp only at h_1
  cbv
  cases hb1 : (lt v2 (int (dlen (d_Booking w1))))
  ·rw [br_false hb1] at h_1; cbv; refine ⟨(w1, v1), Wk.of [(0, some 0)] rfl rfl ?_ ?_, (Option.some.inj h_1).symm⟩
   ·cbv; all_goals exact ⟨⟨_, rfl, rfl⟩, trivial⟩
   cbv; all_goals exact ⟨⟨_, rfl, rfl⟩, trivial⟩
  rw [br_true hb1] at h_1; cbv; obtain ⟨hc1, h_1⟩ := of_gd h_1; refine AStep.mk hc1 ?_; cbv; obtain ⟨x1, hx1, h_1⟩ := of_gt h_1; obtain ⟨x1_Thing, ⟨x1_Trip_Leg, x1_Trip_Day⟩, x1_Weight⟩ := x1; try dsimp only at h_1
  refine AGet.mk _ (d_get_Booking hg ht hx1) ?_; cbv; obtain ⟨l1, hl1, h_1⟩ := of_lP h_1; try dsimp only at h_1
  refine ANew.mk (d_Booking l1) _ (by rw [← hl1]; exact dset_Booking hg ht _ _ (Booking.mk v1 (Trip.mk x1_Trip_Leg x1_Trip_Day) x1_Weight)) rfl ?_; have hnl1 : (dlen (d_Booking w1)) = (d_Booking l1).length := (by rw [← hl1, dsetl_Booking ht]; exact (dlen_Booking hg ht _)); cbv; obtain ⟨hc2, h_1⟩ := of_gd h_1; refine AStep.mk hc2 ?_; cbv; obtain ⟨x2, hx2, h_1⟩ := of_gt h_1; obtain ⟨x2_Thing, ⟨x2_Trip_Leg, x2_Trip_Day⟩, x2_Weight⟩ := x2; try dsimp only at h_1
  refine AGet.mk _ (d_get_Booking hg ht hx2) ?_; cbv; obtain ⟨l2, hl2, h_1⟩ := of_lP h_1; try dsimp only at h_1
  refine ANew.mk (d_Booking l2) _ (by rw [← hl2]; exact dset_Booking hg ht _ _ (Booking.mk x2_Thing (Trip.mk (wrap .i64 (add v1 1)) x2_Trip_Day) x2_Weight)) rfl ?_; have hnl2 : (dlen (d_Booking w1)) = (d_Booking l2).length := (by rw [← hl2, dsetl_Booking ht]; exact hnl1); cbv; obtain ⟨hc3, h_1⟩ := of_gd h_1; refine AStep.mk hc3 ?_; cbv; obtain ⟨x3, hx3, h_1⟩ := of_gt h_1; obtain ⟨x3_Thing, ⟨x3_Trip_Leg, x3_Trip_Day⟩, x3_Weight⟩ := x3; try dsimp only at h_1
  refine AGet.mk _ (d_get_Booking hg ht hx3) ?_; cbv; obtain ⟨l3, hl3, h_1⟩ := of_lP h_1; try dsimp only at h_1
  refine ANew.mk (d_Booking l3) _ (by rw [← hl3]; exact dset_Booking hg ht _ _ (Booking.mk x3_Thing (Trip.mk x3_Trip_Leg (wrap .i64 (add (wrap .i64 (add v1 1)) 1))) x3_Weight)) rfl ?_; have hnl3 : (dlen (d_Booking w1)) = (d_Booking l3).length := (by rw [← hl3, dsetl_Booking ht]; exact hnl2); cbv; obtain ⟨hc4, h_1⟩ := of_gd h_1; refine AStep.mk hc4 ?_; cbv; obtain ⟨x4, hx4, h_1⟩ := of_gt h_1; obtain ⟨x4_Thing, ⟨x4_Trip_Leg, x4_Trip_Day⟩, x4_Weight⟩ := x4; try dsimp only at h_1
  refine AGet.mk _ (d_get_Booking hg ht hx4) ?_; cbv; obtain ⟨l4, hl4, h_1⟩ := of_lP h_1; try dsimp only at h_1
  refine ANew.mk (d_Booking l4) _ (by rw [← hl4]; exact dset_Booking hg ht _ _ (Booking.mk x4_Thing (Trip.mk x4_Trip_Leg x4_Trip_Day) (wrap .i64 (add (wrap .i64 (add (wrap .i64 (add v1 1)) 1)) 1)))) rfl ?_; have hnl4 : (dlen (d_Booking w1)) = (d_Booking l4).length := (by rw [← hl4, dsetl_Booking ht]; exact hnl3); cbv; try rw [hg] at h_1
  try rw [ht] at h_1
  refine ⟨⟨(n1, l4, (wrap .i64 (add (wrap .i64 (add (wrap .i64 (add (wrap .i64 (add v1 1)) 1)) 1)) 1)), (wrap .i64 (add v2 1))), h_1⟩, Wk.of [(0, some 0)] rfl rfl ?_ ?_, Nat.lt_succ_self _⟩
  ·cbv; all_goals try rw [show (dlen (d_Booking w1)) = (dlen (d_Booking l4)) from (hnl4).trans (dlen_Booking hg ht _).symm]
   all_goals exact ⟨⟨_, rfl, rfl⟩, ⟨_, rfl, rfl⟩, ⟨_, rfl, rfl⟩, trivial⟩
  cbv; all_goals try rw [show (dlen (d_Booking w1)) = (dlen (d_Booking l4)) from (hnl4).trans (dlen_Booking hg ht _).symm]
  all_goals exact ⟨⟨_, rfl, rfl⟩, trivial⟩
 rintro ⟨y1_1, y1_2⟩ hy1; replace hy1 := hy1.symm; subst hy1; try dsimp only [lr, lrL, lrp, lrpL] at h
 cbv; obtain ⟨hc5, h⟩ := of_gd h; obtain rfl := Option.some.inj h; exact ARetM.mk ⟨rfl, (lenp_Booking ht (dlen_Booking hg ht _) hc5)⟩ hX.symm hY.symm
def ir24 : J := .seq (.reg none [⟨some 4, none, .mv (.k (V.i 0))⟩] [0, 1]) (.seq (.seq (.reg none [⟨some 5, none, .mv (.k (V.i 0))⟩] [0, 1, 5]) (.bl 0 (.seq (.seq (.reg none [⟨some 6, none, .mv (.t 5)⟩,⟨some 7, none, .mv (.t 0)⟩,⟨some 8, none, .len false (.t 7)⟩,⟨some 9, none, .bin .lss .i (.t 6) (.t 8)⟩] [0, 1, 5, 9]) (.cond (.t 9) (.skip) (.exit 0))) (.seq (.block 1 (.seq (.reg none [⟨some 12, none, .mv (.t 0)⟩,⟨some 13, none, .mv (.t 5)⟩,⟨some 14, none, .mv (.t 1)⟩,⟨some 15, none, .ia 2 (.t 12) (.t 13)⟩,⟨some 16, none, .fa 0 (.t 15)⟩,⟨none, none, .st 1 (.t 16) (.t 14)⟩] [0, 1, 5]) (.seq (.reg none [⟨some 17, none, .mv (.t 1)⟩,⟨some 18, none, .bin .add .i (.t 17) (.k (V.i 1))⟩,⟨some 1, none, .mv (.t 18)⟩] [0, 1, 5]) (.seq (.reg none [⟨some 19, none, .mv (.t 0)⟩,⟨some 20, none, .mv (.t 5)⟩,⟨some 21, none, .mv (.t 1)⟩,⟨some 22, none, .ia 2 (.t 19) (.t 20)⟩,⟨some 23, none, .fa 1 (.t 22)⟩,⟨none, none, .st 1 (.t 23) (.t 21)⟩] [0, 1, 5]) (.reg none [⟨some 24, none, .mv (.t 1)⟩,⟨some 25, none, .bin .add .i (.t 24) (.k (V.i 1))⟩,⟨some 1, none, .mv (.t 25)⟩] [0, 1, 5]))))) (.reg none [⟨some 10, none, .mv (.t 5)⟩,⟨some 11, none, .bin .add .i (.t 10) (.k (V.i 1))⟩,⟨some 5, none, .mv (.t 11)⟩] [0, 1, 5]))))) (.seq (.reg none [⟨some 26, none, .mv (.t 1)⟩,⟨some 4, none, .mv (.t 26)⟩] [4]) (.ret)))
def rv24 : List RV := [.t 4]
def L_markTripS_l1 (g : G) (t : TE) : Nat → List Trip → Int → Int → Option ((List Trip) × Int)
  | 0, _, _, _ => none
  | n1 + 1, w1, v1, v2 =>
    br (g.lt v2 (g.int (g.dlen (t.d_Trip w1))))
    (
     gd (((0 : Int) ≤ v2 ∧ v2 < (((g.dlen (t.d_Trip w1)) : Nat) : Int))) <|
     gt w1 (g.nat v2) fun x1 =>
     lP (List.set w1 (g.nat v2) (Trip.mk v1 x1.Day)) fun (l1 : List Trip) =>
     gd (((0 : Int) ≤ v2 ∧ v2 < (((g.dlen (t.d_Trip w1)) : Nat) : Int))) <|
     gt l1 (g.nat v2) fun x2 =>
     lP (List.set l1 (g.nat v2) (Trip.mk x2.Leg (g.wrap .i64 (g.add v1 1)))) fun (l2 : List Trip) =>
     L_markTripS_l1 g t n1 l2 (g.wrap .i64 (g.add (g.wrap .i64 (g.add v1 1)) 1)) (g.wrap .i64 (g.add v2 1)))
    (
     some (w1, v1))
def L_markTripS (g : G) (t : TE) (a0 : List Trip) (a1 : Int) : Option (Int × (List Trip)) :=
  cl (L_markTripS_l1 g t 1000000000 a0 a1 0) fun y1 =>
  gd ((y1.1.length = a0.length)) <|
  some ((y1.2, y1.1))
theorem c_L_markTripS {g : G} {t : TE} {a0 : List Trip} {a1 : Int} {r : Int × (List Trip)} (hg : g = G.real) (ht : t = TE.real) (h : L_markTripS g t a0 a1 = some r) : FnM Try.prog 24 (.m (.o 2 (t.d_Trip a0))) [.c (.v (.int .i64 a1))] (.c (.r (.v (.int .i64 r.1)))) (.m (.o 2 (t.d_Trip r.2))) := by
 obtain ⟨X, hX⟩ := hide (.c (.r (.v (.int .i64 r.1))) : X); obtain ⟨Y, hY⟩ := hide (.m (.o 2 (t.d_Trip r.2)) : AM); rw [← hX, ← hY]; refine fnM_of (rvs := rv24) (j := ir24) Try.func24 rfl (by kernel_rfl) (Nat.le_of_ble_eq_true rfl) (by kernel_rfl) prog_mixed ?_; intro g2 F hg2 hF; obtain rfl : g2 = g := hg2.unique.trans hg.symm; clear hg2; obtain ⟨wrap, lt, _, _, _, _, _, _, _, _, _, _, int, add, _, _, _, _, _, _, _, _, _, _, dlen, _, _, _, _, _, _, _, _, _, _, _, _, _, _, _, _, _, _, _⟩ := g2; obtain ⟨_, _, _, _, _, _, _, d_Trip, _, _, _, _, _, _, _⟩ := t
 unfold L_markTripS at h; try dsimp only at h
 cbv; obtain ⟨o1, ho1, h⟩ := of_cl h; try dsimp only at h
 try rw [hg] at ho1
 try rw [ht] at ho1
 refine ABL.mk { p : Nat × (List Trip) × Int × Int // L_markTripS_l1 G.real TE.real p.1 p.2.1 p.2.2.1 p.2.2.2 = some o1 } (fun ⟨⟨n1, w1, v1, v2⟩, _⟩ => ({ sl := [(0, .c (.f 0 2 0 (dlen (d_Trip w1)))), (1, .c (.r (.v (.int .i64 v1)))), (5, .c (.r (.v (.int .i64 v2))))], tab := [(0, some (.arr 2 (d_Trip w1)))] } : St)) 1 (fun p => p.1.1) ⟨(1000000000, a0, a1, 0), ho1⟩ ((List Trip) × Int) (fun ⟨y1_1, y1_2⟩ => ({ sl := [(1, .c (.r (.v (.int .i64 y1_2))))], tab := [(0, some (.arr 2 (d_Trip y1_1)))] } : St)) 1 (fun y => o1 = y) ?_ ?_ ?_
 ·refine Wk.of [(0, some 0)] rfl rfl ?_ ?_
  ·cbv; all_goals exact ⟨⟨_, rfl, rfl⟩, ⟨_, rfl, rfl⟩, ⟨_, rfl, rfl⟩, trivial⟩
  cbv; all_goals exact ⟨⟨_, rfl, rfl⟩, trivial⟩
 ·rintro ⟨⟨n1, w1, v1, v2⟩, h_1⟩ hq1; try dsimp only at h_1
  clear hq1; rcases n1 with _ | n1
  ·rw [L_markTripS_l1] at h_1; cases h_1
  rw [L_markTripS_l1] at h_1; try rw [← hg] at h_1
  try rw [← ht] at h_1
  try dsimp only at h_1
  cbv
  cases hb1 : (lt v2 (int (dlen (d_Trip w1))))
  ·rw [br_false hb1] at h_1; cbv; refine ⟨(w1, v1), Wk.of [(0, some 0)] rfl rfl ?_ ?_, (Option.some.inj h_1).symm⟩
   ·cbv; all_goals exact ⟨⟨_, rfl, rfl⟩, trivial⟩
   cbv; all_goals exact ⟨⟨_, rfl, rfl⟩, trivial⟩
  rw [br_true hb1] at h_1; cbv; obtain ⟨hc1, h_1⟩ := of_gd h_1; refine AStep.mk hc1 ?_; cbv; obtain ⟨x1, hx1, h_1⟩ := of_gt h_1; obtain ⟨x1_Leg, x1_Day⟩ := x1; try dsimp only at h_1
  refine AGet.mk _ (d_get_Trip hg ht hx1) ?_; cbv; obtain ⟨l1, hl1, h_1⟩ := of_lP h_1; try dsimp only at h_1
  refine ANew.mk (d_Trip l1) _ (by rw [← hl1]; exact dset_Trip hg ht _ _ (Trip.mk v1 x1_Day)) rfl ?_; have hnl1 : (dlen (d_Trip w1)) = (d_Trip l1).length := (by rw [← hl1, dsetl_Trip ht]; exact (dlen_Trip hg ht _)); cbv; obtain ⟨hc2, h_1⟩ := of_gd h_1; refine AStep.mk hc2 ?_; cbv; obtain ⟨x2, hx2, h_1⟩ := of_gt h_1; obtain ⟨x2_Leg, x2_Day⟩ := x2; try dsimp only at h_1
  refine AGet.mk _ (d_get_Trip hg ht hx2) ?_; cbv; obtain ⟨l2, hl2, h_1⟩ := of_lP h_1; try dsimp only at h_1
  refine ANew.mk (d_Trip l2) _ (by rw [← hl2]; exact dset_Trip hg ht _ _ (Trip.mk x2_Leg (wrap .i64 (add v1 1)))) rfl ?_; have hnl2 : (dlen (d_Trip w1)) = (d_Trip l2).length := (by rw [← hl2, dsetl_Trip ht]; exact hnl1); cbv; try rw [hg] at h_1
  try rw [ht] at h_1
  refine ⟨⟨(n1, l2, (wrap .i64 (add (wrap .i64 (add v1 1)) 1)), (wrap .i64 (add v2 1))), h_1⟩, Wk.of [(0, some 0)] rfl rfl ?_ ?_, Nat.lt_succ_self _⟩
  ·cbv; all_goals try rw [show (dlen (d_Trip w1)) = (dlen (d_Trip l2)) from (hnl2).trans (dlen_Trip hg ht _).symm]
   all_goals exact ⟨⟨_, rfl, rfl⟩, ⟨_, rfl, rfl⟩, ⟨_, rfl, rfl⟩, trivial⟩
  cbv; all_goals try rw [show (dlen (d_Trip w1)) = (dlen (d_Trip l2)) from (hnl2).trans (dlen_Trip hg ht _).symm]
  all_goals exact ⟨⟨_, rfl, rfl⟩, trivial⟩
 rintro ⟨y1_1, y1_2⟩ hy1; replace hy1 := hy1.symm; subst hy1; try dsimp only [lr, lrL, lrp, lrpL] at h
 cbv; obtain ⟨hc3, h⟩ := of_gd h; obtain rfl := Option.some.inj h; exact ARetM.mk ⟨rfl, (lenp_Trip ht (dlen_Trip hg ht _) hc3)⟩ hX.symm hY.symm
def ir26 : J := .seq (.reg none [⟨some 4, none, .mv (.k (V.i 0))⟩] [0, 1]) (.seq (.seq (.reg none [⟨some 5, none, .mv (.k (V.i 0))⟩] [0, 1, 5]) (.bl 0 (.seq (.seq (.reg none [⟨some 6, none, .mv (.t 5)⟩,⟨some 7, none, .mv (.t 0)⟩,⟨some 8, none, .len false (.t 7)⟩,⟨some 9, none, .bin .lss .i (.t 6) (.t 8)⟩] [0, 1, 5, 9]) (.cond (.t 9) (.skip) (.exit 0))) (.seq (.block 1 (.seq (.seq (.reg none [⟨some 12, none, .mv (.t 0)⟩,⟨some 13, none, .mv (.t 5)⟩,⟨some 14, none, .ia 1 (.t 12) (.t 13)⟩,⟨some 15, none, .ld false 1 (.t 14)⟩,⟨some 16, none, .mv (.t 1)⟩,⟨some 17, none, .bin .neq .i (.t 15) (.t 16)⟩] [0, 1, 5, 17]) (.cond (.t 17) (.seq (.reg none [⟨some 4, none, .mv (.k (V.i (-1)))⟩] [4]) (.ret)) (.skip))) (.reg none [⟨some 18, none, .mv (.t 1)⟩,⟨some 19, none, .bin .add .i (.t 18) (.k (V.i 1))⟩,⟨some 1, none, .mv (.t 19)⟩] [0, 1, 5]))) (.reg none [⟨some 10, none, .mv (.t 5)⟩,⟨some 11, none, .bin .add .i (.t 10) (.k (V.i 1))⟩,⟨some 5, none, .mv (.t 11)⟩] [0, 1, 5]))))) (.seq (.reg none [⟨some 20, none, .mv (.t 1)⟩,⟨some 4, none, .mv (.t 20)⟩] [4]) (.ret)))
def rv26 : List RV := [.t 4]
def L_heldIntS_l1 (g : G) (t : TE) : List Int → Int → LR Int Int
  | [], v1 =>
    (LR.out v1)
  | z1 :: ls1, v1 =>
    br (g.eq z1 v1)
    (
     L_heldIntS_l1 g t ls1 (g.wrap .i64 (g.add v1 1)))
    (
     (LR.ret (-1)))
def L_heldIntS (g : G) (t : TE) (a0 : List Int) (a1 : Int) : Int :=
  lP (L_heldIntS_l1 g t a0 a1) fun o1 => lrp o1 fun y1 =>
  y1
theorem c_L_heldIntS {g : G} {t : TE} {a0 : List Int} {a1 : Int} {r : Int} (hg : g = G.real) (ht : t = TE.real) (h : L_heldIntS g t a0 a1 = r) : Fn Try.prog 26 [.c (.s 1 (t.r_I64 a0)), .c (.v (.int .i64 a1))] (.c (.r (.v (.int .i64 r)))) := by
 obtain ⟨X, hX⟩ := hide (.c (.r (.v (.int .i64 r))) : X); rw [← hX]; refine fn_of (rvs := rv26) (j := ir26) Try.func26 rfl (by kernel_rfl) (Nat.le_of_ble_eq_true rfl) (by kernel_rfl) prog_mixed ?_; intro g2 F hg2 hF; obtain rfl : g2 = g := hg2.unique.trans hg.symm; clear hg2; obtain ⟨wrap, lt, _, eq, _, _, _, _, _, _, _, _, _, add, _, _, _, _, _, _, _, llen, _, _, _, _, _, _, _, _, _, _, _, _, _, _, _, _, _, _, _, _, _, _⟩ := g2; obtain ⟨_, _, r_I64, _, _, _, _, _, _, _, _, _, _, _, _⟩ := t
 unfold L_heldIntS at h; try dsimp only at h
 cbv; obtain ⟨o1, ho1, h⟩ := of_lP h; try dsimp only at h
 try rw [hg] at ho1
 try rw [ht] at ho1
 refine ABL.mk { p : Nat × Int × Int // p.1 ≤ a0.length ∧ p.2.1 = ((p.1 : Nat) : Int) ∧ L_heldIntS_l1 G.real TE.real (List.drop p.1 a0) p.2.2 = o1 } (fun ⟨⟨k1, v2, v1⟩, _⟩ => ({ sl := [(0, .c (.r (.s 1 (r_I64 a0)))), (1, .c (.r (.v (.int .i64 v1)))), (5, .c (.r (.v (.int .i64 v2))))], tab := [] } : St)) 0 (fun p => a0.length - p.1.1) ⟨(0, 0, a1), Nat.zero_le _, rfl, ho1⟩ (Int) (fun y1 => ({ sl := [(1, .c (.r (.v (.int .i64 y1))))], tab := [] } : St)) 0 (fun y => o1 = LR.out y) ?_ ?_ ?_
 ·refine Wk.of [] rfl rfl ?_ ?_
  ·cbv; all_goals exact ⟨⟨_, rfl, rfl⟩, ⟨_, rfl, rfl⟩, ⟨_, rfl, rfl⟩, trivial⟩
  cbv; all_goals exact trivial
 ·rintro ⟨⟨k1, v2, v1⟩, hk1, hi1, h_1⟩ hq1; have hm1 := (hq1.1 0 _ _ rfl); try dsimp only at hk1 hi1 h_1
  clear hq1; cbv
  by_cases hc1_ : k1 < a0.length
  ·have hb1 : lt v2 (llen (r_I64 a0)) = true := ltL_true_I64 hg ht hi1 hc1_; have hs1 := stepL_I64 hg ht hi1 hc1_ hm1; obtain ⟨z1, hz1⟩ := some_of_lt hc1_; rw [drop_of_some hz1] at h_1; rw [L_heldIntS_l1] at h_1; try rw [← hg] at h_1
   try rw [← ht] at h_1
   try dsimp only at h_1
   rw [hb1]; cbv; refine AStep.mk (nn_L hi1) ?_; cbv; refine AGet.mk _ (r_getL_I64 hg ht hi1 hz1) ?_; cbv
   cases hb2 : (eq z1 v1)
   ·rw [br_false hb2] at h_1; cbv; subst h_1; try dsimp only [lr, lrL, lrp, lrpL] at h
    subst h; exact ARet.mk trivial hX.symm
   rw [br_true hb2] at h_1; cbv; try rw [hg] at h_1
   try rw [ht] at h_1
   refine ⟨⟨(k1 + 1, (wrap .i64 (add v2 1)), (wrap .i64 (add v1 1))), hc1_, hs1, h_1⟩, Wk.of [] rfl rfl ?_ ?_, meas_L hc1_⟩
   ·cbv; all_goals exact ⟨⟨_, rfl, rfl⟩, ⟨_, rfl, rfl⟩, ⟨_, rfl, rfl⟩, trivial⟩
   cbv; all_goals exact trivial
  have hb1 : lt v2 (llen (r_I64 a0)) = false := ltL_false_I64 hg ht hi1 hc1_; rw [List.drop_of_length_le (Nat.le_of_not_lt hc1_)] at h_1; rw [L_heldIntS_l1] at h_1; try rw [← hg] at h_1
  try rw [← ht] at h_1
  try dsimp only at h_1
  rw [hb1]; cbv; refine ⟨v1, Wk.of [] rfl rfl ?_ ?_, h_1.symm⟩
  ·cbv; all_goals exact ⟨⟨_, rfl, rfl⟩, trivial⟩
  cbv; all_goals exact trivial
 rintro y1 hy1; replace hy1 := hy1.symm; subst hy1; try dsimp only [lr, lrL, lrp, lrpL] at h
 cbv; subst h; exact ARet.mk trivial hX.symm
def ir29 : J := .seq (.reg none [⟨some 4, none, .mv (.k (V.i 0))⟩] [0, 1]) (.seq (.seq (.reg none [⟨some 5, none, .mv (.k (V.i 0))⟩] [0, 1, 5]) (.bl 0 (.seq (.seq (.reg none [⟨some 6, none, .mv (.t 5)⟩,⟨some 7, none, .mv (.t 0)⟩,⟨some 8, none, .len false (.t 7)⟩,⟨some 9, none, .bin .lss .i (.t 6) (.t 8)⟩] [0, 1, 5, 9]) (.cond (.t 9) (.skip) (.exit 0))) (.seq (.block 1 (.seq (.seq (.reg none [⟨some 12, none, .mv (.t 0)⟩,⟨some 13, none, .mv (.t 5)⟩,⟨some 14, none, .ia 2 (.t 12) (.t 13)⟩,⟨some 15, none, .fa 0 (.t 14)⟩,⟨some 16, none, .ld false 1 (.t 15)⟩,⟨some 17, none, .mv (.t 1)⟩,⟨some 18, none, .bin .neq .i (.t 16) (.t 17)⟩] [0, 1, 5, 18]) (.cond (.t 18) (.seq (.reg none [⟨some 4, none, .mv (.k (V.i (-1)))⟩] [4]) (.ret)) (.skip))) (.seq (.reg none [⟨some 19, none, .mv (.t 1)⟩,⟨some 20, none, .bin .add .i (.t 19) (.k (V.i 1))⟩,⟨some 1, none, .mv (.t 20)⟩] [0, 1, 5]) (.seq (.seq (.reg none [⟨some 21, none, .mv (.t 0)⟩,⟨some 22, none, .mv (.t 5)⟩,⟨some 23, none, .ia 2 (.t 21) (.t 22)⟩,⟨some 24, none, .fa 1 (.t 23)⟩,⟨some 25, none, .ld false 1 (.t 24)⟩,⟨some 26, none, .mv (.t 1)⟩,⟨some 27, none, .bin .neq .i (.t 25) (.t 26)⟩] [0, 1, 5, 27]) (.cond (.t 27) (.seq (.reg none [⟨some 4, none, .mv (.k (V.i (-1)))⟩] [4]) (.ret)) (.skip))) (.reg none [⟨some 28, none, .mv (.t 1)⟩,⟨some 29, none, .bin .add .i (.t 28) (.k (V.i 1))⟩,⟨some 1, none, .mv (.t 29)⟩] [0, 1, 5]))))) (.reg none [⟨some 10, none, .mv (.t 5)⟩,⟨some 11, none, .bin .add .i (.t 10) (.k (V.i 1))⟩,⟨some 5, none, .mv (.t 11)⟩] [0, 1, 5]))))) (.seq (.reg none [⟨some 30, none, .mv (.t 1)⟩,⟨some 4, none, .mv (.t 30)⟩] [4]) (.ret)))
def rv29 : List RV := [.t 4]
def L_heldTripS_l1 (g : G) (t : TE) : List Trip → Int → LR Int Int
  | [], v1 =>
    (LR.out v1)
  | z1 :: ls1, v1 =>
    br (g.eq z1.Leg v1)
    (
     br (g.eq z1.Day (g.wrap .i64 (g.add v1 1)))
     (
      L_heldTripS_l1 g t ls1 (g.wrap .i64 (g.add (g.wrap .i64 (g.add v1 1)) 1)))
     (
      (LR.ret (-1))))
    (
     (LR.ret (-1)))
def L_heldTripS (g : G) (t : TE) (a0 : List Trip) (a1 : Int) : Int :=
  lP (L_heldTripS_l1 g t a0 a1) fun o1 => lrp o1 fun y1 =>
  y1
theorem c_L_heldTripS {g : G} {t : TE} {a0 : List Trip} {a1 : Int} {r : Int} (hg : g = G.real) (ht : t = TE.real) (h : L_heldTripS g t a0 a1 = r) : Fn Try.prog 29 [.c (.s 2 (t.r_Trip a0)), .c (.v (.int .i64 a1))] (.c (.r (.v (.int .i64 r)))) := by
 obtain ⟨X, hX⟩ := hide (.c (.r (.v (.int .i64 r))) : X); rw [← hX]; refine fn_of (rvs := rv29) (j := ir29) Try.func29 rfl (by kernel_rfl) (Nat.le_of_ble_eq_true rfl) (by kernel_rfl) prog_mixed ?_; intro g2 F hg2 hF; obtain rfl : g2 = g := hg2.unique.trans hg.symm; clear hg2; obtain ⟨wrap, lt, _, eq, _, _, _, _, _, _, _, _, _, add, _, _, _, _, _, _, _, llen, _, _, _, _, _, _, _, _, _, _, _, _, _, _, _, _, _, _, _, _, _, _⟩ := g2; obtain ⟨_, _, _, _, _, _, r_Trip, _, _, _, _, _, _, _, _⟩ := t
 unfold L_heldTripS at h; try dsimp only at h
 cbv; obtain ⟨o1, ho1, h⟩ := of_lP h; try dsimp only at h
 try rw [hg] at ho1
 try rw [ht] at ho1
 refine ABL.mk { p : Nat × Int × Int // p.1 ≤ a0.length ∧ p.2.1 = ((p.1 : Nat) : Int) ∧ L_heldTripS_l1 G.real TE.real (List.drop p.1 a0) p.2.2 = o1 } (fun ⟨⟨k1, v2, v1⟩, _⟩ => ({ sl := [(0, .c (.r (.s 2 (r_Trip a0)))), (1, .c (.r (.v (.int .i64 v1)))), (5, .c (.r (.v (.int .i64 v2))))], tab := [] } : St)) 0 (fun p => a0.length - p.1.1) ⟨(0, 0, a1), Nat.zero_le _, rfl, ho1⟩ (Int) (fun y1 => ({ sl := [(1, .c (.r (.v (.int .i64 y1))))], tab := [] } : St)) 0 (fun y => o1 = LR.out y) ?_ ?_ ?_
 ·refine Wk.of [] rfl rfl ?_ ?_
  ·cbv; all_goals exact ⟨⟨_, rfl, rfl⟩, ⟨_, rfl, rfl⟩, ⟨_, rfl, rfl⟩, trivial⟩
  cbv; all_goals exact trivial
 ·rintro ⟨⟨k1, v2, v1⟩, hk1, hi1, h_1⟩ hq1; have hm1 := (hq1.1 0 _ _ rfl); try dsimp only at hk1 hi1 h_1
  clear hq1; cbv
  by_cases hc1_ : k1 < a0.length
  ·have hb1 : lt v2 (llen (r_Trip a0)) = true := ltL_true_Trip hg ht hi1 hc1_; have hs1 := stepL_Trip hg ht hi1 hc1_ hm1; obtain ⟨z1, hz1⟩ := some_of_lt hc1_; rw [drop_of_some hz1] at h_1; rw [L_heldTripS_l1] at h_1; obtain ⟨z1_Leg, z1_Day⟩ := z1; try rw [← hg] at h_1
   try rw [← ht] at h_1
   try dsimp only at h_1
   rw [hb1]; cbv; refine AStep.mk (nn_L hi1) ?_; cbv; refine AGet.mk _ (r_getL_Trip hg ht hi1 hz1) ?_; cbv
   cases hb2 : (eq z1_Leg v1)
   ·rw [br_false hb2] at h_1; cbv; subst h_1; try dsimp only [lr, lrL, lrp, lrpL] at h
    subst h; exact ARet.mk trivial hX.symm
   rw [br_true hb2] at h_1; cbv; refine AStep.mk (nn_L hi1) ?_; cbv; refine AGet.mk _ (r_getL_Trip hg ht hi1 hz1) ?_; cbv
   cases hb3 : (eq z1_Day (wrap .i64 (add v1 1)))
   ·rw [br_false hb3] at h_1; cbv; subst h_1; try dsimp only [lr, lrL, lrp, lrpL] at h
    subst h; exact ARet.mk trivial hX.symm
   rw [br_true hb3] at h_1; cbv; try rw [hg] at h_1
   try rw [ht] at h_1
   refine ⟨⟨(k1 + 1, (wrap .i64 (add v2 1)), (wrap .i64 (add (wrap .i64 (add v1 1)) 1))), hc1_, hs1, h_1⟩, Wk.of [] rfl rfl ?_ ?_, meas_L hc1_⟩
   ·cbv; all_goals exact ⟨⟨_, rfl, rfl⟩, ⟨_, rfl, rfl⟩, ⟨_, rfl, rfl⟩, trivial⟩
   cbv; all_goals exact trivial
  have hb1 : lt v2 (llen (r_Trip a0)) = false := ltL_false_Trip hg ht hi1 hc1_; rw [List.drop_of_length_le (Nat.le_of_not_lt hc1_)] at h_1; rw [L_heldTripS_l1] at h_1; try rw [← hg] at h_1
  try rw [← ht] at h_1
  try dsimp only at h_1
  rw [hb1]; cbv; refine ⟨v1, Wk.of [] rfl rfl ?_ ?_, h_1.symm⟩
  ·cbv; all_goals exact ⟨⟨_, rfl, rfl⟩, trivial⟩
  cbv; all_goals exact trivial
 rintro y1 hy1; replace hy1 := hy1.symm; subst hy1; try dsimp only [lr, lrL, lrp, lrpL] at h
 cbv; subst h; exact ARet.mk trivial hX.symm
end Go.Vs
