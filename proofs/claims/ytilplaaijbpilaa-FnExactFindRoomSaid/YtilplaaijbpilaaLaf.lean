/- Part of the proofs of this seat's laws: Laf. No condition. -/
import Derived.Test.YtilplaaijbpilaaTy
import Derived.Test.YtilplaaijbpilaaTIRall
import Derived.Test.YtilplaaijbpilaaLaa
import Derived.Test.YtilplaaijbpilaaLab
import Derived.Test.YtilplaaijbpilaaLac
set_option linter.unusedVariables false
set_option linter.unusedSimpArgs false
set_option linter.unusedSectionVars false
namespace Go.Vs
set_option maxRecDepth 100000
def ir58 : J := .seq (.reg none [⟨some 9, none, .box (.t 0)⟩,⟨some 18, none, .alloc [.r (.v (.int .i64 0)), .r (.v (.int .i64 0))]⟩] [1, 2, 3, 4, 5, 6, 7, 8, 9, 18]) (.seq (.seq (.reg none [⟨some 19, none, .mv (.k (V.i 0))⟩] [1, 2, 3, 4, 5, 6, 7, 8, 9, 18, 19]) (.bl 0 (.seq (.seq (.reg none [⟨some 22, none, .mv (.t 19)⟩,⟨some 23, none, .fa 0 (.t 9)⟩,⟨some 24, none, .ld false 1 (.t 23)⟩,⟨some 25, none, .len false (.t 24)⟩,⟨some 26, none, .bin .lss .i (.t 22) (.t 25)⟩] [1, 2, 3, 4, 5, 6, 7, 8, 9, 18, 19, 26]) (.cond (.t 26) (.skip) (.exit 0))) (.seq (.block 1 (.seq (.reg none [⟨some 29, none, .mv (.t 4)⟩,⟨some 30, none, .fa 0 (.t 9)⟩,⟨some 31, none, .ld false 1 (.t 30)⟩,⟨some 32, none, .mv (.t 19)⟩,⟨some 33, none, .ia 6 (.t 31) (.t 32)⟩,⟨some 34, none, .fa 0 (.t 33)⟩,⟨some 35, none, .ld false 1 (.t 34)⟩,⟨some 36, none, .call 47 true [(.t 29), (.t 35)]⟩,⟨some 20, none, .mv (.t 36)⟩] [1, 2, 3, 4, 5, 6, 7, 8, 9, 18, 19, 20]) (.seq (.seq (.reg (some [[], [0], [], [0, 1, 2], [0, 1, 2, 3], [0, 1, 2, 3, 4], [], [], [6, 7], [6, 7, 8], [0, 1, 2, 3, 4, 5, 6, 7, 8, 9], [0, 1, 2, 3, 4, 5, 6, 7, 8, 9, 10], [0, 1, 2, 3, 4, 5, 6, 7, 8, 9, 10, 11], [0, 1, 2, 3, 4, 5, 6, 7, 8, 9, 10, 11], [0, 1, 2, 3, 4, 5, 6, 7, 8, 9, 10, 11, 12, 13], [0, 1, 2, 3, 4, 5, 6, 7, 8, 9, 10, 11, 12, 13, 14], [0, 1, 2, 3, 4, 5, 6, 7, 8, 9, 10, 11, 12, 13, 14, 15], [0, 1, 2, 3, 4, 5, 6, 7, 8, 9, 10, 11, 12, 13, 14, 15, 16]]) [⟨some 37, none, .fa 0 (.t 9)⟩,⟨some 38, none, .ld false 1 (.t 37)⟩,⟨some 39, none, .mv (.t 19)⟩,⟨some 40, none, .ia 6 (.t 38) (.t 39)⟩,⟨some 41, none, .fa 1 (.t 40)⟩,⟨some 42, none, .ld false 1 (.t 41)⟩,⟨some 43, none, .mv (.t 4)⟩,⟨some 44, none, .mv (.t 7)⟩,⟨some 45, none, .ia 1 (.t 43) (.t 44)⟩,⟨some 46, none, .ld false 1 (.t 45)⟩,⟨some 47, none, .bin .neq .s (.t 42) (.t 46)⟩,⟨some 48, none, .mv (.t 47)⟩,⟨some 49, (some (48, false)), .mv (.t 5)⟩,⟨some 50, (some (48, false)), .mv (.t 20)⟩,⟨some 51, (some (48, false)), .ia 1 (.t 49) (.t 50)⟩,⟨some 52, (some (48, false)), .ld false 1 (.t 51)⟩,⟨some 53, (some (48, false)), .bin .lss .i (.t 52) (.k (V.i 0))⟩,⟨some 54, none, .pick (.t 48) (.k (V.b true)) (.t 53)⟩] [1, 2, 3, 4, 5, 6, 7, 8, 9, 18, 19, 20, 54]) (.cond (.t 54) (.exit 1) (.skip))) (.seq (.reg (some [[], [], [], [], [], [], [], [], [6, 7], [6, 7, 8], [], [], [10, 11], [5, 6, 7, 8, 9, 10, 11, 12], [], [1, 2, 3, 4, 5, 6, 7, 8, 9, 10, 11, 12, 13, 14], [0, 1, 2, 3, 4, 5, 6, 7, 8, 9, 10, 11, 12, 13, 14, 15], [], [0, 1, 2, 3, 4, 5, 6, 7, 8, 9, 10, 11, 12, 13, 14, 15, 16, 17]]) [⟨some 55, none, .mv (.t 19)⟩,⟨some 56, none, .ld true 3 (.t 9)⟩,⟨some 57, none, .mv (.t 1)⟩,⟨some 58, none, .mv (.t 2)⟩,⟨some 59, none, .mv (.t 19)⟩,⟨some 60, none, .ld true 3 (.t 9)⟩,⟨some 61, none, .mv (.t 5)⟩,⟨some 62, none, .mv (.t 20)⟩,⟨some 63, none, .ia 1 (.t 61) (.t 62)⟩,⟨some 64, none, .ld false 1 (.t 63)⟩,⟨some 65, none, .mv (.t 20)⟩,⟨some 66, none, .mv (.t 6)⟩,⟨some 67, none, .bin .eql .i (.t 65) (.t 66)⟩,⟨some 68, none, .call 88 true [(.t 60), (.t 64), (.t 67)]⟩,⟨some 69, none, .mv
 (.t 3)⟩,⟨some 70, none, .call 87 true [(.t 56), (.t 57), (.t 58), (.t 59), (.t 68), (.t 69)]⟩,⟨some 71, none, .bld [.r (.v (.int .i64 0)), .r (.v (.int .i64 0))] [(0, 1, (.t 55)), (1, 1, (.t 70))]⟩,⟨some 21, none, .alloc [.r (.v (.int .i64 0)), .r (.v (.int .i64 0))]⟩,⟨none, none, .st 2 (.t 21) (.t 71)⟩] [1, 2, 3, 4, 5, 6, 7, 8, 9, 18, 19, 21]) (.seq (.reg none [⟨some 72, none, .fa 1 (.t 21)⟩,⟨some 73, none, .ld false 1 (.t 72)⟩,⟨some 74, none, .bin .geq .i (.t 73) (.k (V.i 0))⟩,⟨some 75, none, .mv (.t 74)⟩,⟨some 76, (some (75, true)), .ld true 3 (.t 9)⟩,⟨some 77, (some (75, true)), .ld true 2 (.t 21)⟩,⟨some 78, (some (75, true)), .call 65 true [(.t 76), (.t 77)]⟩,⟨some 79, (some (75, true)), .mv (.t 8)⟩,⟨some 80, (some (75, true)), .bin .eql .i (.t 78) (.t 79)⟩,⟨some 81, none, .pick (.t 75) (.t 80) (.k (V.b false))⟩] [1, 2, 3, 4, 5, 6, 7, 8, 9, 18, 19, 21, 81]) (.cond (.t 81) (.seq (.reg none [⟨some 82, none, .ld true 2 (.t 21)⟩,⟨none, none, .st 2 (.t 18) (.t 82)⟩] [18]) (.ret)) (.skip))))))) (.reg none [⟨some 27, none, .mv (.t 19)⟩,⟨some 28, none, .bin .add .i (.t 27) (.k (V.i 1))⟩,⟨some 19, none, .mv (.t 28)⟩] [1, 2, 3, 4, 5, 6, 7, 8, 9, 18, 19]))))) (.seq (.reg none [⟨some 83, none, .bld [.r (.v (.int .i64 0)), .r (.v (.int .i64 0))] []⟩,⟨none, none, .st 2 (.t 18) (.t 83)⟩] [18]) (.ret)))
def rv58 : List RV := [.c 18 true 2]
open Go.Proofs Go.IntWalk
set_option linter.unusedVariables false
set_option maxHeartbeats 4000000
def S_l6Step_l1 (g : G) (t : TE) (a0 : Network) (a1 : List Booking) (a2 : List Trip) (a3 : Int) (a4 : List ByteArray) (a5 : List Int) (a6 : Int) (a7 : Int) (a8 : Int) : List Leg → Int → Option (LR Trip Unit)
  | [], v1 =>
    some (LR.out ())
  | z1 :: ls1, v1 =>
    lP (S_l4Index g t a4 z1.From) fun x1 =>
    gd (((0 : Int) ≤ a7)) <|
    gt a4 (g.nat a7) fun x2 =>
    br (g.seq z1.To x2)
    (
     gd (((0 : Int) ≤ x1)) <|
     gt a5 (g.nat x1) fun x3 =>
     br (g.lt x3 0)
     (
      S_l6Step_l1 g t a0 a1 a2 a3 a4 a5 a6 a7 a8 ls1 (g.wrap .i64 (g.add v1 1)))
     (
      gd (((0 : Int) ≤ x1)) <|
      lP (S_l4Ready g t a0 x3 (g.eq x1 a6)) fun x4 =>
      cl (S_l6Next g t a0 a1 a2 v1 x4 a3) fun x5 =>
      br (g.le 0 x5)
      (
       cl (S_l3Ends g t a0 (Trip.mk v1 x5)) fun x6 =>
       br (g.eq x6 a8)
       (
        some (LR.ret (Trip.mk v1 x5)))
       (
        S_l6Step_l1 g t a0 a1 a2 a3 a4 a5 a6 a7 a8 ls1 (g.wrap .i64 (g.add v1 1))))
      (
       S_l6Step_l1 g t a0 a1 a2 a3 a4 a5 a6 a7 a8 ls1 (g.wrap .i64 (g.add v1 1)))))
    (
     S_l6Step_l1 g t a0 a1 a2 a3 a4 a5 a6 a7 a8 ls1 (g.wrap .i64 (g.add v1 1)))
def S_l6Step (g : G) (t : TE) (a0 : Network) (a1 : List Booking) (a2 : List Trip) (a3 : Int) (a4 : List ByteArray) (a5 : List Int) (a6 : Int) (a7 : Int) (a8 : Int) : Option Trip :=
  cl (S_l6Step_l1 g t a0 a1 a2 a3 a4 a5 a6 a7 a8 a0.Legs 0) fun o1 => lr o1 fun y1 =>
  some (Trip.mk 0 0)
theorem c_S_l6Step {g : G} {t : TE} {a0 : Network} {a1 : List Booking} {a2 : List Trip} {a3 : Int} {a4 : List ByteArray} {a5 : List Int} {a6 : Int} {a7 : Int} {a8 : Int} {r : Trip} (hg : g = G.real) (ht : t = TE.real) (h : S_l6Step g t a0 a1 a2 a3 a4 a5 a6 a7 a8 = some r) : Fn Try.prog 58 [.g (Network.rs t a0), .c (.s 4 (t.r_Booking a1)), .c (.s 2 (t.r_Trip a2)), .c (.v (.int .i64 a3)), .c (.s 1 (t.r_S a4)), .c (.s 1 (t.r_I64 a5)), .c (.v (.int .i64 a6)), .c (.v (.int .i64 a7)), .c (.v (.int .i64 a8))] (.g (Trip.ds t r)) := by
 obtain ⟨X, hX⟩ := hide (.g (Trip.ds t r) : X); rw [← hX]; refine fn_of (rvs := rv58) (j := ir58) Try.func58 rfl (by kernel_rfl) (Nat.le_of_ble_eq_true rfl) (by kernel_rfl) prog_mixed ?_; intro g2 F hg2 hF; obtain rfl : g2 = g := hg2.unique.trans hg.symm; clear hg2; obtain ⟨wrap, lt, le, eq, _, _, _, _, _, _, _, _, _, add, _, _, _, seq, _, _, _, llen, _, _, _, _, _, _, _, _, _, _, _, _, _, _, _, _, _, _, _, _, _, _⟩ := g2; obtain ⟨r_Leg, _, r_I64, _, r_Booking, _, r_Trip, _, r_S, _, _, _, _, _, _⟩ := t
 obtain ⟨a0_Legs, a0_Off, a0_Change⟩ := a0; unfold S_l6Step at h; try dsimp only at h
 cbv; obtain ⟨o1, ho1, h⟩ := of_cl h; try dsimp only at h
 try rw [hg] at ho1
 try rw [ht] at ho1
 refine ABL.mk { p : Nat × Int // p.1 ≤ a0_Legs.length ∧ p.2 = ((p.1 : Nat) : Int) ∧ S_l6Step_l1 G.real TE.real (Network.mk a0_Legs a0_Off a0_Change) a1 a2 a3 a4 a5 a6 a7 a8 (List.drop p.1 a0_Legs) p.2 = some o1 } (fun ⟨⟨k1, v1⟩, _⟩ => ({ sl := [(1, .c (.r (.s 4 (r_Booking a1)))), (2, .c (.r (.s 2 (r_Trip a2)))), (3, .c (.r (.v (.int .i64 a3)))), (4, .c (.r (.s 1 (r_S a4)))), (5, .c (.r (.s 1 (r_I64 a5)))), (6, .c (.r (.v (.int .i64 a6)))), (7, .c (.r (.v (.int .i64 a7)))), (8, .c (.r (.v (.int .i64 a8)))), (9, .c (.p 0 3 0 0)), (18, .c (.p 1 2 0 0)), (19, .c (.r (.v (.int .i64 v1))))], tab := [(0, some (.foc 3 [] [.r (.s 6 (r_Leg a0_Legs)), .r (.s 1 (r_I64 a0_Off)), .r (.v (.int .i64 a0_Change))] [])), (1, some (.foc 2 [] [.r (.v (.int .i64 0)), .r (.v (.int .i64 0))] []))] } : St)) 2 (fun p => a0_Legs.length - p.1.1) ⟨(0, 0), Nat.zero_le _, rfl, ho1⟩ (Unit) (fun _ => ({ sl := [(18, .c (.p 0 2 0 0))], tab := [(0, some (.foc 2 [] [.r (.v (.int .i64 0)), .r (.v (.int .i64 0))] []))] } : St)) 1 (fun y => o1 = LR.out y) ?_ ?_ ?_
 ·refine Wk.of [(0, some 0), (1, some 16)] rfl rfl ?_ ?_
  ·cbv; all_goals exact ⟨⟨_, rfl, rfl⟩, ⟨_, rfl, rfl⟩, ⟨_, rfl, rfl⟩, ⟨_, rfl, rfl⟩, ⟨_, rfl, rfl⟩, ⟨_, rfl, rfl⟩, ⟨_, rfl, rfl⟩, ⟨_, rfl, rfl⟩, ⟨_, rfl, rfl⟩, ⟨_, rfl, rfl⟩, ⟨_, rfl, rfl⟩, trivial⟩
  cbv; all_goals exact ⟨⟨_, rfl, _, rfl, rfl, rfl, rfl, trivial⟩, ⟨_, rfl, _, rfl, rfl, rfl, trivial⟩, trivial⟩
 ·rintro ⟨⟨k1, v1⟩, hk1, hi1, h_1⟩ hq1; have hm1 := (hq1.2.2.1 0 _ _ _ _ 0 _ _ rfl rfl); try dsimp only at hk1 hi1 h_1
  clear hq1; cbv
  by_cases hc1_ : k1 < a0_Legs.length
  ·have hb1 : lt v1 (llen (r_Leg a0_Legs)) = true := ltL_true_Leg hg ht hi1 hc1_; have hs1 := stepL_Leg hg ht hi1 hc1_ hm1; obtain ⟨z1, hz1⟩ := some_of_lt hc1_; rw [drop_of_some hz1] at h_1; rw [S_l6Step_l1] at h_1; obtain ⟨z1_From, z1_To, z1_Start, z1_Takes, z1_Days, z1_Room⟩ := z1; try rw [← hg] at h_1
   try rw [← ht] at h_1
   try dsimp only at h_1
   rw [hb1]; cbv; refine AStep.mk (nn_L hi1) ?_; cbv; refine AGet.mk _ (r_getL_Leg hg ht hi1 hz1) ?_; cbv; obtain ⟨x1, hx1, h_1⟩ := of_lP h_1; try dsimp only at h_1
   refine ACall.mk _ _ rfl (hF _ _ _ (c_S_l4Index hg ht hx1)) (.inl rfl) (Nat.le_of_ble_eq_true rfl) ?_; cbv; refine AStep.mk (nn_L hi1) ?_; cbv; refine AGet.mk _ (r_getL_Leg hg ht hi1 hz1) ?_; cbv; obtain ⟨hc1, h_1⟩ := of_gd h_1; refine AStep.mk hc1 ?_; cbv; obtain ⟨x2, hx2, h_1⟩ := of_gt h_1; try dsimp only at h_1
   refine AGet.mk _ (r_get_S hg ht hx2) ?_; cbv
   cases hb2 : (seq z1_To x2)
   ·rw [br_false hb2] at h_1; cbv; iterate 5 try (rw [hb2]; cbv)
    try rw [hg] at h_1
    try rw [ht] at h_1
    refine ⟨⟨(k1 + 1, (wrap .i64 (add v1 1))), hc1_, hs1, h_1⟩, Wk.of [(0, some 0), (1, some 1)] rfl rfl ?_ ?_, meas_L hc1_⟩
    ·cbv; all_goals exact ⟨⟨_, rfl, rfl⟩, ⟨_, rfl, rfl⟩, ⟨_, rfl, rfl⟩, ⟨_, rfl, rfl⟩, ⟨_, rfl, rfl⟩, ⟨_, rfl, rfl⟩, ⟨_, rfl, rfl⟩, ⟨_, rfl, rfl⟩, ⟨_, rfl, rfl⟩, ⟨_, rfl, rfl⟩, ⟨_, rfl, rfl⟩, trivial⟩
    cbv; all_goals exact ⟨⟨_, rfl, _, rfl, rfl, rfl, rfl, trivial⟩, ⟨_, rfl, _, rfl, rfl, rfl, trivial⟩, trivial⟩
   rw [br_true hb2] at h_1; cbv; iterate 2 try (rw [hb2]; cbv)
   obtain ⟨hc2, h_1⟩ := of_gd h_1; refine AStep.mk hc2 ?_; cbv; obtain ⟨x3, hx3, h_1⟩ := of_gt h_1; try dsimp only at h_1
   refine AGet.mk _ (r_get_I64 hg ht hx3) ?_; cbv; iterate 3 try (rw [hb2]; cbv)
   cases hb3 : (lt x3 0)
   rotate_left
   ·rw [br_true hb3] at h_1; cbv; try rw [hg] at h_1
    try rw [ht] at h_1
    refine ⟨⟨(k1 + 1, (wrap .i64 (add v1 1))), hc1_, hs1, h_1⟩, Wk.of [(0, some 0), (1, some 1)] rfl rfl ?_ ?_, meas_L hc1_⟩
    ·cbv; all_goals exact ⟨⟨_, rfl, rfl⟩, ⟨_, rfl, rfl⟩, ⟨_, rfl, rfl⟩, ⟨_, rfl, rfl⟩, ⟨_, rfl, rfl⟩, ⟨_, rfl, rfl⟩, ⟨_, rfl, rfl⟩, ⟨_, rfl, rfl⟩, ⟨_, rfl, rfl⟩, ⟨_, rfl, rfl⟩, ⟨_, rfl, rfl⟩, trivial⟩
    cbv; all_goals exact ⟨⟨_, rfl, _, rfl, rfl, rfl, rfl, trivial⟩, ⟨_, rfl, _, rfl, rfl, rfl, trivial⟩, trivial⟩
   rw [br_false hb3] at h_1; cbv; obtain ⟨hc3, h_1⟩ := of_gd h_1; refine AStep.mk hc3 ?_; cbv; refine AGet.mk _ (r_get_I64 hg ht hx3) ?_; cbv; obtain ⟨x4, hx4, h_1⟩ := of_lP h_1; try dsimp only at h_1
   refine ACall.mk _ _ rfl (hF _ _ _ (c_S_l4Ready hg ht hx4)) (.inl rfl) (Nat.le_of_ble_eq_true rfl) ?_; cbv; obtain ⟨x5, hx5, h_1⟩ := of_cl h_1; try dsimp only at h_1
   refine ACall.mk _ _ rfl (hF _ _ _ (c_S_l6Next hg ht hx5)) (.inl rfl) (Nat.le_of_ble_eq_true rfl) ?_; cbv
   cases hb4 : (le 0 x5)
   ·rw [br_false hb4] at h_1; cbv; iterate 5 try (rw [hb4]; cbv)
    try rw [hg] at h_1
    try rw [ht] at h_1
    refine ⟨⟨(k1 + 1, (wrap .i64 (add v1 1))), hc1_, hs1, h_1⟩, Wk.of [(0, some 0), (1, some 1)] rfl rfl ?_ ?_, meas_L hc1_⟩
    ·cbv; all_goals exact ⟨⟨_, rfl, rfl⟩, ⟨_, rfl, rfl⟩, ⟨_, rfl, rfl⟩, ⟨_, rfl, rfl⟩, ⟨_, rfl, rfl⟩, ⟨_, rfl, rfl⟩, ⟨_, rfl, rfl⟩, ⟨_, rfl, rfl⟩, ⟨_, rfl, rfl⟩, ⟨_, rfl, rfl⟩, ⟨_, rfl, rfl⟩, trivial⟩
    cbv; all_goals exact ⟨⟨_, rfl, _, rfl, rfl, rfl, rfl, trivial⟩, ⟨_, rfl, _, rfl, rfl, rfl, trivial⟩, trivial⟩
   rw [br_true hb4] at h_1; cbv; iterate 2 try (rw [hb4]; cbv)
   obtain ⟨x6, hx6, h_1⟩ := of_cl h_1; try dsimp only at h_1
   refine ACall.mk _ _ rfl (hF _ _ _ (c_S_l3Ends hg ht hx6)) (.inl rfl) (Nat.le_of_ble_eq_true rfl) ?_; cbv; iterate 3 try (rw [hb4]; cbv)
   cases hb5 : (eq x6 a8)
   rotate_left
   ·rw [br_true hb5] at h_1; cbv; obtain rfl := Option.some.inj h_1; try dsimp only [lr, lrL, lrp, lrpL] at h
    obtain rfl := Option.some.inj h; exact ARet.mk trivial hX.symm
   rw [br_false hb5] at h_1; cbv; try rw [hg] at h_1
   try rw [ht] at h_1
   refine ⟨⟨(k1 + 1, (wrap .i64 (add v1 1))), hc1_, hs1, h_1⟩, Wk.of [(0, some 0), (1, some 1)] rfl rfl ?_ ?_, meas_L hc1_⟩
   ·cbv; all_goals exact ⟨⟨_, rfl, rfl⟩, ⟨_, rfl, rfl⟩, ⟨_, rfl, rfl⟩, ⟨_, rfl, rfl⟩, ⟨_, rfl, rfl⟩, ⟨_, rfl, rfl⟩, ⟨_, rfl, rfl⟩, ⟨_, rfl, rfl⟩, ⟨_, rfl, rfl⟩, ⟨_, rfl, rfl⟩, ⟨_, rfl, rfl⟩, trivial⟩
   cbv; all_goals exact ⟨⟨_, rfl, _, rfl, rfl, rfl, rfl, trivial⟩, ⟨_, rfl, _, rfl, rfl, rfl, trivial⟩, trivial⟩
  have hb1 : lt v1 (llen (r_Leg a0_Legs)) = false := ltL_false_Leg hg ht hi1 hc1_; rw [List.drop_of_length_le (Nat.le_of_not_lt hc1_)] at h_1; rw [S_l6Step_l1] at h_1; try rw [← hg] at h_1
  try rw [← ht] at h_1
  try dsimp only at h_1
  rw [hb1]; cbv; refine ⟨(), Wk.of [(0, some 1)] rfl rfl ?_ ?_, (Option.some.inj h_1).symm⟩
  ·cbv; all_goals exact ⟨⟨_, rfl, rfl⟩, trivial⟩
  cbv; all_goals exact ⟨⟨_, rfl, _, rfl, rfl, rfl, trivial⟩, trivial⟩
 rintro _ hy1; replace hy1 := hy1.symm; subst hy1; try dsimp only [lr, lrL, lrp, lrpL] at h
 cbv; obtain rfl := Option.some.inj h; exact ARet.mk trivial hX.symm
def ir27 : J := .seq (.reg none [⟨some 7, none, .box (.t 0)⟩,⟨some 14, none, .mv (.k (.c (.n 2)))⟩,⟨some 15, none, .mv (.k (V.b false))⟩] [1, 2, 3, 4, 5, 6, 7]) (.seq (.reg none [⟨some 26, none, .ld true 3 (.t 7)⟩,⟨some 27, none, .call 46 true [(.t 26)]⟩,⟨some 16, none, .mv (.t 27)⟩] [1, 2, 3, 4, 5, 6, 7, 16]) (.seq (.reg none [⟨some 28, none, .mv (.t 16)⟩,⟨some 29, none, .mv (.t 3)⟩,⟨some 30, none, .call 47 true [(.t 28), (.t 29)]⟩,⟨some 17, none, .mv (.t 30)⟩] [1, 2, 3, 4, 5, 6, 7, 16, 17]) (.seq (.reg none [⟨some 31, none, .mv (.t 16)⟩,⟨some 32, none, .mv (.t 4)⟩,⟨some 33, none, .call 47 true [(.t 31), (.t 32)]⟩,⟨some 18, none, .mv (.t 33)⟩] [1, 2, 3, 5, 6, 7, 16, 17, 18]) (.seq (.reg none [⟨some 34, none, .ld true 3 (.t 7)⟩,⟨some 35, none, .mv (.t 1)⟩,⟨some 36, none, .mv (.t 2)⟩,⟨some 37, none, .mv (.t 3)⟩,⟨some 38, none, .mv (.t 5)⟩,⟨some 39, none, .mv (.t 6)⟩,⟨some 40, none, .mv (.t 16)⟩,⟨some 41, none, .len false (.t 40)⟩,⟨some 42, none, .call 15 true [(.t 34), (.t 35), (.t 36), (.t 37), (.t 38), (.t 39), (.t 41)]⟩,⟨some 19, none, .mv (.t 42)⟩] [1, 2, 3, 5, 6, 7, 16, 17, 18, 19]) (.seq (.reg none [⟨some 43, none, .bsl 2 []⟩,⟨some 20, none, .mv (.t 43)⟩] [1, 2, 3, 5, 6, 7, 16, 17, 18, 19, 20]) (.seq (.seq (.reg none [⟨some 44, none, .mv (.t 18)⟩,⟨some 45, none, .bin .lss .i (.t 44) (.k (V.i 0))⟩,⟨some 46, none, .mv (.t 45)⟩,⟨some 47, (some (46, false)), .mv (.t 19)⟩,⟨some 48, (some (46, false)), .len false (.t 47)⟩,⟨some 49, (some (46, false)), .bin .eql .i (.t 48) (.k (V.i 0))⟩,⟨some 50, none, .pick (.t 46) (.k (V.b true)) (.t 49)⟩,⟨some 51, none, .mv (.t 50)⟩,⟨some 52, (some (51, false)), .mv (.t 19)⟩,⟨some 53, (some (51, false)), .mv (.t 18)⟩,⟨some 54, (some (51, false)), .ia 1 (.t 52) (.t 53)⟩,⟨some 55, (some (51, false)), .ld false 1 (.t 54)⟩,⟨some 56, (some (51, false)), .bin .lss .i (.t 55) (.k (V.i 0))⟩,⟨some 57, none, .pick (.t 51) (.k (V.b true)) (.t 56)⟩] [1, 2, 3, 5, 6, 7, 16, 17, 18, 19, 20, 57]) (.cond (.t 57) (.seq (.reg none [⟨some 58, none, .mv (.t 20)⟩,⟨some 14, none, .mv (.t 58)⟩,⟨some 15, none, .mv (.k (V.b false))⟩] [14, 15]) (.ret)) (.skip))) (.seq (.reg none [⟨some 59, none, .mv (.t 19)⟩,⟨some 60, none, .mv (.t 18)⟩,⟨some 61, none, .ia 1 (.t 59) (.t 60)⟩,⟨some 62, none, .ld false 1 (.t 61)⟩,⟨some 21, none, .mv (.t 62)⟩] [1, 2, 3, 5, 6, 7, 16, 17, 18, 20, 21]) (.seq (.reg none [⟨some 22, none, .mv (.k (V.i 0))⟩] [1, 2, 3, 5, 6, 7, 16, 17, 18, 20, 21, 22]) (.seq (.bl 0 (.seq (.seq (.reg none [⟨some 63, none, .ld true 3 (.t 7)⟩,⟨some 64, none, .mv (.t 1)⟩,⟨some 65, none, .mv (.t 2)⟩,⟨some 66, none, .mv (.t 3)⟩,⟨some 67, none, .mv (.t 5)⟩,⟨some 68, none, .mv (.t 6)⟩,⟨some 69, none, .mv (.t 22)⟩,⟨some 70, none, .call 15 true [(.t 63), (.t 64), (.t 65), (.t 66), (.t 67), (.t 68), (.t 69)]⟩,⟨some 71, none, .mv (.t 18)⟩,⟨some 72, none, .ia 1 (.t 70) (.t 71)⟩,⟨some 73, none, .ld false 1 (.t 72)⟩,⟨some 74, none, .mv (.t 21)⟩,⟨some 75, none, .bin .neq .i (.t 73) (.t 74)⟩] [1, 2, 3, 5, 6, 7, 16, 17, 18, 20, 21, 22, 75]) (.cond (.t
 75) (.skip) (.exit 0))) (.block 1 (.reg none [⟨some 76, none, .mv (.t 22)⟩,⟨some 77, none, .bin .add .i (.t 76) (.k (V.i 1))⟩,⟨some 22, none, .mv (.t 77)⟩] [1, 2, 3, 5, 6, 7, 16, 17, 18, 20, 21, 22])))) (.seq (.seq (.reg none [⟨some 78, none, .mv (.t 22)⟩,⟨some 23, none, .mv (.t 78)⟩] [1, 2, 3, 5, 6, 7, 16, 17, 18, 20, 21, 23]) (.bl 2 (.seq (.seq (.reg none [⟨some 79, none, .mv (.t 23)⟩,⟨some 80, none, .bin .gtr .i (.t 79) (.k (V.i 0))⟩] [1, 2, 3, 5, 6, 7, 16, 17, 18, 20, 21, 23, 80]) (.cond (.t 80) (.skip) (.exit 2))) (.seq (.block 3 (.seq (.reg none [⟨some 83, none, .ld true 3 (.t 7)⟩,⟨some 84, none, .mv (.t 1)⟩,⟨some 85, none, .mv (.t 2)⟩,⟨some 86, none, .mv (.t 3)⟩,⟨some 87, none, .mv (.t 5)⟩,⟨some 88, none, .mv (.t 6)⟩,⟨some 89, none, .mv (.t 23)⟩,⟨some 90, none, .bin .sub .i (.t 89) (.k (V.i 1))⟩,⟨some 91, none, .call 15 true [(.t 83), (.t 84), (.t 85), (.t 86), (.t 87), (.t 88), (.t 90)]⟩,⟨some 24, none, .mv (.t 91)⟩] [1, 2, 3, 5, 6, 7, 16, 17, 18, 20, 21, 23, 24]) (.seq (.reg none [⟨some 92, none, .ld true 3 (.t 7)⟩,⟨some 93, none, .mv (.t 1)⟩,⟨some 94, none, .mv (.t 2)⟩,⟨some 95, none, .mv (.t 6)⟩,⟨some 96, none, .mv (.t 16)⟩,⟨some 97, none, .mv (.t 24)⟩,⟨some 98, none, .mv (.t 17)⟩,⟨some 99, none, .mv (.t 18)⟩,⟨some 100, none, .mv (.t 21)⟩,⟨some 101, none, .call 58 true [(.t 92), (.t 93), (.t 94), (.t 95), (.t 96), (.t 97), (.t 98), (.t 99), (.t 100)]⟩,⟨some 25, none, .alloc [.r (.v (.int .i64 0)), .r (.v (.int .i64 0))]⟩,⟨none, none, .st 2 (.t 25) (.t 101)⟩] [1, 2, 3, 5, 6, 7, 16, 17, 20, 23, 24, 25]) (.seq (.reg none [⟨some 102, none, .ld true 2 (.t 25)⟩,⟨some 103, none, .bsl 2 [(.t 102)]⟩,⟨some 104, none, .mv (.t 20)⟩,⟨some 105, none, .app 2 16 false (.t 103) (.t 104)⟩,⟨some 20, none, .mv (.t 105)⟩] [1, 2, 3, 5, 6, 7, 16, 17, 20, 23, 24, 25]) (.seq (.reg none [⟨some 106, none, .mv (.t 16)⟩,⟨some 107, none, .fa 0 (.t 7)⟩,⟨some 108, none, .ld false 1 (.t 107)⟩,⟨some 109, none, .fa 0 (.t 25)⟩,⟨some 110, none, .ld false 1 (.t 109)⟩,⟨some 111, none, .ia 6 (.t 108) (.t 110)⟩,⟨some 112, none, .fa 0 (.t 111)⟩,⟨some 113, none, .ld false 1 (.t 112)⟩,⟨some 114, none, .call 47 true [(.t 106), (.t 113)]⟩,⟨some 18, none, .mv (.t 114)⟩] [1, 2, 3, 5, 6, 7, 16, 17, 18, 20, 23, 24]) (.reg none [⟨some 115, none, .mv (.t 24)⟩,⟨some 116, none, .mv (.t 18)⟩,⟨some 117, none, .ia 1 (.t 115) (.t 116)⟩,⟨some 118, none, .ld false 1 (.t 117)⟩,⟨some 21, none, .mv (.t 118)⟩] [1, 2, 3, 5, 6, 7, 16, 17, 18, 20, 21, 23])))))) (.reg none [⟨some 81, none, .mv (.t 23)⟩,⟨some 82, none, .bin .sub .i (.t 81) (.k (V.i 1))⟩,⟨some 23, none, .mv (.t 82)⟩] [1, 2, 3, 5, 6, 7, 16, 17, 18, 20, 21, 23]))))) (.seq (.reg none [⟨some 119, none, .mv (.t 20)⟩,⟨some 14, none, .mv (.t 119)⟩,⟨some 15, none, .mv (.k (V.b true))⟩] [14, 15]) (.ret))))))))))))
def rv27 : List RV := [.t 14, .t 15]
def S_FindRoom_l2 (g : G) (t : TE) (a0 : Network) (a1 : List Booking) (a2 : List Trip) (a3 : ByteArray) (a5 : Int) (a6 : Int) (x1 : List ByteArray) (x2 : Int) : Nat → Int → List Trip → Int → Int → Option (List Trip)
  | 0, _, _, _, _ => none
  | n2 + 1, v2, w1, v3, v4 =>
    br (g.lt 0 v4)
    (
     cl (S_BestFree g t a0 a1 a2 a3 a5 a6 (g.wrap .i64 (g.sub v4 1))) fun x8 =>
     cl (S_l6Step g t a0 a1 a2 a6 x1 x8 x2 v2 v3) fun x9 =>
     lP ([x9]) fun (l2 : List Trip) =>
     gd (((l2.length + w1.length) * 16 ≤ 70368744177664)) <|
     lP (l2 ++ w1) fun (l3 : List Trip) =>
     gd (((0 : Int) ≤ x9.Leg)) <|
     gt a0.Legs (g.nat x9.Leg) fun x10 =>
     lP (S_l4Index g t x1 x10.From) fun x11 =>
     gd (((0 : Int) ≤ x11 ∧ x11 < (((g.dlen (t.d_I64 x8)) : Nat) : Int))) <|
     gt x8 (g.nat x11) fun x12 =>
     S_FindRoom_l2 g t a0 a1 a2 a3 a5 a6 x1 x2 n2 x11 l3 x12 (g.wrap .i64 (g.sub v4 1)))
    (
     some w1)
def S_FindRoom_l1 (g : G) (t : TE) (a0 : Network) (a1 : List Booking) (a2 : List Trip) (a3 : ByteArray) (a5 : Int) (a6 : Int) (x3 : Int) (x5 : Int) : Nat → Int → Option Int
  | 0, _ => none
  | n1 + 1, v1 =>
    cl (S_BestFree g t a0 a1 a2 a3 a5 a6 v1) fun x6 =>
    gd (((0 : Int) ≤ x3 ∧ x3 < (((g.dlen (t.d_I64 x6)) : Nat) : Int))) <|
    gt x6 (g.nat x3) fun x7 =>
    br (g.eq x7 x5)
    (
     some v1)
    (
     S_FindRoom_l1 g t a0 a1 a2 a3 a5 a6 x3 x5 n1 (g.wrap .i64 (g.add v1 1)))
def S_FindRoom (g : G) (t : TE) (a0 : Network) (a1 : List Booking) (a2 : List Trip) (a3 : ByteArray) (a4 : ByteArray) (a5 : Int) (a6 : Int) : Option ((List Trip) × Bool) :=
  cl (S_PlacesOf g t a0) fun x1 =>
  lP (S_l4Index g t x1 a3) fun x2 =>
  lP (S_l4Index g t x1 a4) fun x3 =>
  cl (S_BestFree g t a0 a1 a2 a3 a5 a6 (g.int (g.dlen (t.d_S x1)))) fun x4 =>
  lP ([]) fun (l1 : List Trip) =>
  br (g.lt x3 0)
  (
   some ((l1, false)))
  (
   br (g.eq (g.int (g.dlen (t.d_I64 x4))) 0)
   (
    some ((l1, false)))
   (
    gd (((0 : Int) ≤ x3 ∧ x3 < (((g.dlen (t.d_I64 x4)) : Nat) : Int))) <|
    gt x4 (g.nat x3) fun x5 =>
    br (g.lt x5 0)
    (
     some ((l1, false)))
    (
     gd (((0 : Int) ≤ x3 ∧ x3 < (((g.dlen (t.d_I64 x4)) : Nat) : Int))) <|
     cl (S_FindRoom_l1 g t a0 a1 a2 a3 a5 a6 x3 x5 1000000000 0) fun y1 =>
     cl (S_FindRoom_l2 g t a0 a1 a2 a3 a5 a6 x1 x2 1000000000 x3 l1 x5 y1) fun y2 =>
     some ((y2, true)))))
theorem c_S_FindRoom {g : G} {t : TE} {a0 : Network} {a1 : List Booking} {a2 : List Trip} {a3 : ByteArray} {a4 : ByteArray} {a5 : Int} {a6 : Int} {r : (List Trip) × Bool} (hg : g = G.real) (ht : t = TE.real) (h : S_FindRoom g t a0 a1 a2 a3 a4 a5 a6 = some r) : Fn Try.prog 27 [.g (Network.rs t a0), .c (.s 4 (t.r_Booking a1)), .c (.s 2 (t.r_Trip a2)), .c (.v (.string a3)), .c (.v (.string a4)), .c (.v (.int .i64 a5)), .c (.v (.int .i64 a6))] (.u [.c (.o 2 (t.d_Trip r.1)), .c (.r (.v (.bool r.2)))]) := by
 obtain ⟨X, hX⟩ := hide (.u [.c (.o 2 (t.d_Trip r.1)), .c (.r (.v (.bool r.2)))] : X); rw [← hX]; refine fn_of (rvs := rv27) (j := ir27) Try.func27 rfl (by kernel_rfl) (Nat.le_of_ble_eq_true rfl) (by kernel_rfl) prog_mixed ?_; intro g2 F hg2 hF; obtain rfl : g2 = g := hg2.unique.trans hg.symm; clear hg2; obtain ⟨wrap, lt, _, eq, _, _, _, _, _, _, _, _, int, add, sub, _, _, _, _, _, _, _, _, _, dlen, _, _, _, rd, _, _, _, _, _, _, _, _, _, _, _, _, _, _, _⟩ := g2; obtain ⟨r_Leg, _, r_I64, d_I64, r_Booking, _, r_Trip, d_Trip, r_S, d_S, _, _, _, _, _⟩ := t
 obtain ⟨a0_Legs, a0_Off, a0_Change⟩ := a0; unfold S_FindRoom at h; try dsimp only at h
 cbv; obtain ⟨x1, hx1, h⟩ := of_cl h; try dsimp only at h
 refine ACall.mk _ _ rfl (hF _ _ _ (c_S_PlacesOf hg ht hx1)) (.inl rfl) (Nat.le_of_ble_eq_true rfl) ?_; cbv; refine AStep.mk (lend_S ht (dlen_S hg ht _)) ?_; cbv; obtain ⟨x2, hx2, h⟩ := of_lP h; try dsimp only at h
 refine ACall.mk _ _ (by rw [show rd (d_S x1) 0 (dlen (d_S x1)) = r_S x1 from rdw_S hg ht (dlen_S hg ht _)]; try rfl) (hF _ _ _ (c_S_l4Index hg ht hx2)) (.inr rfl) (Nat.le_of_ble_eq_true rfl) ?_
 cbv; refine AStep.mk (lend_S ht (dlen_S hg ht _)) ?_; cbv; obtain ⟨x3, hx3, h⟩ := of_lP h; try dsimp only at h
 refine ACall.mk _ _ (by rw [show rd (d_S x1) 0 (dlen (d_S x1)) = r_S x1 from rdw_S hg ht (dlen_S hg ht _)]; try rfl) (hF _ _ _ (c_S_l4Index hg ht hx3)) (.inr rfl) (Nat.le_of_ble_eq_true rfl) ?_
 cbv; obtain ⟨x4, hx4, h⟩ := of_cl h; try dsimp only at h
 refine ACall.mk _ _ rfl (hF _ _ _ (c_S_BestFree hg ht hx4)) (.inl rfl) (Nat.le_of_ble_eq_true rfl) ?_; cbv; obtain ⟨l1, hl1, h⟩ := of_lP h; try dsimp only at h
 refine ANew.mk (d_Trip l1) (dlen (d_Trip l1)) (by rw [← hl1]; exact lit_Trip hg ht []) (by rw [← hl1]; exact litn_Trip hg ht []) ?_; cbv
 cases hb1 : (lt x3 0)
 rotate_left
 ·rw [br_true hb1] at h; cbv; iterate 3 try (rw [hb1]; cbv)
  obtain rfl := Option.some.inj h; exact ARet.mk ⟨rfl, (dlen_Trip hg ht _)⟩ hX.symm
 rw [br_false hb1] at h; cbv; iterate 3 try (rw [hb1]; cbv)
 cases hb2 : (eq (int (dlen (d_I64 x4))) 0)
 rotate_left
 ·rw [br_true hb2] at h; cbv; iterate 5 try (rw [hb2]; cbv)
  obtain rfl := Option.some.inj h; exact ARet.mk ⟨rfl, (dlen_Trip hg ht _)⟩ hX.symm
 rw [br_false hb2] at h; cbv; iterate 2 try (rw [hb2]; cbv)
 obtain ⟨hc1, h⟩ := of_gd h; refine AStep.mk hc1 ?_; cbv; try (rw [hb2]; cbv)
 obtain ⟨x5, hx5, h⟩ := of_gt h; try dsimp only at h
 refine AGet.mk _ (d_get_I64 hg ht hx5) ?_; cbv; iterate 2 try (rw [hb2]; cbv)
 cases hb3 : (lt x5 0)
 rotate_left
 ·rw [br_true hb3] at h; cbv; obtain rfl := Option.some.inj h; exact ARet.mk ⟨rfl, (dlen_Trip hg ht _)⟩ hX.symm
 rw [br_false hb3] at h; cbv; obtain ⟨hc2, h⟩ := of_gd h; refine AStep.mk hc2 ?_; cbv; refine AGet.mk _ (d_get_I64 hg ht hx5) ?_; cbv; obtain ⟨o1, ho1, h⟩ := of_cl h; try dsimp only at h
 try rw [hg] at ho1
 try rw [ht] at ho1
 refine ABL.mk { p : Nat × Int // S_FindRoom_l1 G.real TE.real (Network.mk a0_Legs a0_Off a0_Change) a1 a2 a3 a5 a6 x3 x5 p.1 p.2 = some o1 } (fun ⟨⟨n1, v1⟩, _⟩ => ({ sl := [(1, .c (.r (.s 4 (r_Booking a1)))), (2, .c (.r (.s 2 (r_Trip a2)))), (3, .c (.r (.v (.string a3)))), (5, .c (.r (.v (.int .i64 a5)))), (6, .c (.r (.v (.int .i64 a6)))), (7, .c (.p 0 3 0 0)), (16, .c (.f 1 1 0 (dlen (d_S x1)))), (17, .c (.r (.v (.int .i64 x2)))), (18, .c (.r (.v (.int .i64 x3)))), (20, .c (.f 2 2 0 (dlen (d_Trip l1)))), (21, .c (.r (.v (.int .i64 x5)))), (22, .c (.r (.v (.int .i64 v1))))], tab := [(0, some (.foc 3 [] [.r (.s 6 (r_Leg a0_Legs)), .r (.s 1 (r_I64 a0_Off)), .r (.v (.int .i64 a0_Change))] [])), (1, some (.arr 1 (d_S x1))), (2, some (.arr 2 (d_Trip l1)))] } : St)) 3 (fun p => p.1.1) ⟨(1000000000, 0), ho1⟩ (Int) (fun y1 => ({ sl := [(1, .c (.r (.s 4 (r_Booking a1)))), (2, .c (.r (.s 2 (r_Trip a2)))), (3, .c (.r (.v (.string a3)))), (5, .c (.r (.v (.int .i64 a5)))), (6, .c (.r (.v (.int .i64 a6)))), (7, .c (.p 0 3 0 0)), (16, .c (.f 1 1 0 (dlen (d_S x1)))), (17, .c (.r (.v (.int .i64 x2)))), (18, .c (.r (.v (.int .i64 x3)))), (20, .c (.f 2 2 0 (dlen (d_Trip l1)))), (21, .c (.r (.v (.int .i64 x5)))), (22, .c (.r (.v (.int .i64 y1))))], tab := [(0, some (.foc 3 [] [.r (.s 6 (r_Leg a0_Legs)), .r (.s 1 (r_I64 a0_Off)), .r (.v (.int .i64 a0_Change))] [])), (1, some (.arr 1 (d_S x1))), (2, some (.arr 2 (d_Trip l1)))] } : St)) 3 (fun y => o1 = y) ?_ ?_ ?_
 ·refine Wk.of [(0, some 0), (1, some 64), (2, some 384)] rfl rfl ?_ ?_
  ·cbv; all_goals exact ⟨⟨_, rfl, rfl⟩, ⟨_, rfl, rfl⟩, ⟨_, rfl, rfl⟩, ⟨_, rfl, rfl⟩, ⟨_, rfl, rfl⟩, ⟨_, rfl, rfl⟩, ⟨_, rfl, rfl⟩, ⟨_, rfl, rfl⟩, ⟨_, rfl, rfl⟩, ⟨_, rfl, rfl⟩, ⟨_, rfl, rfl⟩, ⟨_, rfl, rfl⟩, trivial⟩
  cbv; all_goals exact ⟨⟨_, rfl, _, rfl, rfl, rfl, rfl, trivial⟩, ⟨_, rfl, rfl⟩, ⟨_, rfl, rfl⟩, trivial⟩
 ·rintro ⟨⟨n1, v1⟩, h_1⟩ hq1; try dsimp only at h_1
  clear hq1; rcases n1 with _ | n1
  ·rw [S_FindRoom_l1] at h_1; cases h_1
  rw [S_FindRoom_l1] at h_1; try rw [← hg] at h_1
  try rw [← ht] at h_1
  try dsimp only at h_1
  cbv; obtain ⟨x6, hx6, h_1⟩ := of_cl h_1; try dsimp only at h_1
  refine ACall.mk _ _ rfl (hF _ _ _ (c_S_BestFree hg ht hx6)) (.inl rfl) (Nat.le_of_ble_eq_true rfl) ?_; cbv; obtain ⟨hc3, h_1⟩ := of_gd h_1; refine AStep.mk hc3 ?_; cbv; obtain ⟨x7, hx7, h_1⟩ := of_gt h_1; try dsimp only at h_1
  refine AGet.mk _ (d_get_I64 hg ht hx7) ?_; cbv
  cases hb4 : (eq x7 x5)
  rotate_left
  ·rw [br_true hb4] at h_1; cbv; refine ⟨v1, Wk.of [(0, some 0), (1, some 1), (2, some 2)] rfl rfl ?_ ?_, (Option.some.inj h_1).symm⟩
   ·cbv; all_goals exact ⟨⟨_, rfl, rfl⟩, ⟨_, rfl, rfl⟩, ⟨_, rfl, rfl⟩, ⟨_, rfl, rfl⟩, ⟨_, rfl, rfl⟩, ⟨_, rfl, rfl⟩, ⟨_, rfl, rfl⟩, ⟨_, rfl, rfl⟩, ⟨_, rfl, rfl⟩, ⟨_, rfl, rfl⟩, ⟨_, rfl, rfl⟩, ⟨_, rfl, rfl⟩, trivial⟩
   cbv; all_goals exact ⟨⟨_, rfl, _, rfl, rfl, rfl, rfl, trivial⟩, ⟨_, rfl, rfl⟩, ⟨_, rfl, rfl⟩, trivial⟩
  rw [br_false hb4] at h_1; cbv; try rw [hg] at h_1
  try rw [ht] at h_1
  refine ⟨⟨(n1, (wrap .i64 (add v1 1))), h_1⟩, Wk.of [(0, some 0), (1, some 1), (2, some 2)] rfl rfl ?_ ?_, Nat.lt_succ_self _⟩
  ·cbv; all_goals exact ⟨⟨_, rfl, rfl⟩, ⟨_, rfl, rfl⟩, ⟨_, rfl, rfl⟩, ⟨_, rfl, rfl⟩, ⟨_, rfl, rfl⟩, ⟨_, rfl, rfl⟩, ⟨_, rfl, rfl⟩, ⟨_, rfl, rfl⟩, ⟨_, rfl, rfl⟩, ⟨_, rfl, rfl⟩, ⟨_, rfl, rfl⟩, ⟨_, rfl, rfl⟩, trivial⟩
  cbv; all_goals exact ⟨⟨_, rfl, _, rfl, rfl, rfl, rfl, trivial⟩, ⟨_, rfl, rfl⟩, ⟨_, rfl, rfl⟩, trivial⟩
 rintro y1 hy1; replace hy1 := hy1.symm; subst hy1; try dsimp only [lr, lrL, lrp, lrpL] at h
 cbv; obtain ⟨o2, ho2, h⟩ := of_cl h; try dsimp only at h
 try rw [hg] at ho2
 try rw [ht] at ho2
 refine ABL.mk { p : Nat × Int × (List Trip) × Int × Int // S_FindRoom_l2 G.real TE.real (Network.mk a0_Legs a0_Off a0_Change) a1 a2 a3 a5 a6 x1 x2 p.1 p.2.1 p.2.2.1 p.2.2.2.1 p.2.2.2.2 = some o2 } (fun ⟨⟨n2, v2, w1, v3, v4⟩, _⟩ => ({ sl := [(1, .c (.r (.s 4 (r_Booking a1)))), (2, .c (.r (.s 2 (r_Trip a2)))), (3, .c (.r (.v (.string a3)))), (5, .c (.r (.v (.int .i64 a5)))), (6, .c (.r (.v (.int .i64 a6)))), (7, .c (.p 0 3 0 0)), (16, .c (.f 1 1 0 (dlen (d_S x1)))), (17, .c (.r (.v (.int .i64 x2)))), (18, .c (.r (.v (.int .i64 v2)))), (20, .c (.f 2 2 0 (dlen (d_Trip w1)))), (21, .c (.r (.v (.int .i64 v3)))), (23, .c (.r (.v (.int .i64 v4))))], tab := [(0, some (.foc 3 [] [.r (.s 6 (r_Leg a0_Legs)), .r (.s 1 (r_I64 a0_Off)), .r (.v (.int .i64 a0_Change))] [])), (1, some (.arr 1 (d_S x1))), (2, some (.arr 2 (d_Trip w1)))] } : St)) 3 (fun p => p.1.1) ⟨(1000000000, x3, l1, x5, y1), ho2⟩ (List Trip) (fun y2 => ({ sl := [(20, .c (.f 0 2 0 (dlen (d_Trip y2))))], tab := [(0, some (.arr 2 (d_Trip y2)))] } : St)) 1 (fun y => o2 = y) ?_ ?_ ?_
 ·refine Wk.of [(0, some 0), (1, some 1), (2, some 2)] rfl rfl ?_ ?_
  ·cbv; all_goals exact ⟨⟨_, rfl, rfl⟩, ⟨_, rfl, rfl⟩, ⟨_, rfl, rfl⟩, ⟨_, rfl, rfl⟩, ⟨_, rfl, rfl⟩, ⟨_, rfl, rfl⟩, ⟨_, rfl, rfl⟩, ⟨_, rfl, rfl⟩, ⟨_, rfl, rfl⟩, ⟨_, rfl, rfl⟩, ⟨_, rfl, rfl⟩, ⟨_, rfl, rfl⟩, trivial⟩
  cbv; all_goals exact ⟨⟨_, rfl, _, rfl, rfl, rfl, rfl, trivial⟩, ⟨_, rfl, rfl⟩, ⟨_, rfl, rfl⟩, trivial⟩
 ·rintro ⟨⟨n2, v2, w1, v3, v4⟩, h_2⟩ hq2; try dsimp only at h_2
  clear hq2; rcases n2 with _ | n2
  ·rw [S_FindRoom_l2] at h_2; cases h_2
  rw [S_FindRoom_l2] at h_2; try rw [← hg] at h_2
  try rw [← ht] at h_2
  try dsimp only at h_2
  cbv
  cases hb5 : (lt 0 v4)
  ·rw [br_false hb5] at h_2; cbv; refine ⟨w1, Wk.of [(0, some 2)] rfl rfl ?_ ?_, (Option.some.inj h_2).symm⟩
   ·cbv; all_goals exact ⟨⟨_, rfl, rfl⟩, trivial⟩
   cbv; all_goals exact ⟨⟨_, rfl, rfl⟩, trivial⟩
  rw [br_true hb5] at h_2; cbv; obtain ⟨x8, hx8, h_2⟩ := of_cl h_2; try dsimp only at h_2
  refine ACall.mk _ _ rfl (hF _ _ _ (c_S_BestFree hg ht hx8)) (.inl rfl) (Nat.le_of_ble_eq_true rfl) ?_; cbv; refine AStep.mk ⟨(lend_S ht (dlen_S hg ht _)), (lend_I64 ht (dlen_I64 hg ht _))⟩ ?_; cbv; obtain ⟨x9, hx9, h_2⟩ := of_cl h_2; obtain ⟨x9_Leg, x9_Day⟩ := x9; try dsimp only at h_2
  refine ACall.mk _ _ (by rw [show rd (d_S x1) 0 (dlen (d_S x1)) = r_S x1 from rdw_S hg ht (dlen_S hg ht _), show rd (d_I64 x8) 0 (dlen (d_I64 x8)) = r_I64 x8 from rdw_I64 hg ht (dlen_I64 hg ht _)]; try rfl) (hF _ _ _ (c_S_l6Step hg ht hx9)) (.inr (by simp only [Go.Vs.X.fresh, Go.Vs.X.freshs, freshD, freshDs, Bool.and_self, Trip.ds])) (Nat.le_of_ble_eq_true rfl) ?_
  cbv; obtain ⟨l2, hl2, h_2⟩ := of_lP h_2; try dsimp only at h_2
  refine ANew.mk (d_Trip l2) (dlen (d_Trip l2)) (by rw [← hl2]; exact lit_Trip hg ht [(Trip.mk x9_Leg x9_Day)]) (by rw [← hl2]; exact litn_Trip hg ht [(Trip.mk x9_Leg x9_Day)]) ?_; cbv; obtain ⟨hc6, h_2⟩ := of_gd h_2; refine AStep.mk ⟨(subw_ok_Trip hg ht (dlen_Trip hg ht _)), (app_ok_Trip hg ht (dlen_Trip hg ht _) (dsubw_Trip hg ht (dlen_Trip hg ht _)) hc6)⟩ ?_; cbv; obtain ⟨l3, hl3, h_2⟩ := of_lP h_2; try dsimp only at h_2
  refine ANew.mk (d_Trip l3) (dlen (d_Trip l3)) (by rw [← hl3]; exact app_Trip hg ht (dlen_Trip hg ht _) (dsubw_Trip hg ht (dlen_Trip hg ht _))) (by rw [← hl3]; exact appl_Trip hg ht (dlen_Trip hg ht _) (dsubw_Trip hg ht (dlen_Trip hg ht _))) ?_; cbv; obtain ⟨hc4, h_2⟩ := of_gd h_2; refine AStep.mk hc4 ?_; cbv; obtain ⟨x10, hx10, h_2⟩ := of_gt h_2; obtain ⟨x10_From, x10_To, x10_Start, x10_Takes, x10_Days, x10_Room⟩ := x10; try dsimp only at h_2
  refine AGet.mk _ (r_get_Leg hg ht hx10) ?_; cbv; refine AStep.mk (lend_S ht (dlen_S hg ht _)) ?_; cbv; obtain ⟨x11, hx11, h_2⟩ := of_lP h_2; try dsimp only at h_2
  refine ACall.mk _ _ (by rw [show rd (d_S x1) 0 (dlen (d_S x1)) = r_S x1 from rdw_S hg ht (dlen_S hg ht _)]; try rfl) (hF _ _ _ (c_S_l4Index hg ht hx11)) (.inr rfl) (Nat.le_of_ble_eq_true rfl) ?_
  cbv; obtain ⟨hc5, h_2⟩ := of_gd h_2; refine AStep.mk hc5 ?_; cbv; obtain ⟨x12, hx12, h_2⟩ := of_gt h_2; try dsimp only at h_2
  refine AGet.mk _ (d_get_I64 hg ht hx12) ?_; cbv; try rw [hg] at h_2
  try rw [ht] at h_2
  refine ⟨⟨(n2, x11, l3, x12, (wrap .i64 (sub v4 1))), h_2⟩, Wk.of [(0, some 0), (1, some 1), (2, some 435)] rfl rfl ?_ ?_, Nat.lt_succ_self _⟩
  ·cbv; all_goals exact ⟨⟨_, rfl, rfl⟩, ⟨_, rfl, rfl⟩, ⟨_, rfl, rfl⟩, ⟨_, rfl, rfl⟩, ⟨_, rfl, rfl⟩, ⟨_, rfl, rfl⟩, ⟨_, rfl, rfl⟩, ⟨_, rfl, rfl⟩, ⟨_, rfl, rfl⟩, ⟨_, rfl, rfl⟩, ⟨_, rfl, rfl⟩, ⟨_, rfl, rfl⟩, trivial⟩
  cbv; all_goals exact ⟨⟨_, rfl, _, rfl, rfl, rfl, rfl, trivial⟩, ⟨_, rfl, rfl⟩, ⟨_, rfl, rfl⟩, trivial⟩
 rintro y2 hy2; replace hy2 := hy2.symm; subst hy2; try dsimp only [lr, lrL, lrp, lrpL] at h
 cbv; obtain rfl := Option.some.inj h; exact ARet.mk ⟨rfl, (dlen_Trip hg ht _)⟩ hX.symm
def ir96 : J := .seq (.reg none [⟨some 7, none, .box (.t 0)⟩,⟨some 14, none, .alloc [.r (.v (.int .i64 0)), .r (.v (.int .i64 0))]⟩,⟨some 15, none, .mv (.k (V.b false))⟩] [1, 2, 3, 4, 5, 6, 7, 14]) (.seq (.seq (.reg none [⟨some 21, none, .fa 0 (.t 7)⟩,⟨some 22, none, .ld false 1 (.t 21)⟩,⟨some 23, none, .len false (.t 22)⟩,⟨some 24, none, .mv (.k (V.i 0))⟩] [1, 2, 3, 4, 5, 6, 7, 14, 22, 23, 24]) (.bl 0 (.seq (.reg none [⟨some 25, none, .bin .lss .i (.t 24) (.t 23)⟩] [1, 2, 3, 4, 5, 6, 7, 14, 22, 23, 24, 25]) (.seq (.cond (.t 25) (.skip) (.exit 0)) (.seq (.block 1 (.seq (.reg none [⟨some 26, none, .mv (.t 24)⟩,⟨some 27, none, .ia 6 (.t 22) (.t 24)⟩,⟨some 28, none, .ld true 6 (.t 27)⟩,⟨some 17, none, .alloc [.r (.v (.string .empty)), .r (.v (.string .empty)), .r (.v (.int .i64 0)), .r (.v (.int .i64 0)), .r (.v (.int .i64 0)), .r (.v (.int .i64 0))]⟩,⟨some 16, none, .mv (.t 26)⟩,⟨none, none, .st 6 (.t 17) (.t 28)⟩] [1, 2, 3, 4, 5, 6, 7, 14, 16, 17, 22, 23, 24]) (.seq (.reg none [⟨some 29, none, .mv (.t 2)⟩,⟨some 30, none, .fa 0 (.t 17)⟩,⟨some 31, none, .ld false 1 (.t 30)⟩,⟨some 32, none, .call 71 true [(.t 29), (.t 31)]⟩,⟨some 18, none, .mv (.t 32)⟩] [1, 2, 3, 4, 5, 6, 7, 14, 16, 17, 18, 22, 23, 24]) (.seq (.seq (.reg (some [[], [0], [], [], [2, 3], [2, 3, 4], [0, 1, 2, 3, 4, 5], [0, 1, 2, 3, 4, 5, 6], [0, 1, 2, 3, 4, 5, 6, 7], [0, 1, 2, 3, 4, 5, 6, 7], [0, 1, 2, 3, 4, 5, 6, 7, 8, 9], [0, 1, 2, 3, 4, 5, 6, 7, 8, 9, 10], [0, 1, 2, 3, 4, 5, 6, 7, 8, 9, 10, 11], [0, 1, 2, 3, 4, 5, 6, 7, 8, 9, 10, 11, 12]]) [⟨some 33, none, .fa 1 (.t 17)⟩,⟨some 34, none, .ld false 1 (.t 33)⟩,⟨some 35, none, .mv (.t 2)⟩,⟨some 36, none, .mv (.t 5)⟩,⟨some 37, none, .ia 1 (.t 35) (.t 36)⟩,⟨some 38, none, .ld false 1 (.t 37)⟩,⟨some 39, none, .bin .neq .s (.t 34) (.t 38)⟩,⟨some 40, none, .mv (.t 39)⟩,⟨some 41, (some (40, false)), .mv (.t 3)⟩,⟨some 42, (some (40, false)), .mv (.t 18)⟩,⟨some 43, (some (40, false)), .ia 1 (.t 41) (.t 42)⟩,⟨some 44, (some (40, false)), .ld false 1 (.t 43)⟩,⟨some 45, (some (40, false)), .bin .lss .i (.t 44) (.k (V.i 0))⟩,⟨some 46, none, .pick (.t 40) (.k (V.b true)) (.t 45)⟩] [1, 2, 3, 4, 5, 6, 7, 14, 16, 17, 18, 22, 23, 24, 46]) (.cond (.t 46) (.exit 1) (.skip))) (.seq (.reg (some [[], [], [], [], [], [3, 4], [3, 4, 5], [], [7], [], [7, 8, 9], [2, 3, 4, 5, 6, 7, 8, 9, 10], [0, 1, 2, 3, 4, 5, 6, 7, 8, 9, 10, 11], [0, 1, 2, 3, 4, 5, 6, 7, 8, 9, 10, 11, 12], [0, 1, 2, 3, 4, 5, 6, 7, 8, 9, 10, 11, 12, 13], [0, 1, 2, 3, 4, 5, 6, 7, 8, 9, 10, 11, 12, 13], [], [0, 1, 2, 3, 4, 5, 6, 7, 8, 9, 10, 11, 12, 13, 14, 16], [0, 1, 2, 3, 4, 5, 6, 7, 8, 9, 10, 11, 12, 13, 14, 15, 16, 17]]) [⟨some 48, none, .mv (.t 1)⟩,⟨some 49, none, .mv (.t 16)⟩,⟨some 50, none, .ld true 3 (.t 7)⟩,⟨some 51, none, .mv (.t 3)⟩,⟨some 52, none, .mv (.t 18)⟩,⟨some 53, none, .ia 1 (.t 51) (.t 52)⟩,⟨some 54, none, .ld false 1 (.t 53)⟩,⟨some 55, none, .fa 0 (.t 17)⟩,⟨some 56, none, .ld false 1 (.t 55)⟩,⟨some 57, none, .mv (.t 4)⟩,⟨some 58, none, .bin .eql .s (.t 56) (.t 57)⟩,⟨some 59, none,
 .call 91 true [(.t 50), (.t 54), (.t 58)]⟩,⟨some 60, none, .callv true (.t 48) [(.t 49), (.t 59)]⟩,⟨some 47, none, .mv (.t 60)⟩,⟨some 61, none, .ext 0 (.t 47)⟩,⟨some 62, none, .ext 1 (.t 47)⟩,⟨some 19, none, .alloc [.r (.v (.int .i64 0)), .r (.v (.int .i64 0))]⟩,⟨none, none, .st 2 (.t 19) (.t 61)⟩,⟨some 20, none, .mv (.t 62)⟩] [1, 2, 3, 4, 5, 6, 7, 14, 19, 20, 22, 23, 24]) (.seq (.reg none [⟨some 63, none, .mv (.t 20)⟩,⟨some 64, none, .mv (.t 63)⟩,⟨some 65, (some (64, true)), .ld true 3 (.t 7)⟩,⟨some 66, (some (64, true)), .ld true 2 (.t 19)⟩,⟨some 67, (some (64, true)), .call 75 true [(.t 65), (.t 66)]⟩,⟨some 68, (some (64, true)), .mv (.t 6)⟩,⟨some 69, (some (64, true)), .bin .eql .i (.t 67) (.t 68)⟩,⟨some 70, none, .pick (.t 64) (.t 69) (.k (V.b false))⟩] [1, 2, 3, 4, 5, 6, 7, 14, 19, 22, 23, 24, 70]) (.cond (.t 70) (.seq (.reg none [⟨some 71, none, .ld true 2 (.t 19)⟩,⟨none, none, .st 2 (.t 14) (.t 71)⟩,⟨some 15, none, .mv (.k (V.b true))⟩] [14, 15]) (.ret)) (.skip)))))))) (.reg none [⟨some 72, none, .bin .add .i (.t 24) (.k (V.i 1))⟩,⟨some 24, none, .mv (.t 72)⟩] [1, 2, 3, 4, 5, 6, 7, 14, 22, 23, 24])))))) (.seq (.reg none [⟨some 73, none, .bld [.r (.v (.int .i64 0)), .r (.v (.int .i64 0))] []⟩,⟨none, none, .st 2 (.t 14) (.t 73)⟩,⟨some 15, none, .mv (.k (V.b false))⟩] [14, 15]) (.ret)))
def rv96 : List RV := [.c 14 true 2, .t 15]
def I_lastLeg_l1 (g : G) (t : TE) (a0 : Network) (a1 : Fd) (a2 : List ByteArray) (a3 : List Int) (a4 : ByteArray) (a5 : Int) (a6 : Int) : List Leg → Int → Option (LR (Trip × Bool) Unit)
  | [], v1 =>
    some (LR.out ())
  | z1 :: ls1, v1 =>
    lP (I_placeAt g t a2 z1.From) fun x1 =>
    gd (((0 : Int) ≤ a5)) <|
    gt a2 (g.nat a5) fun x2 =>
    br (g.seq z1.To x2)
    (
     gd (((0 : Int) ≤ x1)) <|
     gt a3 (g.nat x1) fun x3 =>
     br (g.lt x3 0)
     (
      I_lastLeg_l1 g t a0 a1 a2 a3 a4 a5 a6 ls1 (g.wrap .i64 (g.add v1 1)))
     (
      gd (((0 : Int) ≤ x1)) <|
      lP (I_readyAt g t a0 x3 (g.seq z1.From a4)) fun x4 =>
      cl (callFd g t a1 v1 x4) fun x5 =>
      br x5.2
      (
       cl (I_ends g t a0 (Trip.mk x5.1.Leg x5.1.Day)) fun x6 =>
       br (g.eq x6 a6)
       (
        some (LR.ret (((Trip.mk x5.1.Leg x5.1.Day), true))))
       (
        I_lastLeg_l1 g t a0 a1 a2 a3 a4 a5 a6 ls1 (g.wrap .i64 (g.add v1 1))))
      (
       I_lastLeg_l1 g t a0 a1 a2 a3 a4 a5 a6 ls1 (g.wrap .i64 (g.add v1 1)))))
    (
     I_lastLeg_l1 g t a0 a1 a2 a3 a4 a5 a6 ls1 (g.wrap .i64 (g.add v1 1)))
def I_lastLeg (g : G) (t : TE) (a0 : Network) (a1 : Fd) (a2 : List ByteArray) (a3 : List Int) (a4 : ByteArray) (a5 : Int) (a6 : Int) : Option (Trip × Bool) :=
  cl (I_lastLeg_l1 g t a0 a1 a2 a3 a4 a5 a6 a0.Legs 0) fun o1 => lr o1 fun y1 =>
  some (((Trip.mk 0 0), false))
theorem c_I_lastLeg {g : G} {t : TE} {a0 : Network} {a1 : Fd} {a2 : List ByteArray} {a3 : List Int} {a4 : ByteArray} {a5 : Int} {a6 : Int} {r : Trip × Bool} (hg : g = G.real) (ht : t = TE.real) (h : I_lastLeg g t a0 a1 a2 a3 a4 a5 a6 = some r) : Fn Try.prog 96 [.g (Network.rs t a0), .c (t.r_Fd a1), .c (.s 1 (t.r_S a2)), .c (.s 1 (t.r_I64 a3)), .c (.v (.string a4)), .c (.v (.int .i64 a5)), .c (.v (.int .i64 a6))] (.u [.g (Trip.ds t r.1), .c (.r (.v (.bool r.2)))]) := by
 obtain ⟨X, hX⟩ := hide (.u [.g (Trip.ds t r.1), .c (.r (.v (.bool r.2)))] : X); rw [← hX]; refine fn_of (rvs := rv96) (j := ir96) Try.func96 rfl (by kernel_rfl) (Nat.le_of_ble_eq_true rfl) (by kernel_rfl) prog_mixed ?_; intro g2 F hg2 hF; obtain rfl : g2 = g := hg2.unique.trans hg.symm; clear hg2; obtain ⟨wrap, lt, _, eq, _, _, _, _, _, _, _, _, _, add, _, _, _, seq, _, _, _, llen, _, _, _, _, _, _, _, _, _, _, _, _, _, _, _, _, _, _, _, _, _, _⟩ := g2; obtain ⟨r_Leg, _, r_I64, _, _, _, _, _, r_S, _, _, _, _, _, r_Fd⟩ := t
 obtain ⟨a0_Legs, a0_Off, a0_Change⟩ := a0; unfold I_lastLeg at h; try dsimp only at h
 cbv; obtain ⟨o1, ho1, h⟩ := of_cl h; try dsimp only at h
 try rw [hg] at ho1
 try rw [ht] at ho1
 refine ABL.mk { p : Nat × Int // p.1 ≤ a0_Legs.length ∧ p.2 = ((p.1 : Nat) : Int) ∧ I_lastLeg_l1 G.real TE.real (Network.mk a0_Legs a0_Off a0_Change) a1 a2 a3 a4 a5 a6 (List.drop p.1 a0_Legs) p.2 = some o1 } (fun ⟨⟨k1, v1⟩, _⟩ => ({ sl := [(1, .c (.r (r_Fd a1))), (2, .c (.r (.s 1 (r_S a2)))), (3, .c (.r (.s 1 (r_I64 a3)))), (4, .c (.r (.v (.string a4)))), (5, .c (.r (.v (.int .i64 a5)))), (6, .c (.r (.v (.int .i64 a6)))), (7, .c (.p 0 3 0 0)), (14, .c (.p 1 2 0 0)), (22, .c (.r (.s 6 (r_Leg a0_Legs)))), (23, .c (.r (.v (.int .i64 (llen (r_Leg a0_Legs)))))), (24, .c (.r (.v (.int .i64 v1))))], tab := [(0, some (.foc 3 [] [.r (.s 6 (r_Leg a0_Legs)), .r (.s 1 (r_I64 a0_Off)), .r (.v (.int .i64 a0_Change))] [])), (1, some (.foc 2 [] [.r (.v (.int .i64 0)), .r (.v (.int .i64 0))] []))] } : St)) 2 (fun p => a0_Legs.length - p.1.1) ⟨(0, 0), Nat.zero_le _, rfl, ho1⟩ (Unit) (fun _ => ({ sl := [(14, .c (.p 0 2 0 0))], tab := [(0, some (.foc 2 [] [.r (.v (.int .i64 0)), .r (.v (.int .i64 0))] []))] } : St)) 1 (fun y => o1 = LR.out y) ?_ ?_ ?_
 ·refine Wk.of [(0, some 0), (1, some 16)] rfl rfl ?_ ?_
  ·cbv; all_goals exact ⟨⟨_, rfl, rfl⟩, ⟨_, rfl, rfl⟩, ⟨_, rfl, rfl⟩, ⟨_, rfl, rfl⟩, ⟨_, rfl, rfl⟩, ⟨_, rfl, rfl⟩, ⟨_, rfl, rfl⟩, ⟨_, rfl, rfl⟩, ⟨_, rfl, rfl⟩, ⟨_, rfl, rfl⟩, ⟨_, rfl, rfl⟩, trivial⟩
  cbv; all_goals exact ⟨⟨_, rfl, _, rfl, rfl, rfl, rfl, trivial⟩, ⟨_, rfl, _, rfl, rfl, rfl, trivial⟩, trivial⟩
 ·rintro ⟨⟨k1, v1⟩, hk1, hi1, h_1⟩ hq1; have hm1 := (hq1.1 22 _ _ rfl); try dsimp only at hk1 hi1 h_1
  clear hq1; cbv
  by_cases hc1_ : k1 < a0_Legs.length
  ·have hb1 : lt v1 (llen (r_Leg a0_Legs)) = true := ltL_true_Leg hg ht hi1 hc1_; have hs1 := stepL_Leg hg ht hi1 hc1_ hm1; obtain ⟨z1, hz1⟩ := some_of_lt hc1_; rw [drop_of_some hz1] at h_1; rw [I_lastLeg_l1] at h_1; obtain ⟨z1_From, z1_To, z1_Start, z1_Takes, z1_Days, z1_Room⟩ := z1; try rw [← hg] at h_1
   try rw [← ht] at h_1
   try dsimp only at h_1
   rw [hb1]; cbv; refine AStep.mk (nn_L hi1) ?_; cbv; refine AGet.mk _ (r_getL_Leg hg ht hi1 hz1) ?_; cbv; obtain ⟨x1, hx1, h_1⟩ := of_lP h_1; try dsimp only at h_1
   refine ACall.mk _ _ rfl (hF _ _ _ (c_I_placeAt hg ht hx1)) (.inl rfl) (Nat.le_of_ble_eq_true rfl) ?_; cbv; obtain ⟨hc1, h_1⟩ := of_gd h_1; refine AStep.mk hc1 ?_; cbv; obtain ⟨x2, hx2, h_1⟩ := of_gt h_1; try dsimp only at h_1
   refine AGet.mk _ (r_get_S hg ht hx2) ?_; cbv
   cases hb2 : (seq z1_To x2)
   ·rw [br_false hb2] at h_1; cbv; iterate 5 try (rw [hb2]; cbv)
    try rw [hg] at h_1
    try rw [ht] at h_1
    refine ⟨⟨(k1 + 1, (wrap .i64 (add v1 1))), hc1_, hs1, h_1⟩, Wk.of [(0, some 0), (1, some 1)] rfl rfl ?_ ?_, meas_L hc1_⟩
    ·cbv; all_goals exact ⟨⟨_, rfl, rfl⟩, ⟨_, rfl, rfl⟩, ⟨_, rfl, rfl⟩, ⟨_, rfl, rfl⟩, ⟨_, rfl, rfl⟩, ⟨_, rfl, rfl⟩, ⟨_, rfl, rfl⟩, ⟨_, rfl, rfl⟩, ⟨_, rfl, rfl⟩, ⟨_, rfl, rfl⟩, ⟨_, rfl, rfl⟩, trivial⟩
    cbv; all_goals exact ⟨⟨_, rfl, _, rfl, rfl, rfl, rfl, trivial⟩, ⟨_, rfl, _, rfl, rfl, rfl, trivial⟩, trivial⟩
   rw [br_true hb2] at h_1; cbv; iterate 2 try (rw [hb2]; cbv)
   obtain ⟨hc2, h_1⟩ := of_gd h_1; refine AStep.mk hc2 ?_; cbv; obtain ⟨x3, hx3, h_1⟩ := of_gt h_1; try dsimp only at h_1
   refine AGet.mk _ (r_get_I64 hg ht hx3) ?_; cbv; iterate 3 try (rw [hb2]; cbv)
   cases hb3 : (lt x3 0)
   rotate_left
   ·rw [br_true hb3] at h_1; cbv; try rw [hg] at h_1
    try rw [ht] at h_1
    refine ⟨⟨(k1 + 1, (wrap .i64 (add v1 1))), hc1_, hs1, h_1⟩, Wk.of [(0, some 0), (1, some 1)] rfl rfl ?_ ?_, meas_L hc1_⟩
    ·cbv; all_goals exact ⟨⟨_, rfl, rfl⟩, ⟨_, rfl, rfl⟩, ⟨_, rfl, rfl⟩, ⟨_, rfl, rfl⟩, ⟨_, rfl, rfl⟩, ⟨_, rfl, rfl⟩, ⟨_, rfl, rfl⟩, ⟨_, rfl, rfl⟩, ⟨_, rfl, rfl⟩, ⟨_, rfl, rfl⟩, ⟨_, rfl, rfl⟩, trivial⟩
    cbv; all_goals exact ⟨⟨_, rfl, _, rfl, rfl, rfl, rfl, trivial⟩, ⟨_, rfl, _, rfl, rfl, rfl, trivial⟩, trivial⟩
   rw [br_false hb3] at h_1; cbv; obtain ⟨hc3, h_1⟩ := of_gd h_1; refine AStep.mk hc3 ?_; cbv; refine AGet.mk _ (r_get_I64 hg ht hx3) ?_; cbv; obtain ⟨x4, hx4, h_1⟩ := of_lP h_1; try dsimp only at h_1
   refine ACall.mk _ _ rfl (hF _ _ _ (c_I_readyAt hg ht hx4)) (.inl rfl) (Nat.le_of_ble_eq_true rfl) ?_; cbv; obtain ⟨x5, hx5, h_1⟩ := of_cl h_1; obtain ⟨⟨x5_1_Leg, x5_1_Day⟩, x5_2⟩ := x5; try dsimp only at h_1
   obtain ⟨f_, bs_, hr_, hc_⟩ := c_callFd hg ht hx5; refine ACallV.mk f_ bs_ _ _ hr_ rfl (hF _ _ _ hc_) (.inl rfl) (Nat.le_of_ble_eq_true rfl) ?_; clear hr_ hc_; cbv
   cases hb4 : x5_2
   ·rw [br_false hb4] at h_1; cbv; iterate 5 try (rw [hb4]; cbv)
    try rw [hg] at h_1
    try rw [ht] at h_1
    refine ⟨⟨(k1 + 1, (wrap .i64 (add v1 1))), hc1_, hs1, h_1⟩, Wk.of [(0, some 0), (1, some 1)] rfl rfl ?_ ?_, meas_L hc1_⟩
    ·cbv; all_goals exact ⟨⟨_, rfl, rfl⟩, ⟨_, rfl, rfl⟩, ⟨_, rfl, rfl⟩, ⟨_, rfl, rfl⟩, ⟨_, rfl, rfl⟩, ⟨_, rfl, rfl⟩, ⟨_, rfl, rfl⟩, ⟨_, rfl, rfl⟩, ⟨_, rfl, rfl⟩, ⟨_, rfl, rfl⟩, ⟨_, rfl, rfl⟩, trivial⟩
    cbv; all_goals exact ⟨⟨_, rfl, _, rfl, rfl, rfl, rfl, trivial⟩, ⟨_, rfl, _, rfl, rfl, rfl, trivial⟩, trivial⟩
   rw [br_true hb4] at h_1; cbv; iterate 2 try (rw [hb4]; cbv)
   obtain ⟨x6, hx6, h_1⟩ := of_cl h_1; try dsimp only at h_1
   refine ACall.mk _ _ rfl (hF _ _ _ (c_I_ends hg ht hx6)) (.inl rfl) (Nat.le_of_ble_eq_true rfl) ?_; cbv; iterate 3 try (rw [hb4]; cbv)
   cases hb5 : (eq x6 a6)
   rotate_left
   ·rw [br_true hb5] at h_1; cbv; obtain rfl := Option.some.inj h_1; try dsimp only [lr, lrL, lrp, lrpL] at h
    obtain rfl := Option.some.inj h; exact ARet.mk trivial hX.symm
   rw [br_false hb5] at h_1; cbv; try rw [hg] at h_1
   try rw [ht] at h_1
   refine ⟨⟨(k1 + 1, (wrap .i64 (add v1 1))), hc1_, hs1, h_1⟩, Wk.of [(0, some 0), (1, some 1)] rfl rfl ?_ ?_, meas_L hc1_⟩
   ·cbv; all_goals exact ⟨⟨_, rfl, rfl⟩, ⟨_, rfl, rfl⟩, ⟨_, rfl, rfl⟩, ⟨_, rfl, rfl⟩, ⟨_, rfl, rfl⟩, ⟨_, rfl, rfl⟩, ⟨_, rfl, rfl⟩, ⟨_, rfl, rfl⟩, ⟨_, rfl, rfl⟩, ⟨_, rfl, rfl⟩, ⟨_, rfl, rfl⟩, trivial⟩
   cbv; all_goals exact ⟨⟨_, rfl, _, rfl, rfl, rfl, rfl, trivial⟩, ⟨_, rfl, _, rfl, rfl, rfl, trivial⟩, trivial⟩
  have hb1 : lt v1 (llen (r_Leg a0_Legs)) = false := ltL_false_Leg hg ht hi1 hc1_; rw [List.drop_of_length_le (Nat.le_of_not_lt hc1_)] at h_1; rw [I_lastLeg_l1] at h_1; try rw [← hg] at h_1
  try rw [← ht] at h_1
  try dsimp only at h_1
  rw [hb1]; cbv; refine ⟨(), Wk.of [(0, some 1)] rfl rfl ?_ ?_, (Option.some.inj h_1).symm⟩
  ·cbv; all_goals exact ⟨⟨_, rfl, rfl⟩, trivial⟩
  cbv; all_goals exact ⟨⟨_, rfl, _, rfl, rfl, rfl, trivial⟩, trivial⟩
 rintro _ hy1; replace hy1 := hy1.symm; subst hy1; try dsimp only [lr, lrL, lrp, lrpL] at h
 cbv; obtain rfl := Option.some.inj h; exact ARet.mk trivial hX.symm
def ir59 : J := .seq (.reg none [⟨some 5, none, .box (.t 0)⟩,⟨some 10, none, .mv (.k (.c (.n 2)))⟩,⟨some 11, none, .mv (.k (V.b false))⟩] [1, 2, 3, 4, 5]) (.seq (.reg none [⟨some 24, none, .ld true 3 (.t 5)⟩,⟨some 25, none, .call 72 true [(.t 24)]⟩,⟨some 12, none, .mv (.t 25)⟩] [1, 2, 3, 4, 5, 12]) (.seq (.reg none [⟨some 26, none, .mv (.t 12)⟩,⟨some 27, none, .mv (.t 3)⟩,⟨some 28, none, .call 71 true [(.t 26), (.t 27)]⟩,⟨some 13, none, .mv (.t 28)⟩] [1, 2, 4, 5, 12, 13]) (.seq (.reg none [⟨some 29, none, .bsl 1 []⟩,⟨some 14, none, .mv (.t 29)⟩] [1, 2, 4, 5, 12, 13, 14]) (.seq (.seq (.reg none [⟨some 15, none, .mv (.k (V.i 0))⟩] [1, 2, 4, 5, 12, 13, 14, 15]) (.bl 0 (.seq (.seq (.reg none [⟨some 30, none, .mv (.t 15)⟩,⟨some 31, none, .mv (.t 12)⟩,⟨some 32, none, .len false (.t 31)⟩,⟨some 33, none, .bin .leq .i (.t 30) (.t 32)⟩] [1, 2, 4, 5, 12, 13, 14, 15, 33]) (.cond (.t 33) (.skip) (.exit 0))) (.seq (.block 1 (.seq (.reg none [⟨some 36, none, .ld true 3 (.t 5)⟩,⟨some 37, none, .mv (.t 1)⟩,⟨some 38, none, .mv (.t 2)⟩,⟨some 39, none, .mv (.t 4)⟩,⟨some 40, none, .mv (.t 15)⟩,⟨some 41, none, .call 53 true [(.t 36), (.t 37), (.t 38), (.t 39), (.t 40)]⟩,⟨some 16, none, .mv (.t 41)⟩] [1, 2, 4, 5, 12, 13, 14, 15, 16]) (.seq (.seq (.reg none [⟨some 42, none, .mv (.t 16)⟩,⟨some 43, none, .len false (.t 42)⟩,⟨some 44, none, .bin .eql .i (.t 43) (.k (V.i 0))⟩,⟨some 45, none, .mv (.t 44)⟩,⟨some 46, (some (45, false)), .mv (.t 13)⟩,⟨some 47, (some (45, false)), .bin .lss .i (.t 46) (.k (V.i 0))⟩,⟨some 48, none, .pick (.t 45) (.k (V.b true)) (.t 47)⟩] [1, 2, 4, 5, 12, 13, 14, 15, 16, 48]) (.cond (.t 48) (.seq (.reg none [⟨some 10, none, .mv (.k (.c (.n 2)))⟩,⟨some 11, none, .mv (.k (V.b false))⟩] [10, 11]) (.ret)) (.skip))) (.reg none [⟨some 49, none, .mv (.t 14)⟩,⟨some 50, none, .mv (.t 16)⟩,⟨some 51, none, .bsl 1 [(.t 50)]⟩,⟨some 52, none, .app 1 24 true (.t 49) (.t 51)⟩,⟨some 14, none, .mv (.t 52)⟩] [1, 2, 4, 5, 12, 13, 14, 15])))) (.reg none [⟨some 34, none, .mv (.t 15)⟩,⟨some 35, none, .bin .add .i (.t 34) (.k (V.i 1))⟩,⟨some 15, none, .mv (.t 35)⟩] [1, 2, 4, 5, 12, 13, 14, 15]))))) (.seq (.gh (.ga (.reg none [⟨some 53, none, .mv (.t 14)⟩,⟨some 54, none, .mv (.t 12)⟩,⟨some 55, none, .len false (.t 54)⟩,⟨some 56, none, .ia 1 (.t 53) (.t 55)⟩,⟨some 57, none, .ld false 1 (.t 56)⟩,⟨some 58, none, .mv (.t 13)⟩,⟨some 59, none, .ia 1 (.t 57) (.t 58)⟩,⟨some 60, none, .ld false 1 (.t 59)⟩,⟨some 17, none, .mv (.t 60)⟩] [1, 2, 5, 12, 13, 14, 17]))) (.seq (.seq (.reg none [⟨some 61, none, .mv (.t 17)⟩,⟨some 62, none, .bin .lss .i (.t 61) (.k (V.i 0))⟩] [1, 2, 5, 12, 13, 14, 17, 62]) (.cond (.t 62) (.seq (.reg none [⟨some 10, none, .mv (.k (.c (.n 2)))⟩,⟨some 11, none, .mv (.k (V.b false))⟩] [10, 11]) (.ret)) (.skip))) (.seq (.reg none [⟨some 18, none, .mv (.k (V.i 0))⟩] [1, 2, 5, 12, 13, 14, 17, 18]) (.seq (.bl 2 (.seq (.seq (.gh (.ga (.reg none [⟨some 63, none, .mv (.t 14)⟩,⟨some 64, none, .mv (.t 18)⟩,⟨some 65, none, .ia 1 (.t 63) (.t 64)⟩,⟨some 66, none, .ld false
 1 (.t 65)⟩,⟨some 67, none, .mv (.t 13)⟩,⟨some 68, none, .ia 1 (.t 66) (.t 67)⟩,⟨some 69, none, .ld false 1 (.t 68)⟩,⟨some 70, none, .mv (.t 17)⟩,⟨some 71, none, .bin .neq .i (.t 69) (.t 70)⟩] [1, 2, 5, 12, 13, 14, 17, 18, 71]))) (.cond (.t 71) (.skip) (.exit 2))) (.block 3 (.reg none [⟨some 72, none, .mv (.t 18)⟩,⟨some 73, none, .bin .add .i (.t 72) (.k (V.i 1))⟩,⟨some 18, none, .mv (.t 73)⟩] [1, 2, 5, 12, 13, 14, 17, 18])))) (.seq (.reg none [⟨some 74, none, .bsl 2 []⟩,⟨some 19, none, .mv (.t 74)⟩] [1, 2, 5, 12, 13, 14, 17, 18, 19]) (.seq (.bl 4 (.seq (.seq (.reg none [⟨some 75, none, .mv (.t 18)⟩,⟨some 76, none, .bin .gtr .i (.t 75) (.k (V.i 0))⟩] [1, 2, 5, 12, 13, 14, 17, 18, 19, 76]) (.cond (.t 76) (.skip) (.exit 4))) (.seq (.block 5 (.seq (.gh (.ga (.reg (some [[], [], [], [], [], [4], [3, 4, 5], [3, 4, 5, 6], [], [], [], [0, 1, 2, 3, 4, 5, 6, 7, 8, 9, 10], [0, 1, 2, 3, 4, 5, 6, 7, 8, 9, 10, 11], [0, 1, 2, 3, 4, 5, 6, 7, 8, 9, 10, 11, 12], [0, 1, 2, 3, 4, 5, 6, 7, 8, 9, 10, 11, 12], [], [0, 1, 2, 3, 4, 5, 6, 7, 8, 9, 10, 11, 12, 13, 15], [0, 1, 2, 3, 4, 5, 6, 7, 8, 9, 10, 11, 12, 13, 14, 15, 16]]) [⟨some 80, none, .ld true 3 (.t 5)⟩,⟨some 81, none, .mv (.t 1)⟩,⟨some 82, none, .mv (.t 12)⟩,⟨some 83, none, .mv (.t 14)⟩,⟨some 84, none, .mv (.t 18)⟩,⟨some 85, none, .bin .sub .i (.t 84) (.k (V.i 1))⟩,⟨some 86, none, .ia 1 (.t 83) (.t 85)⟩,⟨some 87, none, .ld false 1 (.t 86)⟩,⟨some 88, none, .mv (.t 2)⟩,⟨some 89, none, .mv (.t 13)⟩,⟨some 90, none, .mv (.t 17)⟩,⟨some 91, none, .call 96 true [(.t 80), (.t 81), (.t 82), (.t 87), (.t 88), (.t 89), (.t 90)]⟩,⟨some 79, none, .mv (.t 91)⟩,⟨some 92, none, .ext 0 (.t 79)⟩,⟨some 93, none, .ext 1 (.t 79)⟩,⟨some 20, none, .alloc [.r (.v (.int .i64 0)), .r (.v (.int .i64 0))]⟩,⟨none, none, .st 2 (.t 20) (.t 92)⟩,⟨some 21, none, .mv (.t 93)⟩] [1, 2, 5, 12, 14, 18, 19, 20, 21]))) (.seq (.seq (.reg none [⟨some 94, none, .mv (.t 21)⟩,⟨some 95, none, .not (.t 94)⟩] [1, 2, 5, 12, 14, 18, 19, 20, 95]) (.cond (.t 95) (.seq (.reg none [⟨some 10, none, .mv (.k (.c (.n 2)))⟩,⟨some 11, none, .mv (.k (V.b false))⟩] [10, 11]) (.ret)) (.skip))) (.seq (.reg none [⟨some 96, none, .mv (.t 19)⟩,⟨some 97, none, .ld true 2 (.t 20)⟩,⟨some 98, none, .bsl 2 [(.t 97)]⟩,⟨some 99, none, .app 2 16 true (.t 96) (.t 98)⟩,⟨some 19, none, .mv (.t 99)⟩] [1, 2, 5, 12, 14, 18, 19, 20]) (.seq (.reg none [⟨some 100, none, .mv (.t 12)⟩,⟨some 101, none, .fa 0 (.t 5)⟩,⟨some 102, none, .ld false 1 (.t 101)⟩,⟨some 103, none, .fa 0 (.t 20)⟩,⟨some 104, none, .ld false 1 (.t 103)⟩,⟨some 105, none, .ia 6 (.t 102) (.t 104)⟩,⟨some 106, none, .fa 0 (.t 105)⟩,⟨some 107, none, .ld false 1 (.t 106)⟩,⟨some 108, none, .call 71 true [(.t 100), (.t 107)]⟩,⟨some 13, none, .mv (.t 108)⟩] [1, 2, 5, 12, 13, 14, 18, 19]) (.gh (.ga (.reg none [⟨some 109, none, .mv (.t 14)⟩,⟨some 110, none, .mv (.t 18)⟩,⟨some 111, none, .bin .sub .i (.t 110) (.k (V.i 1))⟩,⟨some 112, none, .ia 1 (.t 109) (.t 111)⟩,⟨some 113, none, .ld false 1 (.t 112)⟩,⟨some 114, none, .mv (.t 13)⟩,⟨some 115,
 none, .ia 1 (.t 113) (.t 114)⟩,⟨some 116, none, .ld false 1 (.t 115)⟩,⟨some 17, none, .mv (.t 116)⟩] [1, 2, 5, 12, 13, 14, 17, 18, 19])))))))) (.reg none [⟨some 77, none, .mv (.t 18)⟩,⟨some 78, none, .bin .sub .i (.t 77) (.k (V.i 1))⟩,⟨some 18, none, .mv (.t 78)⟩] [1, 2, 5, 12, 13, 14, 17, 18, 19])))) (.seq (.reg none [⟨some 117, none, .bsl 2 []⟩,⟨some 22, none, .mv (.t 117)⟩] [19, 22]) (.seq (.seq (.reg none [⟨some 118, none, .mv (.t 19)⟩,⟨some 119, none, .len false (.t 118)⟩,⟨some 120, none, .bin .sub .i (.t 119) (.k (V.i 1))⟩,⟨some 23, none, .mv (.t 120)⟩] [19, 22, 23]) (.bl 6 (.seq (.seq (.reg none [⟨some 121, none, .mv (.t 23)⟩,⟨some 122, none, .bin .geq .i (.t 121) (.k (V.i 0))⟩] [19, 22, 23, 122]) (.cond (.t 122) (.skip) (.exit 6))) (.seq (.block 7 (.reg none [⟨some 125, none, .mv (.t 22)⟩,⟨some 126, none, .mv (.t 19)⟩,⟨some 127, none, .mv (.t 23)⟩,⟨some 128, none, .ia 2 (.t 126) (.t 127)⟩,⟨some 129, none, .ld true 2 (.t 128)⟩,⟨some 130, none, .bsl 2 [(.t 129)]⟩,⟨some 131, none, .app 2 16 true (.t 125) (.t 130)⟩,⟨some 22, none, .mv (.t 131)⟩] [19, 22, 23])) (.reg none [⟨some 123, none, .mv (.t 23)⟩,⟨some 124, none, .bin .sub .i (.t 123) (.k (V.i 1))⟩,⟨some 23, none, .mv (.t 124)⟩] [19, 22, 23]))))) (.seq (.reg none [⟨some 132, none, .mv (.t 22)⟩,⟨some 10, none, .mv (.t 132)⟩,⟨some 11, none, .mv (.k (V.b true))⟩] [10, 11]) (.ret))))))))))))))
def rv59 : List RV := [.t 10, .t 11]
def I_wayTo_l4 (g : G) (t : TE) (y3 : List Trip) : Nat → List Trip → Int → Option (List Trip)
  | 0, _, _ => none
  | n4 + 1, w3, v6 =>
    br (g.le 0 v6)
    (
     gd (((0 : Int) ≤ v6 ∧ v6 < (((g.dlen (t.d_Trip y3)) : Nat) : Int))) <|
     gt y3 (g.nat v6) fun x13 =>
     lP ([x13]) fun (l8 : List Trip) =>
     gd (((w3.length + l8.length) * 16 ≤ 70368744177664)) <|
     lP (w3 ++ l8) fun (l9 : List Trip) =>
     I_wayTo_l4 g t y3 n4 l9 (g.wrap .i64 (g.sub v6 1)))
    (
     some w3)
def I_wayTo_l3 (g : G) (t : TE) (a0 : Network) (a1 : Fd) (a2 : ByteArray) (x1 : List ByteArray) (y1 : List (List Int)) : Nat → Int → Int → Int → List Trip → Option (LR ((List Trip) × Bool) (List Trip))
  | 0, _, _, _, _ => none
  | n3 + 1, v3, v4, v5, w2 =>
    br (g.lt 0 v5)
    (
     gt y1 (g.nat (g.wrap .i64 (g.sub v5 1))) fun x8 =>
     gd (((0 : Int) ≤ (g.wrap .i64 (g.sub v5 1)) ∧ (g.wrap .i64 (g.sub v5 1)) < (((g.dlen (t.d_LI64 y1)) : Nat) : Int))) <|
     cl (I_lastLeg g t a0 a1 x1 x8 a2 v3 v4) fun x9 =>
     br x9.2
     (
      lP ([(Trip.mk x9.1.Leg x9.1.Day)]) fun (l5 : List Trip) =>
      gd (((w2.length + l5.length) * 16 ≤ 70368744177664)) <|
      lP (w2 ++ l5) fun (l6 : List Trip) =>
      gd (((0 : Int) ≤ x9.1.Leg)) <|
      gt a0.Legs (g.nat x9.1.Leg) fun x10 =>
      lP (I_placeAt g t x1 x10.From) fun x11 =>
      gd (((0 : Int) ≤ (g.wrap .i64 (g.sub v5 1)) ∧ (g.wrap .i64 (g.sub v5 1)) < (((g.dlen (t.d_LI64 y1)) : Nat) : Int))) <|
      gd (((0 : Int) ≤ x11 ∧ x11 < (((g.dlen (t.d_I64 x8)) : Nat) : Int))) <|
      gt x8 (g.nat x11) fun x12 =>
      I_wayTo_l3 g t a0 a1 a2 x1 y1 n3 x11 x12 (g.wrap .i64 (g.sub v5 1)) l6)
     (
      some (LR.ret (([], false)))))
    (
     some (LR.out w2))
def I_wayTo_l2 (g : G) (t : TE) (x2 : Int) (x5 : Int) (y1 : List (List Int)) : Nat → Int → Option Int
  | 0, _ => none
  | n2 + 1, v2 =>
    gt y1 (g.nat v2) fun x6 =>
    gd (((0 : Int) ≤ v2 ∧ v2 < (((g.dlen (t.d_LI64 y1)) : Nat) : Int))) <|
    gd (((0 : Int) ≤ x2 ∧ x2 < (((g.dlen (t.d_I64 x6)) : Nat) : Int))) <|
    gt x6 (g.nat x2) fun x7 =>
    br (g.eq x7 x5)
    (
     some v2)
    (
     I_wayTo_l2 g t x2 x5 y1 n2 (g.wrap .i64 (g.add v2 1)))
def I_wayTo_l1 (g : G) (t : TE) (a0 : Network) (a1 : Fd) (a2 : ByteArray) (a4 : Int) (x2 : Int) : Nat → Int → List (List Int) → Option (LR ((List Trip) × Bool) (List (List Int)))
  | 0, v1, w1 =>
    some (LR.out w1)
  | n1 + 1, v1, w1 =>
    cl (I_arrivals g t a0 a1 a2 a4 v1) fun x3 =>
    br (g.eq (g.int (g.dlen (t.d_I64 x3))) 0)
    (
     some (LR.ret (([], false))))
    (
     br (g.lt x2 0)
     (
      some (LR.ret (([], false))))
     (
      lP ([x3]) fun (l2 : List (List Int)) =>
      gd (((w1.length + l2.length) * 24 ≤ 70368744177664)) <|
      lP (w1 ++ l2) fun (l3 : List (List Int)) =>
      I_wayTo_l1 g t a0 a1 a2 a4 x2 n1 (g.wrap .i64 (g.add v1 1)) l3))
def I_wayTo (g : G) (t : TE) (a0 : Network) (a1 : Fd) (a2 : ByteArray) (a3 : ByteArray) (a4 : Int) : Option ((List Trip) × Bool) :=
  cl (I_PlacesOf g t a0) fun x1 =>
  lP (I_placeAt g t x1 a3) fun x2 =>
  lP ([]) fun (l1 : List (List Int)) =>
  gd (((g.int (g.dlen (t.d_S x1))) ≤ 4611686018427387904)) <|
  cl (I_wayTo_l1 g t a0 a1 a2 a4 x2 (cntLe 0 (g.int (g.dlen (t.d_S x1)))) 0 l1) fun o1 => lr o1 fun y1 =>
  gt y1 (g.nat (g.int (g.dlen (t.d_S x1)))) fun x4 =>
  gd (((0 : Int) ≤ (g.int (g.dlen (t.d_S x1))) ∧ (g.int (g.dlen (t.d_S x1))) < (((g.dlen (t.d_LI64 y1)) : Nat) : Int))) <|
  gd (((0 : Int) ≤ x2 ∧ x2 < (((g.dlen (t.d_I64 x4)) : Nat) : Int))) <|
  gt x4 (g.nat x2) fun x5 =>
  br (g.lt x5 0)
  (
   some (([], false)))
  (
   cl (I_wayTo_l2 g t x2 x5 y1 1000000000 0) fun y2 =>
   lP ([]) fun (l4 : List Trip) =>
   cl (I_wayTo_l3 g t a0 a1 a2 x1 y1 1000000000 x2 x5 y2 l4) fun o3 => lr o3 fun y3 =>
   lP ([]) fun (l7 : List Trip) =>
   cl (I_wayTo_l4 g t y3 1000000000 l7 (g.wrap .i64 (g.sub (g.int (g.dlen (t.d_Trip y3))) 1))) fun y4 =>
   some ((y4, true)))
theorem c_I_wayTo {g : G} {t : TE} {a0 : Network} {a1 : Fd} {a2 : ByteArray} {a3 : ByteArray} {a4 : Int} {r : (List Trip) × Bool} (hg : g = G.real) (ht : t = TE.real) (h : I_wayTo g t a0 a1 a2 a3 a4 = some r) : Fn Try.prog 59 [.g (Network.rs t a0), .c (t.r_Fd a1), .c (.v (.string a2)), .c (.v (.string a3)), .c (.v (.int .i64 a4))] (.u [.c (.o 2 (t.d_Trip r.1)), .c (.r (.v (.bool r.2)))]) := by
 obtain ⟨X, hX⟩ := hide (.u [.c (.o 2 (t.d_Trip r.1)), .c (.r (.v (.bool r.2)))] : X); rw [← hX]; refine fn_of (rvs := rv59) (j := ir59) Try.func59 rfl (by kernel_rfl) (Nat.le_of_ble_eq_true rfl) (by kernel_rfl) prog_mixed ?_; intro g2 F hg2 hF; obtain rfl : g2 = g := hg2.unique.trans hg.symm; clear hg2; obtain ⟨wrap, lt, le, eq, _, _, _, _, _, _, _, nat, int, add, sub, _, _, _, _, _, _, _, _, _, dlen, _, _, _, rd, _, _, _, _, _, _, _, _, _, _, _, _, _, _, _⟩ := g2; obtain ⟨r_Leg, d_Leg, r_I64, d_I64, _, d_Booking, _, d_Trip, r_S, d_S, _, d_LI64, _, d_U8, r_Fd⟩ := t
 obtain ⟨a0_Legs, a0_Off, a0_Change⟩ := a0; have hnil_Leg : d_Leg [] = [] := d_nil_Leg ht; have hnil_I64 : d_I64 [] = [] := d_nil_I64 ht; have hnil_Booking : d_Booking [] = [] := d_nil_Booking ht; have hnil_Trip : d_Trip [] = [] := d_nil_Trip ht; have hnil_S : d_S [] = [] := d_nil_S ht; have hnil_LI64 : d_LI64 [] = [] := d_nil_LI64 ht; have hnil_U8 : d_U8 [] = [] := d_nil_U8 ht; unfold I_wayTo at h; try dsimp only at h
 cbv; obtain ⟨x1, hx1, h⟩ := of_cl h; try dsimp only at h
 refine ACall.mk _ _ rfl (hF _ _ _ (c_I_PlacesOf hg ht hx1)) (.inl rfl) (Nat.le_of_ble_eq_true rfl) ?_; cbv; refine AStep.mk (lend_S ht (dlen_S hg ht _)) ?_; cbv; obtain ⟨x2, hx2, h⟩ := of_lP h; try dsimp only at h
 refine ACall.mk _ _ (by rw [show rd (d_S x1) 0 (dlen (d_S x1)) = r_S x1 from rdw_S hg ht (dlen_S hg ht _)]; try rfl) (hF _ _ _ (c_I_placeAt hg ht hx2)) (.inr rfl) (Nat.le_of_ble_eq_true rfl) ?_
 cbv; obtain ⟨l1, hl1, h⟩ := of_lP h; try dsimp only at h
 refine ANew.mk (d_LI64 l1) (dlen (d_LI64 l1)) (by rw [← hl1]; exact lit_LI64 hg ht []) (by rw [← hl1]; exact litn_LI64 hg ht []) ?_; cbv; obtain ⟨hB1, h⟩ := of_gd h; obtain ⟨o1, ho1, h⟩ := of_cl h; try dsimp only at h
 try rw [hg] at ho1
 try rw [ht] at ho1
 refine ABL.mk { p : Nat × Int × List (List Int) // p.1 = cntLe p.2.1 (int (dlen (d_S x1))) ∧ 0 ≤ p.2.1 ∧ I_wayTo_l1 G.real TE.real (Network.mk a0_Legs a0_Off a0_Change) a1 a2 a4 x2 p.1 p.2.1 p.2.2 = some o1 } (fun ⟨⟨n1, v1, w1⟩, _⟩ => ({ sl := [(1, .c (.r (r_Fd a1))), (2, .c (.r (.v (.string a2)))), (4, .c (.r (.v (.int .i64 a4)))), (5, .c (.p 0 3 0 0)), (12, .c (.f 1 1 0 (dlen (d_S x1)))), (13, .c (.r (.v (.int .i64 x2)))), (14, .c (.f 2 1 0 (dlen (d_LI64 w1)))), (15, .c (.r (.v (.int .i64 v1))))], tab := [(0, some (.foc 3 [] [.r (.s 6 (r_Leg a0_Legs)), .r (.s 1 (r_I64 a0_Off)), .r (.v (.int .i64 a0_Change))] [])), (1, some (.arr 1 (d_S x1))), (2, some (.arr 1 (d_LI64 w1)))] } : St)) 3 (fun p => p.1.1) ⟨(cntLe 0 (int (dlen (d_S x1))), 0, l1), rfl, Int.le_refl _, ho1⟩ (List (List Int)) (fun y1 => ({ sl := [(1, .c (.r (r_Fd a1))), (2, .c (.r (.v (.string a2)))), (5, .c (.p 0 3 0 0)), (12, .c (.f 1 1 0 (dlen (d_S x1)))), (13, .c (.r (.v (.int .i64 x2)))), (14, .c (.f 2 1 0 (dlen (d_LI64 y1))))], tab := [(0, some (.foc 3 [] [.r (.s 6 (r_Leg a0_Legs)), .r (.s 1 (r_I64 a0_Off)), .r (.v (.int .i64 a0_Change))] [])), (1, some (.arr 1 (d_S x1))), (2, some (.arr 1 (d_LI64 y1)))] } : St)) 3 (fun y => o1 = LR.out y) ?_ ?_ ?_
 ·refine Wk.of [(0, some 0), (1, some 64), (2, some 160)] rfl rfl ?_ ?_
  ·cbv; all_goals exact ⟨⟨_, rfl, rfl⟩, ⟨_, rfl, rfl⟩, ⟨_, rfl, rfl⟩, ⟨_, rfl, rfl⟩, ⟨_, rfl, rfl⟩, ⟨_, rfl, rfl⟩, ⟨_, rfl, rfl⟩, ⟨_, rfl, rfl⟩, trivial⟩
  cbv; all_goals exact ⟨⟨_, rfl, _, rfl, rfl, rfl, rfl, trivial⟩, ⟨_, rfl, rfl⟩, ⟨_, rfl, rfl⟩, trivial⟩
 ·rintro ⟨⟨n1, v1, w1⟩, hn1, hi1, h_1⟩ hq1; try dsimp only at hn1 hi1 h_1
  clear hq1; cbv; rcases n1 with _ | n1
  ·have hb1 : le v1 (int (dlen (d_S x1))) = false := leC_false hg hn1; rw [I_wayTo_l1] at h_1; try rw [← hg] at h_1
   try rw [← ht] at h_1
   try dsimp only at h_1
   rw [hb1]; cbv; refine ⟨w1, Wk.of [(0, some 0), (1, some 1), (2, some 2)] rfl rfl ?_ ?_, (Option.some.inj h_1).symm⟩
   ·cbv; all_goals exact ⟨⟨_, rfl, rfl⟩, ⟨_, rfl, rfl⟩, ⟨_, rfl, rfl⟩, ⟨_, rfl, rfl⟩, ⟨_, rfl, rfl⟩, ⟨_, rfl, rfl⟩, trivial⟩
   cbv; all_goals exact ⟨⟨_, rfl, _, rfl, rfl, rfl, rfl, trivial⟩, ⟨_, rfl, rfl⟩, ⟨_, rfl, rfl⟩, trivial⟩
  have hb1 : le v1 (int (dlen (d_S x1))) = true := leC_true hg hn1; have hl1 := leC_le hn1; have hs1 := stepleC hg hn1 hi1 hB1 (by decide); rw [I_wayTo_l1] at h_1; try rw [← hg] at h_1
  try rw [← ht] at h_1
  try dsimp only at h_1
  rw [hb1]; cbv; obtain ⟨x3, hx3, h_1⟩ := of_cl h_1; try dsimp only at h_1
  refine ACall.mk _ _ rfl (hF _ _ _ (c_I_arrivals hg ht hx3)) (.inl rfl) (Nat.le_of_ble_eq_true rfl) ?_; cbv
  cases hb2 : (eq (int (dlen (d_I64 x3))) 0)
  rotate_left
  ·rw [br_true hb2] at h_1; cbv; iterate 2 try (rw [hb2]; cbv)
   obtain rfl := Option.some.inj h_1; try dsimp only [lr, lrL, lrp, lrpL] at h
   obtain rfl := Option.some.inj h; exact ARet.mk trivial (by rw [hX]; first | rfl | (simp only [Leg.ds, Network.ds, Trip.ds, Scan.ds, Booking.ds, Spot.ds, hnil_Trip]; try rfl))
  rw [br_false hb2] at h_1; cbv; iterate 2 try (rw [hb2]; cbv)
  cases hb3 : (lt x2 0)
  rotate_left
  ·rw [br_true hb3] at h_1; cbv; obtain rfl := Option.some.inj h_1; try dsimp only [lr, lrL, lrp, lrpL] at h
   obtain rfl := Option.some.inj h; exact ARet.mk trivial (by rw [hX]; first | rfl | (simp only [Leg.ds, Network.ds, Trip.ds, Scan.ds, Booking.ds, Spot.ds, hnil_Trip]; try rfl))
  rw [br_false hb3] at h_1; cbv; refine AStep.mk ⟨rfl, (dlen_I64 hg ht _)⟩ ?_; cbv; obtain ⟨l2, hl2, h_1⟩ := of_lP h_1; try dsimp only at h_1
  refine ANew.mk (d_LI64 l2) (dlen (d_LI64 l2)) (by rw [← hl2]; have e := lit_LI64 hg ht [x3]; dsimp only [List.map, LI64.ds] at e; (try simp only [hnil_Leg, hnil_I64, hnil_Booking, hnil_Trip, hnil_S, hnil_LI64, hnil_U8] at e); exact e) (by rw [← hl2]; exact litn_LI64 hg ht [x3]) ?_; cbv; obtain ⟨hc1, h_1⟩ := of_gd h_1; refine AStep.mk ⟨⟨rfl, (dlen_LI64 hg ht _)⟩, (app_ok_LI64 hg ht (dlen_LI64 hg ht _) rfl hc1)⟩ ?_; cbv; obtain ⟨l3, hl3, h_1⟩ := of_lP h_1; try dsimp only at h_1
  refine ANew.mk (d_LI64 l3) (dlen (d_LI64 l3)) (by rw [← hl3]; exact app_LI64 hg ht (dlen_LI64 hg ht _) rfl) (by rw [← hl3]; exact appl_LI64 hg ht (dlen_LI64 hg ht _) rfl) ?_; cbv; try rw [hg] at h_1
  try rw [ht] at h_1
  refine ⟨⟨(n1, (wrap .i64 (add v1 1)), l3), hs1.1, hs1.2, h_1⟩, Wk.of [(0, some 0), (1, some 1), (2, some 339)] rfl rfl ?_ ?_, Nat.lt_succ_self _⟩
  ·cbv; all_goals exact ⟨⟨_, rfl, rfl⟩, ⟨_, rfl, rfl⟩, ⟨_, rfl, rfl⟩, ⟨_, rfl, rfl⟩, ⟨_, rfl, rfl⟩, ⟨_, rfl, rfl⟩, ⟨_, rfl, rfl⟩, ⟨_, rfl, rfl⟩, trivial⟩
  cbv; all_goals exact ⟨⟨_, rfl, _, rfl, rfl, rfl, rfl, trivial⟩, ⟨_, rfl, rfl⟩, ⟨_, rfl, rfl⟩, trivial⟩
 rintro y1 hy1; replace hy1 := hy1.symm; subst hy1; try dsimp only [lr, lrL, lrp, lrpL] at h
 cbv; obtain ⟨x4, hx4, h⟩ := of_gt h; try dsimp only at h
 refine AGh.opn 2 1 (nat (int (dlen (d_S x1)))) (d_LI64 y1) _ rfl (d_get_LI64 hg ht hx4) rfl ?_; cbv; refine AGh.nil ?_; cbv; obtain ⟨hc2, h⟩ := of_gd h; refine AStep.mk hc2 ?_; cbv; refine AStep.mk rfl ?_; cbv; obtain ⟨hc3, h⟩ := of_gd h; refine AStep.mk hc3 ?_; cbv; obtain ⟨x5, hx5, h⟩ := of_gt h; try dsimp only at h
 refine AGet.mk _ (d_get_I64 hg ht hx5) ?_; cbv; refine AGh.cls 2 1 (nat (int (dlen (d_S x1)))) (d_LI64 y1) _ _ _ _ (d_LI64 y1) rfl rfl ⟨rfl, (dlen_I64 hg ht _)⟩ (dsets_LI64 hg ht hx4) ?_; cbv; refine AGh.nil ?_; cbv
 cases hb4 : (lt x5 0)
 rotate_left
 ·rw [br_true hb4] at h; cbv; obtain rfl := Option.some.inj h; exact ARet.mk trivial (by rw [hX]; first | rfl | (simp only [Leg.ds, Network.ds, Trip.ds, Scan.ds, Booking.ds, Spot.ds, hnil_Trip]; try rfl))
 rw [br_false hb4] at h; cbv; obtain ⟨o2, ho2, h⟩ := of_cl h; try dsimp only at h
 try rw [hg] at ho2
 try rw [ht] at ho2
 refine ABL.mk { p : Nat × Int // I_wayTo_l2 G.real TE.real x2 x5 y1 p.1 p.2 = some o2 } (fun ⟨⟨n2, v2⟩, _⟩ => ({ sl := [(1, .c (.r (r_Fd a1))), (2, .c (.r (.v (.string a2)))), (5, .c (.p 0 3 0 0)), (12, .c (.f 1 1 0 (dlen (d_S x1)))), (13, .c (.r (.v (.int .i64 x2)))), (14, .c (.f 2 1 0 (dlen (d_LI64 y1)))), (17, .c (.r (.v (.int .i64 x5)))), (18, .c (.r (.v (.int .i64 v2))))], tab := [(0, some (.foc 3 [] [.r (.s 6 (r_Leg a0_Legs)), .r (.s 1 (r_I64 a0_Off)), .r (.v (.int .i64 a0_Change))] [])), (1, some (.arr 1 (d_S x1))), (2, some (.arr 1 (d_LI64 y1)))] } : St)) 3 (fun p => p.1.1) ⟨(1000000000, 0), ho2⟩ (Int) (fun y2 => ({ sl := [(1, .c (.r (r_Fd a1))), (2, .c (.r (.v (.string a2)))), (5, .c (.p 0 3 0 0)), (12, .c (.f 1 1 0 (dlen (d_S x1)))), (13, .c (.r (.v (.int .i64 x2)))), (14, .c (.f 2 1 0 (dlen (d_LI64 y1)))), (17, .c (.r (.v (.int .i64 x5)))), (18, .c (.r (.v (.int .i64 y2))))], tab := [(0, some (.foc 3 [] [.r (.s 6 (r_Leg a0_Legs)), .r (.s 1 (r_I64 a0_Off)), .r (.v (.int .i64 a0_Change))] [])), (1, some (.arr 1 (d_S x1))), (2, some (.arr 1 (d_LI64 y1)))] } : St)) 3 (fun y => o2 = y) ?_ ?_ ?_
 ·refine Wk.of [(0, some 0), (1, some 1), (2, some 2)] rfl rfl ?_ ?_
  ·cbv; all_goals exact ⟨⟨_, rfl, rfl⟩, ⟨_, rfl, rfl⟩, ⟨_, rfl, rfl⟩, ⟨_, rfl, rfl⟩, ⟨_, rfl, rfl⟩, ⟨_, rfl, rfl⟩, ⟨_, rfl, rfl⟩, ⟨_, rfl, rfl⟩, trivial⟩
  cbv; all_goals exact ⟨⟨_, rfl, _, rfl, rfl, rfl, rfl, trivial⟩, ⟨_, rfl, rfl⟩, ⟨_, rfl, rfl⟩, trivial⟩
 ·rintro ⟨⟨n2, v2⟩, h_2⟩ hq2; try dsimp only at h_2
  clear hq2; rcases n2 with _ | n2
  ·rw [I_wayTo_l2] at h_2; cases h_2
  rw [I_wayTo_l2] at h_2; try rw [← hg] at h_2
  try rw [← ht] at h_2
  try dsimp only at h_2
  cbv; obtain ⟨x6, hx6, h_2⟩ := of_gt h_2; try dsimp only at h_2
  refine AGh.opn 2 1 (nat v2) (d_LI64 y1) _ rfl (d_get_LI64 hg ht hx6) rfl ?_; cbv; refine AGh.nil ?_; cbv; obtain ⟨hc4, h_2⟩ := of_gd h_2; refine AStep.mk hc4 ?_; cbv; refine AStep.mk rfl ?_; cbv; obtain ⟨hc5, h_2⟩ := of_gd h_2; refine AStep.mk hc5 ?_; cbv; obtain ⟨x7, hx7, h_2⟩ := of_gt h_2; try dsimp only at h_2
  refine AGet.mk _ (d_get_I64 hg ht hx7) ?_; cbv; refine AGh.cls 2 1 (nat v2) (d_LI64 y1) _ _ _ _ (d_LI64 y1) rfl rfl ⟨rfl, (dlen_I64 hg ht _)⟩ (dsets_LI64 hg ht hx6) ?_; cbv; refine AGh.nil ?_; cbv
  cases hb5 : (eq x7 x5)
  rotate_left
  ·rw [br_true hb5] at h_2; cbv; refine ⟨v2, Wk.of [(0, some 0), (1, some 1), (2, some 2)] rfl rfl ?_ ?_, (Option.some.inj h_2).symm⟩
   ·cbv; all_goals exact ⟨⟨_, rfl, rfl⟩, ⟨_, rfl, rfl⟩, ⟨_, rfl, rfl⟩, ⟨_, rfl, rfl⟩, ⟨_, rfl, rfl⟩, ⟨_, rfl, rfl⟩, ⟨_, rfl, rfl⟩, ⟨_, rfl, rfl⟩, trivial⟩
   cbv; all_goals exact ⟨⟨_, rfl, _, rfl, rfl, rfl, rfl, trivial⟩, ⟨_, rfl, rfl⟩, ⟨_, rfl, rfl⟩, trivial⟩
  rw [br_false hb5] at h_2; cbv; try rw [hg] at h_2
  try rw [ht] at h_2
  refine ⟨⟨(n2, (wrap .i64 (add v2 1))), h_2⟩, Wk.of [(0, some 0), (1, some 1), (2, some 2)] rfl rfl ?_ ?_, Nat.lt_succ_self _⟩
  ·cbv; all_goals exact ⟨⟨_, rfl, rfl⟩, ⟨_, rfl, rfl⟩, ⟨_, rfl, rfl⟩, ⟨_, rfl, rfl⟩, ⟨_, rfl, rfl⟩, ⟨_, rfl, rfl⟩, ⟨_, rfl, rfl⟩, ⟨_, rfl, rfl⟩, trivial⟩
  cbv; all_goals exact ⟨⟨_, rfl, _, rfl, rfl, rfl, rfl, trivial⟩, ⟨_, rfl, rfl⟩, ⟨_, rfl, rfl⟩, trivial⟩
 rintro y2 hy2; replace hy2 := hy2.symm; subst hy2; try dsimp only [lr, lrL, lrp, lrpL] at h
 cbv; obtain ⟨l4, hl4, h⟩ := of_lP h; try dsimp only at h
 refine ANew.mk (d_Trip l4) (dlen (d_Trip l4)) (by rw [← hl4]; exact lit_Trip hg ht []) (by rw [← hl4]; exact litn_Trip hg ht []) ?_; cbv; obtain ⟨o3, ho3, h⟩ := of_cl h; try dsimp only at h
 try rw [hg] at ho3
 try rw [ht] at ho3
 refine ABL.mk { p : Nat × Int × Int × Int × List Trip // I_wayTo_l3 G.real TE.real (Network.mk a0_Legs a0_Off a0_Change) a1 a2 x1 y1 p.1 p.2.1 p.2.2.1 p.2.2.2.1 p.2.2.2.2 = some o3 } (fun ⟨⟨n3, v3, v4, v5, w2⟩, _⟩ => ({ sl := [(1, .c (.r (r_Fd a1))), (2, .c (.r (.v (.string a2)))), (5, .c (.p 0 3 0 0)), (12, .c (.f 1 1 0 (dlen (d_S x1)))), (13, .c (.r (.v (.int .i64 v3)))), (14, .c (.f 2 1 0 (dlen (d_LI64 y1)))), (17, .c (.r (.v (.int .i64 v4)))), (18, .c (.r (.v (.int .i64 v5)))), (19, .c (.f 3 2 0 (dlen (d_Trip w2))))], tab := [(0, some (.foc 3 [] [.r (.s 6 (r_Leg a0_Legs)), .r (.s 1 (r_I64 a0_Off)), .r (.v (.int .i64 a0_Change))] [])), (1, some (.arr 1 (d_S x1))), (2, some (.arr 1 (d_LI64 y1))), (3, some (.arr 2 (d_Trip w2)))] } : St)) 4 (fun p => p.1.1) ⟨(1000000000, x2, x5, y2, l4), ho3⟩ (List Trip) (fun y3 => ({ sl := [(19, .c (.f 0 2 0 (dlen (d_Trip y3))))], tab := [(0, some (.arr 2 (d_Trip y3)))] } : St)) 1 (fun y => o3 = LR.out y) ?_ ?_ ?_
 ·refine Wk.of [(0, some 0), (1, some 1), (2, some 2), (3, some 3)] rfl rfl ?_ ?_
  ·cbv; all_goals exact ⟨⟨_, rfl, rfl⟩, ⟨_, rfl, rfl⟩, ⟨_, rfl, rfl⟩, ⟨_, rfl, rfl⟩, ⟨_, rfl, rfl⟩, ⟨_, rfl, rfl⟩, ⟨_, rfl, rfl⟩, ⟨_, rfl, rfl⟩, ⟨_, rfl, rfl⟩, trivial⟩
  cbv; all_goals exact ⟨⟨_, rfl, _, rfl, rfl, rfl, rfl, trivial⟩, ⟨_, rfl, rfl⟩, ⟨_, rfl, rfl⟩, ⟨_, rfl, rfl⟩, trivial⟩
 ·rintro ⟨⟨n3, v3, v4, v5, w2⟩, h_3⟩ hq3; try dsimp only at h_3
  clear hq3; rcases n3 with _ | n3
  ·rw [I_wayTo_l3] at h_3; cases h_3
  rw [I_wayTo_l3] at h_3; try rw [← hg] at h_3
  try rw [← ht] at h_3
  try dsimp only at h_3
  cbv
  cases hb6 : (lt 0 v5)
  ·rw [br_false hb6] at h_3; cbv; refine ⟨w2, Wk.of [(0, some 3)] rfl rfl ?_ ?_, (Option.some.inj h_3).symm⟩
   ·cbv; all_goals exact ⟨⟨_, rfl, rfl⟩, trivial⟩
   cbv; all_goals exact ⟨⟨_, rfl, rfl⟩, trivial⟩
  rw [br_true hb6] at h_3; cbv; obtain ⟨x8, hx8, h_3⟩ := of_gt h_3; try dsimp only at h_3
  refine AGh.opn 2 1 (nat (wrap .i64 (sub v5 1))) (d_LI64 y1) _ rfl (d_get_LI64 hg ht hx8) rfl ?_; cbv; refine AGh.nil ?_; cbv; obtain ⟨hc6, h_3⟩ := of_gd h_3; refine AStep.mk hc6 ?_; cbv; refine AStep.mk rfl ?_; cbv; refine AStep.mk ⟨(lend_S ht (dlen_S hg ht _)), (lend_I64 ht (dlen_I64 hg ht _))⟩ ?_; cbv; obtain ⟨x9, hx9, h_3⟩ := of_cl h_3; obtain ⟨⟨x9_1_Leg, x9_1_Day⟩, x9_2⟩ := x9; try dsimp only at h_3
  refine ACall.mk _ _ (by rw [show rd (d_S x1) 0 (dlen (d_S x1)) = r_S x1 from rdw_S hg ht (dlen_S hg ht _), show rd (d_I64 x8) 0 (dlen (d_I64 x8)) = r_I64 x8 from rdw_I64 hg ht (dlen_I64 hg ht _)]; try rfl) (hF _ _ _ (c_I_lastLeg hg ht hx9)) (.inr (by simp only [Go.Vs.X.fresh, Go.Vs.X.freshs, freshD, freshDs, Bool.and_self, Trip.ds])) (Nat.le_of_ble_eq_true rfl) ?_
  cbv; refine AGh.cls 2 1 (nat (wrap .i64 (sub v5 1))) (d_LI64 y1) _ _ _ _ (d_LI64 y1) rfl rfl ⟨rfl, (dlen_I64 hg ht _)⟩ (dsets_LI64 hg ht hx8) ?_; cbv; refine AGh.nil ?_; cbv
  cases hb7 : x9_2
  ·rw [br_false hb7] at h_3; cbv; obtain rfl := Option.some.inj h_3; try dsimp only [lr, lrL, lrp, lrpL] at h
   obtain rfl := Option.some.inj h; exact ARet.mk trivial (by rw [hX]; first | rfl | (simp only [Leg.ds, Network.ds, Trip.ds, Scan.ds, Booking.ds, Spot.ds, hnil_Trip]; try rfl))
  rw [br_true hb7] at h_3; cbv; obtain ⟨l5, hl5, h_3⟩ := of_lP h_3; try dsimp only at h_3
  refine ANew.mk (d_Trip l5) (dlen (d_Trip l5)) (by rw [← hl5]; exact lit_Trip hg ht [(Trip.mk x9_1_Leg x9_1_Day)]) (by rw [← hl5]; exact litn_Trip hg ht [(Trip.mk x9_1_Leg x9_1_Day)]) ?_; cbv; obtain ⟨hc10, h_3⟩ := of_gd h_3; refine AStep.mk ⟨⟨rfl, (dlen_Trip hg ht _)⟩, (app_ok_Trip hg ht (dlen_Trip hg ht _) rfl hc10)⟩ ?_; cbv; obtain ⟨l6, hl6, h_3⟩ := of_lP h_3; try dsimp only at h_3
  refine ANew.mk (d_Trip l6) (dlen (d_Trip l6)) (by rw [← hl6]; exact app_Trip hg ht (dlen_Trip hg ht _) rfl) (by rw [← hl6]; exact appl_Trip hg ht (dlen_Trip hg ht _) rfl) ?_; cbv; obtain ⟨hc7, h_3⟩ := of_gd h_3; refine AStep.mk hc7 ?_; cbv; obtain ⟨x10, hx10, h_3⟩ := of_gt h_3; obtain ⟨x10_From, x10_To, x10_Start, x10_Takes, x10_Days, x10_Room⟩ := x10; try dsimp only at h_3
  refine AGet.mk _ (r_get_Leg hg ht hx10) ?_; cbv; refine AStep.mk (lend_S ht (dlen_S hg ht _)) ?_; cbv; obtain ⟨x11, hx11, h_3⟩ := of_lP h_3; try dsimp only at h_3
  refine ACall.mk _ _ (by rw [show rd (d_S x1) 0 (dlen (d_S x1)) = r_S x1 from rdw_S hg ht (dlen_S hg ht _)]; try rfl) (hF _ _ _ (c_I_placeAt hg ht hx11)) (.inr rfl) (Nat.le_of_ble_eq_true rfl) ?_
  cbv; refine AGh.opn 2 1 (nat (wrap .i64 (sub v5 1))) (d_LI64 y1) _ rfl (d_get_LI64 hg ht hx8) rfl ?_; cbv; refine AGh.nil ?_; cbv; obtain ⟨hc8, h_3⟩ := of_gd h_3; refine AStep.mk hc8 ?_; cbv; refine AStep.mk rfl ?_; cbv; obtain ⟨hc9, h_3⟩ := of_gd h_3; refine AStep.mk hc9 ?_; cbv; obtain ⟨x12, hx12, h_3⟩ := of_gt h_3; try dsimp only at h_3
  refine AGet.mk _ (d_get_I64 hg ht hx12) ?_; cbv; refine AGh.cls 2 1 (nat (wrap .i64 (sub v5 1))) (d_LI64 y1) _ _ _ _ (d_LI64 y1) rfl rfl ⟨rfl, (dlen_I64 hg ht _)⟩ (dsets_LI64 hg ht hx8) ?_; cbv; refine AGh.nil ?_; cbv; try rw [hg] at h_3
  try rw [ht] at h_3
  refine ⟨⟨(n3, x11, x12, (wrap .i64 (sub v5 1)), l6), h_3⟩, Wk.of [(0, some 0), (1, some 1), (2, some 2), (3, some 420)] rfl rfl ?_ ?_, Nat.lt_succ_self _⟩
  ·cbv; all_goals exact ⟨⟨_, rfl, rfl⟩, ⟨_, rfl, rfl⟩, ⟨_, rfl, rfl⟩, ⟨_, rfl, rfl⟩, ⟨_, rfl, rfl⟩, ⟨_, rfl, rfl⟩, ⟨_, rfl, rfl⟩, ⟨_, rfl, rfl⟩, ⟨_, rfl, rfl⟩, trivial⟩
  cbv; all_goals exact ⟨⟨_, rfl, _, rfl, rfl, rfl, rfl, trivial⟩, ⟨_, rfl, rfl⟩, ⟨_, rfl, rfl⟩, ⟨_, rfl, rfl⟩, trivial⟩
 rintro y3 hy3; replace hy3 := hy3.symm; subst hy3; try dsimp only [lr, lrL, lrp, lrpL] at h
 cbv; obtain ⟨l7, hl7, h⟩ := of_lP h; try dsimp only at h
 refine ANew.mk (d_Trip l7) (dlen (d_Trip l7)) (by rw [← hl7]; exact lit_Trip hg ht []) (by rw [← hl7]; exact litn_Trip hg ht []) ?_; cbv; obtain ⟨o4, ho4, h⟩ := of_cl h; try dsimp only at h
 try rw [hg] at ho4
 try rw [ht] at ho4
 refine ABL.mk { p : Nat × (List Trip) × Int // I_wayTo_l4 G.real TE.real y3 p.1 p.2.1 p.2.2 = some o4 } (fun ⟨⟨n4, w3, v6⟩, _⟩ => ({ sl := [(19, .c (.f 0 2 0 (dlen (d_Trip y3)))), (22, .c (.f 1 2 0 (dlen (d_Trip w3)))), (23, .c (.r (.v (.int .i64 v6))))], tab := [(0, some (.arr 2 (d_Trip y3))), (1, some (.arr 2 (d_Trip w3)))] } : St)) 2 (fun p => p.1.1) ⟨(1000000000, l7, (wrap .i64 (sub (int (dlen (d_Trip y3))) 1))), ho4⟩ (List Trip) (fun y4 => ({ sl := [(22, .c (.f 0 2 0 (dlen (d_Trip y4))))], tab := [(0, some (.arr 2 (d_Trip y4)))] } : St)) 1 (fun y => o4 = y) ?_ ?_ ?_
 ·refine Wk.of [(0, some 0), (1, some 1)] rfl rfl ?_ ?_
  ·cbv; all_goals exact ⟨⟨_, rfl, rfl⟩, ⟨_, rfl, rfl⟩, ⟨_, rfl, rfl⟩, trivial⟩
  cbv; all_goals exact ⟨⟨_, rfl, rfl⟩, ⟨_, rfl, rfl⟩, trivial⟩
 ·rintro ⟨⟨n4, w3, v6⟩, h_4⟩ hq4; try dsimp only at h_4
  clear hq4; rcases n4 with _ | n4
  ·rw [I_wayTo_l4] at h_4; cases h_4
  rw [I_wayTo_l4] at h_4; try rw [← hg] at h_4
  try rw [← ht] at h_4
  try dsimp only at h_4
  cbv
  cases hb8 : (le 0 v6)
  ·rw [br_false hb8] at h_4; cbv; refine ⟨w3, Wk.of [(0, some 1)] rfl rfl ?_ ?_, (Option.some.inj h_4).symm⟩
   ·cbv; all_goals exact ⟨⟨_, rfl, rfl⟩, trivial⟩
   cbv; all_goals exact ⟨⟨_, rfl, rfl⟩, trivial⟩
  rw [br_true hb8] at h_4; cbv; obtain ⟨hc11, h_4⟩ := of_gd h_4; refine AStep.mk hc11 ?_; cbv; obtain ⟨x13, hx13, h_4⟩ := of_gt h_4; obtain ⟨x13_Leg, x13_Day⟩ := x13; try dsimp only at h_4
  refine AGet.mk _ (d_get_Trip hg ht hx13) ?_; cbv; obtain ⟨l8, hl8, h_4⟩ := of_lP h_4; try dsimp only at h_4
  refine ANew.mk (d_Trip l8) (dlen (d_Trip l8)) (by rw [← hl8]; exact lit_Trip hg ht [(Trip.mk x13_Leg x13_Day)]) (by rw [← hl8]; exact litn_Trip hg ht [(Trip.mk x13_Leg x13_Day)]) ?_; cbv; obtain ⟨hc12, h_4⟩ := of_gd h_4; refine AStep.mk ⟨⟨rfl, (dlen_Trip hg ht _)⟩, (app_ok_Trip hg ht (dlen_Trip hg ht _) rfl hc12)⟩ ?_; cbv; obtain ⟨l9, hl9, h_4⟩ := of_lP h_4; try dsimp only at h_4
  refine ANew.mk (d_Trip l9) (dlen (d_Trip l9)) (by rw [← hl9]; exact app_Trip hg ht (dlen_Trip hg ht _) rfl) (by rw [← hl9]; exact appl_Trip hg ht (dlen_Trip hg ht _) rfl) ?_; cbv; try rw [hg] at h_4
  try rw [ht] at h_4
  refine ⟨⟨(n4, l9, (wrap .i64 (sub v6 1))), h_4⟩, Wk.of [(0, some 0), (1, some 130)] rfl rfl ?_ ?_, Nat.lt_succ_self _⟩
  ·cbv; all_goals exact ⟨⟨_, rfl, rfl⟩, ⟨_, rfl, rfl⟩, ⟨_, rfl, rfl⟩, trivial⟩
  cbv; all_goals exact ⟨⟨_, rfl, rfl⟩, ⟨_, rfl, rfl⟩, trivial⟩
 rintro y4 hy4; replace hy4 := hy4.symm; subst hy4; try dsimp only [lr, lrL, lrp, lrpL] at h
 cbv; obtain rfl := Option.some.inj h; exact ARet.mk ⟨rfl, (dlen_Trip hg ht _)⟩ hX.symm
def ir28 : J := .seq (.reg none [⟨some 7, none, .box (.t 0)⟩,⟨some 14, none, .mv (.k (.c (.n 2)))⟩,⟨some 15, none, .mv (.k (V.b false))⟩] [1, 2, 3, 4, 5, 6, 7]) (.seq (.seq (.reg none [⟨some 18, none, .ld true 3 (.t 7)⟩,⟨some 19, none, .mv (.t 1)⟩,⟨some 20, none, .call 52 true [(.t 18), (.t 19)]⟩,⟨some 21, none, .not (.t 20)⟩,⟨some 22, none, .mv (.t 21)⟩,⟨some 23, (some (22, false)), .mv (.t 6)⟩,⟨some 24, (some (22, false)), .bin .lss .i (.t 23) (.k (V.i 1))⟩,⟨some 25, none, .pick (.t 22) (.k (V.b true)) (.t 24)⟩] [1, 2, 3, 4, 5, 6, 7, 25]) (.cond (.t 25) (.seq (.reg none [⟨some 14, none, .mv (.k (.c (.n 2)))⟩,⟨some 15, none, .mv (.k (V.b false))⟩] [14, 15]) (.ret)) (.skip))) (.seq (.reg (some [[], [], [], [], [], [1, 2, 3, 4], [], [], [], [0, 1, 2, 3, 4, 5, 6, 7, 8], [0, 1, 2, 3, 4, 5, 6, 7, 8, 9], [0, 1, 2, 3, 4, 5, 6, 7, 8, 9, 10], [0, 1, 2, 3, 4, 5, 6, 7, 8, 9, 10], [0, 1, 2, 3, 4, 5, 6, 7, 8, 9, 10, 11], [0, 1, 2, 3, 4, 5, 6, 7, 8, 9, 10, 11, 12, 13]]) [⟨some 27, none, .ld true 3 (.t 7)⟩,⟨some 28, none, .ld true 3 (.t 7)⟩,⟨some 29, none, .mv (.t 1)⟩,⟨some 30, none, .mv (.t 2)⟩,⟨some 31, none, .mv (.t 6)⟩,⟨some 32, none, .call 54 true [(.t 28), (.t 29), (.t 30), (.t 31)]⟩,⟨some 33, none, .mv (.t 3)⟩,⟨some 34, none, .mv (.t 4)⟩,⟨some 35, none, .mv (.t 5)⟩,⟨some 36, none, .call 59 true [(.t 27), (.t 32), (.t 33), (.t 34), (.t 35)]⟩,⟨some 26, none, .mv (.t 36)⟩,⟨some 37, none, .ext 0 (.t 26)⟩,⟨some 38, none, .ext 1 (.t 26)⟩,⟨some 16, none, .mv (.t 37)⟩,⟨some 17, none, .mv (.t 38)⟩] [16, 17]) (.seq (.reg none [⟨some 39, none, .mv (.t 16)⟩,⟨some 40, none, .mv (.t 17)⟩,⟨some 14, none, .mv (.t 39)⟩,⟨some 15, none, .mv (.t 40)⟩] [14, 15]) (.ret))))
def rv28 : List RV := [.t 14, .t 15]
def I_FindRoom (g : G) (t : TE) (a0 : Network) (a1 : List Booking) (a2 : List Trip) (a3 : ByteArray) (a4 : ByteArray) (a5 : Int) (a6 : Int) : Option ((List Trip) × Bool) :=
  cl (I_AreBookings g t a0 a1) fun x1 =>
  br x1
  (
   br (g.lt a6 1)
   (
    some (([], false)))
   (
    lP (I_freeOf g t a0 a1 a2 a6) fun x2 =>
    cl (I_wayTo g t a0 x2 a3 a4 a5) fun x3 =>
    some ((x3.1, x3.2))))
  (
   some (([], false)))
theorem c_I_FindRoom {g : G} {t : TE} {a0 : Network} {a1 : List Booking} {a2 : List Trip} {a3 : ByteArray} {a4 : ByteArray} {a5 : Int} {a6 : Int} {r : (List Trip) × Bool} (hg : g = G.real) (ht : t = TE.real) (h : I_FindRoom g t a0 a1 a2 a3 a4 a5 a6 = some r) : Fn Try.prog 28 [.g (Network.rs t a0), .c (.s 4 (t.r_Booking a1)), .c (.s 2 (t.r_Trip a2)), .c (.v (.string a3)), .c (.v (.string a4)), .c (.v (.int .i64 a5)), .c (.v (.int .i64 a6))] (.u [.c (.o 2 (t.d_Trip r.1)), .c (.r (.v (.bool r.2)))]) := by
 obtain ⟨X, hX⟩ := hide (.u [.c (.o 2 (t.d_Trip r.1)), .c (.r (.v (.bool r.2)))] : X); rw [← hX]; refine fn_of (rvs := rv28) (j := ir28) Try.func28 rfl (by kernel_rfl) (Nat.le_of_ble_eq_true rfl) (by kernel_rfl) prog_mixed ?_; intro g2 F hg2 hF; obtain rfl : g2 = g := hg2.unique.trans hg.symm; clear hg2; obtain ⟨_, lt, _, _, _, _, _, _, _, _, _, _, _, _, _, _, _, _, _, _, _, _, _, _, _, _, _, _, _, _, _, _, _, _, _, _, _, _, _, _, _, _, _, _⟩ := g2; obtain ⟨_, _, _, _, _, _, _, d_Trip, _, _, _, _, _, _, _⟩ := t
 obtain ⟨a0_Legs, a0_Off, a0_Change⟩ := a0; have hnil_Trip : d_Trip [] = [] := d_nil_Trip ht; unfold I_FindRoom at h; try dsimp only at h
 cbv; obtain ⟨x1, hx1, h⟩ := of_cl h; try dsimp only at h
 refine ACall.mk _ _ rfl (hF _ _ _ (c_I_AreBookings hg ht hx1)) (.inl rfl) (Nat.le_of_ble_eq_true rfl) ?_; cbv
 cases hb1 : x1
 ·rw [br_false hb1] at h; cbv; iterate 2 try (rw [hb1]; cbv)
  obtain rfl := Option.some.inj h; exact ARet.mk trivial (by rw [hX]; first | rfl | (simp only [Leg.ds, Network.ds, Trip.ds, Scan.ds, Booking.ds, Spot.ds, hnil_Trip]; try rfl))
 rw [br_true hb1] at h; cbv; iterate 2 try (rw [hb1]; cbv)
 cases hb2 : (lt a6 1)
 rotate_left
 ·rw [br_true hb2] at h; cbv; obtain rfl := Option.some.inj h; exact ARet.mk trivial (by rw [hX]; first | rfl | (simp only [Leg.ds, Network.ds, Trip.ds, Scan.ds, Booking.ds, Spot.ds, hnil_Trip]; try rfl))
 rw [br_false hb2] at h; cbv; obtain ⟨x2, hx2, h⟩ := of_lP h; try dsimp only at h
 refine ACall.mk _ _ rfl (hF _ _ _ (c_I_freeOf hg ht hx2)) (.inl rfl) (Nat.le_of_ble_eq_true rfl) ?_; cbv; obtain ⟨x3, hx3, h⟩ := of_cl h; obtain ⟨x3_1, x3_2⟩ := x3; try dsimp only at h
 refine ACall.mk _ _ rfl (hF _ _ _ (c_I_wayTo hg ht hx3)) (.inl rfl) (Nat.le_of_ble_eq_true rfl) ?_; cbv; obtain rfl := Option.some.inj h; exact ARet.mk ⟨rfl, (dlen_Trip hg ht _)⟩ hX.symm
def ir5 : J := .seq (.reg none [⟨some 7, none, .box (.t 0)⟩,⟨some 14, none, .mv (.k (V.b false))⟩] [1, 2, 3, 4, 5, 6, 7]) (.seq (.seq (.reg none [⟨some 28, none, .mv (.t 3)⟩,⟨some 29, none, .len true (.t 28)⟩,⟨some 30, none, .bin .gtr .i (.t 29) (.k (V.i 1048576))⟩] [1, 2, 3, 4, 5, 6, 7, 30]) (.cond (.t 30) (.seq (.reg none [⟨some 14, none, .mv (.k (V.b true))⟩] [14]) (.ret)) (.skip))) (.seq (.seq (.reg none [⟨some 31, none, .mv (.t 4)⟩,⟨some 32, none, .len true (.t 31)⟩,⟨some 33, none, .bin .gtr .i (.t 32) (.k (V.i 1048576))⟩] [1, 2, 3, 4, 5, 6, 7, 33]) (.cond (.t 33) (.seq (.reg none [⟨some 14, none, .mv (.k (V.b true))⟩] [14]) (.ret)) (.skip))) (.seq (.reg none [⟨some 15, none, .mv (.k (V.i 1048576))⟩] [1, 2, 3, 4, 5, 6, 7, 15]) (.seq (.reg none [⟨some 34, none, .ld true 3 (.t 7)⟩,⟨some 35, none, .mv (.t 15)⟩,⟨some 36, none, .call 6 true [(.t 34), (.t 35)]⟩,⟨some 15, none, .mv (.t 36)⟩] [1, 2, 3, 4, 5, 6, 7, 15]) (.seq (.seq (.reg none [⟨some 37, none, .mv (.t 15)⟩,⟨some 38, none, .bin .lss .i (.t 37) (.k (V.i 0))⟩] [1, 2, 3, 4, 5, 6, 7, 15, 38]) (.cond (.t 38) (.seq (.reg none [⟨some 14, none, .mv (.k (V.b true))⟩] [14]) (.ret)) (.skip))) (.seq (.reg none [⟨some 39, none, .mv (.t 1)⟩,⟨some 40, none, .mv (.t 15)⟩,⟨some 41, none, .call 13 true [(.t 39), (.t 40)]⟩,⟨some 15, none, .mv (.t 41)⟩] [1, 2, 3, 4, 5, 6, 7, 15]) (.seq (.seq (.reg none [⟨some 42, none, .mv (.t 15)⟩,⟨some 43, none, .bin .lss .i (.t 42) (.k (V.i 0))⟩] [1, 2, 3, 4, 5, 6, 7, 15, 43]) (.cond (.t 43) (.seq (.reg none [⟨some 14, none, .mv (.k (V.b true))⟩] [14]) (.ret)) (.skip))) (.seq (.reg none [⟨some 44, none, .mv (.t 2)⟩,⟨some 45, none, .mv (.t 15)⟩,⟨some 46, none, .call 14 true [(.t 44), (.t 45)]⟩,⟨some 15, none, .mv (.t 46)⟩] [1, 2, 3, 4, 5, 6, 7, 15]) (.seq (.seq (.reg none [⟨some 47, none, .mv (.t 15)⟩,⟨some 48, none, .bin .lss .i (.t 47) (.k (V.i 0))⟩] [1, 2, 3, 4, 5, 6, 7, 48]) (.cond (.t 48) (.seq (.reg none [⟨some 14, none, .mv (.k (V.b true))⟩] [14]) (.ret)) (.skip))) (.seq (.reg none [⟨some 50, none, .ld true 3 (.t 7)⟩,⟨some 51, none, .call 9 false [(.t 50)]⟩,⟨some 52, none, .mv (.t 1)⟩,⟨some 53, none, .call 16 false [(.t 52)]⟩,⟨some 54, none, .mv (.t 2)⟩,⟨some 55, none, .call 17 false [(.t 54)]⟩,⟨some 56, none, .mv (.t 3)⟩,⟨some 57, none, .mv (.t 4)⟩,⟨some 58, none, .mv (.t 5)⟩,⟨some 59, none, .mv (.t 6)⟩,⟨some 60, none, .call 27 false [(.t 51), (.t 53), (.t 55), (.t 56), (.t 57), (.t 58), (.t 59)]⟩,⟨some 49, none, .mv (.t 60)⟩,⟨some 61, none, .ext 0 (.t 49)⟩,⟨some 62, none, .ext 1 (.t 49)⟩,⟨some 16, none, .mv (.t 61)⟩,⟨some 17, none, .mv (.t 62)⟩] [1, 2, 3, 4, 5, 6, 7, 16, 17]) (.seq (.reg none [⟨some 63, none, .ld true 3 (.t 7)⟩,⟨some 64, none, .call 9 true [(.t 63)]⟩,⟨some 18, none, .alloc [.n 6, .n 1, .r (.v (.int .i64 0))]⟩,⟨none, none, .st 3 (.t 18) (.t 64)⟩] [1, 2, 3, 4, 5, 6, 7, 16, 17, 18]) (.seq (.reg none [⟨some 65, none, .mv (.t 1)⟩,⟨some 66, none, .call 16 true [(.t 65)]⟩,⟨some 19, none, .mv (.t 66)⟩] [1, 2, 3, 4, 5, 6, 7, 16, 17, 18, 19]) (.seq (.reg
 none [⟨some 67, none, .mv (.t 2)⟩,⟨some 68, none, .call 17 true [(.t 67)]⟩,⟨some 20, none, .mv (.t 68)⟩] [1, 2, 3, 4, 5, 6, 7, 16, 17, 18, 19, 20]) (.seq (.reg none [⟨some 70, none, .ld true 3 (.t 18)⟩,⟨some 71, none, .mv (.t 19)⟩,⟨some 72, none, .mv (.t 20)⟩,⟨some 73, none, .mv (.t 3)⟩,⟨some 74, none, .mv (.t 4)⟩,⟨some 75, none, .mv (.t 5)⟩,⟨some 76, none, .mv (.t 6)⟩,⟨some 77, none, .call 28 true [(.t 70), (.t 71), (.t 72), (.t 73), (.t 74), (.t 75), (.t 76)]⟩,⟨some 69, none, .mv (.t 77)⟩,⟨some 78, none, .ext 0 (.t 69)⟩,⟨some 79, none, .ext 1 (.t 69)⟩,⟨some 21, none, .mv (.t 78)⟩,⟨some 22, none, .mv (.t 79)⟩] [1, 2, 3, 4, 5, 6, 7, 16, 17, 18, 19, 20, 21, 22]) (.seq (.seq (.reg none [⟨some 80, none, .mv (.t 21)⟩,⟨some 81, none, .mv (.t 16)⟩,⟨some 82, none, .call 21 true [(.t 80), (.t 81)]⟩,⟨some 83, none, .not (.t 82)⟩,⟨some 84, none, .mv (.t 83)⟩,⟨some 85, (some (84, false)), .mv (.t 22)⟩,⟨some 86, (some (84, false)), .mv (.t 17)⟩,⟨some 87, (some (84, false)), .bin .neq .b (.t 85) (.t 86)⟩,⟨some 88, none, .pick (.t 84) (.k (V.b true)) (.t 87)⟩] [1, 2, 3, 4, 5, 6, 7, 16, 17, 18, 19, 20, 21, 22, 88]) (.cond (.t 88) (.seq (.reg none [⟨some 14, none, .mv (.k (V.b false))⟩] [14]) (.ret)) (.skip))) (.seq (.seq (.reg (some [[], [], [1], [0, 1, 2], [0, 1, 2, 3]]) [⟨some 89, none, .ld true 3 (.t 18)⟩,⟨some 90, none, .ld true 3 (.t 7)⟩,⟨some 91, none, .call 9 false [(.t 90)]⟩,⟨some 92, none, .call 12 true [(.t 89), (.t 91)]⟩,⟨some 93, none, .not (.t 92)⟩] [1, 2, 3, 4, 5, 6, 7, 16, 17, 18, 19, 20, 21, 22, 93]) (.cond (.t 93) (.seq (.reg none [⟨some 14, none, .mv (.k (V.b false))⟩] [14]) (.ret)) (.skip))) (.seq (.seq (.reg none [⟨some 94, none, .mv (.t 19)⟩,⟨some 95, none, .mv (.t 1)⟩,⟨some 96, none, .call 16 false [(.t 95)]⟩,⟨some 97, none, .call 20 true [(.t 94), (.t 96)]⟩,⟨some 98, none, .not (.t 97)⟩] [1, 2, 3, 4, 5, 6, 7, 16, 17, 18, 19, 20, 21, 22, 98]) (.cond (.t 98) (.seq (.reg none [⟨some 14, none, .mv (.k (V.b false))⟩] [14]) (.ret)) (.skip))) (.seq (.seq (.reg none [⟨some 99, none, .mv (.t 20)⟩,⟨some 100, none, .mv (.t 2)⟩,⟨some 101, none, .call 17 false [(.t 100)]⟩,⟨some 102, none, .call 21 true [(.t 99), (.t 101)]⟩,⟨some 103, none, .not (.t 102)⟩] [1, 2, 3, 4, 5, 6, 7, 16, 17, 18, 19, 20, 21, 22, 103]) (.cond (.t 103) (.seq (.reg none [⟨some 14, none, .mv (.k (V.b false))⟩] [14]) (.ret)) (.skip))) (.seq (.reg none [⟨some 23, none, .mv (.k (V.i 1))⟩] [1, 2, 3, 4, 5, 6, 7, 16, 17, 18, 19, 20, 21, 22, 23]) (.seq (.reg none [⟨some 104, none, .ld true 3 (.t 18)⟩,⟨some 105, none, .mv (.t 23)⟩,⟨some 106, none, .callm 22 (.t 104) [(.t 105)]⟩,⟨some 23, none, .mv (.t 106)⟩] [1, 2, 3, 4, 5, 6, 7, 16, 17, 19, 20, 21, 22, 23]) (.seq (.reg none [⟨some 107, none, .mv (.t 19)⟩,⟨some 108, none, .mv (.t 23)⟩,⟨some 109, none, .callm 23 (.t 107) [(.t 108)]⟩,⟨some 23, none, .mv (.t 109)⟩] [1, 2, 3, 4, 5, 6, 7, 16, 17, 20, 21, 22, 23]) (.seq (.reg none [⟨some 110, none, .mv (.t 20)⟩,⟨some 111, none, .mv (.t 23)⟩,⟨some 112, none, .callm 24 (.t 110) [(.t 111)]⟩,⟨some
 23, none, .mv (.t 112)⟩] [1, 2, 3, 4, 5, 6, 7, 16, 17, 21, 22, 23]) (.seq (.seq (.reg none [⟨some 113, none, .mv (.t 23)⟩,⟨some 114, none, .bin .lss .i (.t 113) (.k (V.i 0))⟩,⟨some 115, none, .mv (.t 114)⟩,⟨some 116, (some (115, false)), .mv (.t 21)⟩,⟨some 117, (some (115, false)), .mv (.t 16)⟩,⟨some 118, (some (115, false)), .call 21 true [(.t 116), (.t 117)]⟩,⟨some 119, (some (115, false)), .not (.t 118)⟩,⟨some 120, none, .pick (.t 115) (.k (V.b true)) (.t 119)⟩,⟨some 121, none, .mv (.t 120)⟩,⟨some 122, (some (121, false)), .mv (.t 22)⟩,⟨some 123, (some (121, false)), .mv (.t 17)⟩,⟨some 124, (some (121, false)), .bin .neq .b (.t 122) (.t 123)⟩,⟨some 125, none, .pick (.t 121) (.k (V.b true)) (.t 124)⟩] [1, 2, 3, 4, 5, 6, 7, 16, 17, 21, 125]) (.cond (.t 125) (.seq (.reg none [⟨some 14, none, .mv (.k (V.b false))⟩] [14]) (.ret)) (.skip))) (.seq (.reg none [⟨some 24, none, .mv (.k (V.i 1))⟩] [1, 2, 3, 4, 5, 6, 7, 16, 17, 21, 24]) (.seq (.reg none [⟨some 126, none, .mv (.t 21)⟩,⟨some 127, none, .mv (.t 24)⟩,⟨some 128, none, .callm 24 (.t 126) [(.t 127)]⟩,⟨some 24, none, .mv (.t 128)⟩] [1, 2, 3, 4, 5, 6, 7, 16, 17, 21, 24]) (.seq (.reg none [⟨some 25, none, .mv (.k (V.i 1))⟩] [1, 2, 3, 4, 5, 6, 7, 16, 17, 21, 24, 25]) (.seq (.reg none [⟨some 129, none, .mv (.t 21)⟩,⟨some 130, none, .mv (.t 25)⟩,⟨some 131, none, .call 29 true [(.t 129), (.t 130)]⟩,⟨some 25, none, .mv (.t 131)⟩] [1, 2, 3, 4, 5, 6, 7, 16, 17, 21, 24, 25]) (.seq (.seq (.reg none [⟨some 132, none, .mv (.t 25)⟩,⟨some 133, none, .bin .lss .i (.t 132) (.k (V.i 0))⟩] [1, 2, 3, 4, 5, 6, 7, 16, 17, 21, 24, 25, 133]) (.cond (.t 133) (.seq (.reg none [⟨some 14, none, .mv (.k (V.b false))⟩] [14]) (.ret)) (.skip))) (.seq (.seq (.reg none [⟨some 134, none, .mv (.t 25)⟩,⟨some 135, none, .mv (.t 24)⟩,⟨some 136, none, .bin .neq .i (.t 134) (.t 135)⟩] [1, 2, 3, 4, 5, 6, 7, 16, 17, 21, 24, 136]) (.cond (.t 136) (.seq (.reg none [⟨some 14, none, .mv (.k (V.b false))⟩] [14]) (.ret)) (.skip))) (.seq (.reg none [⟨some 138, none, .ld true 3 (.t 7)⟩,⟨some 139, none, .call 9 false [(.t 138)]⟩,⟨some 140, none, .mv (.t 1)⟩,⟨some 141, none, .call 16 false [(.t 140)]⟩,⟨some 142, none, .mv (.t 2)⟩,⟨some 143, none, .call 17 false [(.t 142)]⟩,⟨some 144, none, .mv (.t 3)⟩,⟨some 145, none, .mv (.t 4)⟩,⟨some 146, none, .mv (.t 5)⟩,⟨some 147, none, .mv (.t 6)⟩,⟨some 148, none, .call 28 false [(.t 139), (.t 141), (.t 143), (.t 144), (.t 145), (.t 146), (.t 147)]⟩,⟨some 137, none, .mv (.t 148)⟩,⟨some 149, none, .ext 0 (.t 137)⟩,⟨some 150, none, .ext 1 (.t 137)⟩,⟨some 26, none, .mv (.t 149)⟩,⟨some 27, none, .mv (.t 150)⟩] [16, 17, 21, 24, 26, 27]) (.seq (.seq (.reg none [⟨some 151, none, .mv (.t 26)⟩,⟨some 152, none, .mv (.t 16)⟩,⟨some 153, none, .call 21 true [(.t 151), (.t 152)]⟩,⟨some 154, none, .not (.t 153)⟩,⟨some 155, none, .mv (.t 154)⟩,⟨some 156, (some (155, false)), .mv (.t 27)⟩,⟨some 157, (some (155, false)), .mv (.t 17)⟩,⟨some 158, (some (155, false)), .bin .neq .b (.t 156) (.t 157)⟩,⟨some 159, none, .pick (.t 155)
 (.k (V.b true)) (.t 158)⟩] [21, 24, 159]) (.cond (.t 159) (.seq (.reg none [⟨some 14, none, .mv (.k (V.b false))⟩] [14]) (.ret)) (.skip))) (.seq (.reg none [⟨some 25, none, .mv (.k (V.i 1))⟩] [21, 24, 25]) (.seq (.reg none [⟨some 160, none, .mv (.t 21)⟩,⟨some 161, none, .mv (.t 25)⟩,⟨some 162, none, .call 29 true [(.t 160), (.t 161)]⟩,⟨some 25, none, .mv (.t 162)⟩] [24, 25]) (.seq (.seq (.reg none [⟨some 163, none, .mv (.t 25)⟩,⟨some 164, none, .bin .lss .i (.t 163) (.k (V.i 0))⟩] [24, 25, 164]) (.cond (.t 164) (.seq (.reg none [⟨some 14, none, .mv (.k (V.b false))⟩] [14]) (.ret)) (.skip))) (.seq (.seq (.reg none [⟨some 165, none, .mv (.t 25)⟩,⟨some 166, none, .mv (.t 24)⟩,⟨some 167, none, .bin .neq .i (.t 165) (.t 166)⟩] [167]) (.cond (.t 167) (.seq (.reg none [⟨some 14, none, .mv (.k (V.b false))⟩] [14]) (.ret)) (.skip))) (.seq (.reg none [⟨some 14, none, .mv (.k (V.b true))⟩] [14]) (.ret)))))))))))))))))))))))))))))))))))))
def rv5 : List RV := [.t 14]
def L_FnExactFindRoom (g : G) (t : TE) (a0 : Network) (a1 : List Booking) (a2 : List Trip) (a3 : ByteArray) (a4 : ByteArray) (a5 : Int) (a6 : Int) : Option Bool :=
  br (g.lt 1048576 (g.int (g.slen a3)))
  (
   some true)
  (
   br (g.lt 1048576 (g.int (g.slen a4)))
   (
    some true)
   (
    lP (L_szNetwork g t a0 1048576) fun x1 =>
    br (g.lt x1 0)
    (
     some true)
    (
     lP (L_szBookingS g t a1 x1) fun x2 =>
     br (g.lt x2 0)
     (
      some true)
     (
      lP (L_szTripS g t a2 x2) fun x3 =>
      br (g.lt x3 0)
      (
       some true)
      (
       cl (L_toNetwork g t a0) fun x4 =>
       cl (L_toBookingS g t a1) fun x5 =>
       cl (L_toTripS g t a2) fun x6 =>
       cl (S_FindRoom g t x4 x5 x6 a3 a4 a5 a6) fun x7 =>
       cl (L_toNetwork g t a0) fun x8 =>
       cl (L_toBookingS g t a1) fun x9 =>
       cl (L_toTripS g t a2) fun x10 =>
       cl (I_FindRoom g t x8 x9 x10 a3 a4 a5 a6) fun x11 =>
       cl (L_eqTripS g t x11.1 x7.1) fun x12 =>
       br x12
       (
        br x11.2
        (
         br x7.2
         (
          cl (L_toNetwork g t a0) fun x13 =>
          cl (L_eqNetwork g t x8 x13) fun x14 =>
          br x14
          (
           cl (L_toBookingS g t a1) fun x15 =>
           cl (L_eqBookingS g t x9 x15) fun x16 =>
           br x16
           (
            cl (L_toTripS g t a2) fun x17 =>
            cl (L_eqTripS g t x10 x17) fun x18 =>
            br x18
            (
             cl (L_markNetwork g t x8 1) fun x19 =>
             gd ((x19.2.Legs.length = x8.Legs.length)) <|
             gd ((x19.2.Off.length = x8.Off.length)) <|
             cl (L_markBookingS g t x9 x19.1) fun x20 =>
             gd ((x20.2.length = x9.length)) <|
             cl (L_markTripS g t x10 x20.1) fun x21 =>
             gd ((x21.2.length = x10.length)) <|
             br (g.lt x21.1 0)
             (
              some false)
             (
              cl (L_eqTripS g t x11.1 x7.1) fun x22 =>
              br x22
              (
               cl (L_markTripS g t x11.1 1) fun x23 =>
               gd ((x23.2.length = x11.1.length)) <|
               lP (L_heldTripS g t x23.2 1) fun x24 =>
               br (g.lt x24 0)
               (
                some false)
               (
                br (g.eq x24 x23.1)
                (
                 cl (L_toNetwork g t a0) fun x25 =>
                 cl (L_toBookingS g t a1) fun x26 =>
                 cl (L_toTripS g t a2) fun x27 =>
                 cl (I_FindRoom g t x25 x26 x27 a3 a4 a5 a6) fun x28 =>
                 cl (L_eqTripS g t x28.1 x7.1) fun x29 =>
                 br x29
                 (
                  br x28.2
                  (
                   lP (L_heldTripS g t x23.2 1) fun x30 =>
                   br (g.lt x30 0)
                   (
                    some false)
                   (
                    br (g.eq x30 x23.1)
                    (
                     some true)
                    (
                     some false)))
                  (
                   some false))
                 (
                  some false))
                (
                 some false)))
              (
               some false)))
            (
             some false))
           (
            some false))
          (
           some false))
         (
          some false))
        (
         br x7.2
         (
          some false)
         (
          cl (L_toNetwork g t a0) fun x31 =>
          cl (L_eqNetwork g t x8 x31) fun x32 =>
          br x32
          (
           cl (L_toBookingS g t a1) fun x33 =>
           cl (L_eqBookingS g t x9 x33) fun x34 =>
           br x34
           (
            cl (L_toTripS g t a2) fun x35 =>
            cl (L_eqTripS g t x10 x35) fun x36 =>
            br x36
            (
             cl (L_markNetwork g t x8 1) fun x37 =>
             gd ((x37.2.Legs.length = x8.Legs.length)) <|
             gd ((x37.2.Off.length = x8.Off.length)) <|
             cl (L_markBookingS g t x9 x37.1) fun x38 =>
             gd ((x38.2.length = x9.length)) <|
             cl (L_markTripS g t x10 x38.1) fun x39 =>
             gd ((x39.2.length = x10.length)) <|
             br (g.lt x39.1 0)
             (
              some false)
             (
              cl (L_eqTripS g t x11.1 x7.1) fun x40 =>
              br x40
              (
               cl (L_markTripS g t x11.1 1) fun x41 =>
               gd ((x41.2.length = x11.1.length)) <|
               lP (L_heldTripS g t x41.2 1) fun x42 =>
               br (g.lt x42 0)
               (
                some false)
               (
                br (g.eq x42 x41.1)
                (
                 cl (L_toNetwork g t a0) fun x43 =>
                 cl (L_toBookingS g t a1) fun x44 =>
                 cl (L_toTripS g t a2) fun x45 =>
                 cl (I_FindRoom g t x43 x44 x45 a3 a4 a5 a6) fun x46 =>
                 cl (L_eqTripS g t x46.1 x7.1) fun x47 =>
                 br x47
                 (
                  br x46.2
                  (
                   some false)
                  (
                   lP (L_heldTripS g t x41.2 1) fun x48 =>
                   br (g.lt x48 0)
                   (
                    some false)
                   (
                    br (g.eq x48 x41.1)
                    (
                     some true)
                    (
                     some false))))
                 (
                  some false))
                (
                 some false)))
              (
               some false)))
            (
             some false))
           (
            some false))
          (
           some false))))
       (
        some false))))))
theorem c_L_FnExactFindRoom {g : G} {t : TE} {a0 : Network} {a1 : List Booking} {a2 : List Trip} {a3 : ByteArray} {a4 : ByteArray} {a5 : Int} {a6 : Int} {r : Bool} (hg : g = G.real) (ht : t = TE.real) (h : L_FnExactFindRoom g t a0 a1 a2 a3 a4 a5 a6 = some r) : Fn Try.prog 5 [.g (Network.rs t a0), .c (.s 4 (t.r_Booking a1)), .c (.s 2 (t.r_Trip a2)), .c (.v (.string a3)), .c (.v (.string a4)), .c (.v (.int .i64 a5)), .c (.v (.int .i64 a6))] (.c (.r (.v (.bool r)))) := by
 obtain ⟨X, hX⟩ := hide (.c (.r (.v (.bool r))) : X); rw [← hX]; refine fn_of (rvs := rv5) (j := ir5) Try.func5 rfl (by kernel_rfl) (Nat.le_of_ble_eq_true rfl) (by kernel_rfl) prog_mixed ?_; intro g2 F hg2 hF; obtain rfl : g2 = g := hg2.unique.trans hg.symm; clear hg2; obtain ⟨_, lt, _, eq, _, _, _, _, _, _, _, _, int, _, _, _, _, _, _, _, _, _, _, _, dlen, _, _, _, rd, rda, _, _, _, _, _, slen, _, _, _, _, _, _, _, _⟩ := g2; obtain ⟨r_Leg, d_Leg, r_I64, d_I64, r_Booking, d_Booking, r_Trip, d_Trip, _, _, _, _, _, _, _⟩ := t
 obtain ⟨a0_Legs, a0_Off, a0_Change⟩ := a0; have hrda_Leg : ∀ l, rda (d_Leg l) = r_Leg l := rda_Leg hg ht; have hrda_I64 : ∀ l, rda (d_I64 l) = r_I64 l := rda_I64 hg ht; have hrda_Booking : ∀ l, rda (d_Booking l) = r_Booking l := rda_Booking hg ht; have hfr_Trip : ∀ l, freshDss (d_Trip l) = true := fresh_Trip ht; have hrda_Trip : ∀ l, rda (d_Trip l) = r_Trip l := rda_Trip hg ht; unfold L_FnExactFindRoom at h; try dsimp only at h
 cbv
 cases hb1 : (lt 1048576 (int (slen a3)))
 rotate_left
 ·rw [br_true hb1] at h; cbv; obtain rfl := Option.some.inj h; exact ARet.mk trivial hX.symm
 rw [br_false hb1] at h; cbv
 cases hb2 : (lt 1048576 (int (slen a4)))
 rotate_left
 ·rw [br_true hb2] at h; cbv; obtain rfl := Option.some.inj h; exact ARet.mk trivial hX.symm
 rw [br_false hb2] at h; cbv; obtain ⟨x1, hx1, h⟩ := of_lP h; try dsimp only at h
 refine ACall.mk _ _ rfl (hF _ _ _ (c_L_szNetwork hg ht hx1)) (.inl rfl) (Nat.le_of_ble_eq_true rfl) ?_; cbv
 cases hb3 : (lt x1 0)
 rotate_left
 ·rw [br_true hb3] at h; cbv; obtain rfl := Option.some.inj h; exact ARet.mk trivial hX.symm
 rw [br_false hb3] at h; cbv; obtain ⟨x2, hx2, h⟩ := of_lP h; try dsimp only at h
 refine ACall.mk _ _ rfl (hF _ _ _ (c_L_szBookingS hg ht hx2)) (.inl rfl) (Nat.le_of_ble_eq_true rfl) ?_; cbv
 cases hb4 : (lt x2 0)
 rotate_left
 ·rw [br_true hb4] at h; cbv; obtain rfl := Option.some.inj h; exact ARet.mk trivial hX.symm
 rw [br_false hb4] at h; cbv; obtain ⟨x3, hx3, h⟩ := of_lP h; try dsimp only at h
 refine ACall.mk _ _ rfl (hF _ _ _ (c_L_szTripS hg ht hx3)) (.inl rfl) (Nat.le_of_ble_eq_true rfl) ?_; cbv
 cases hb5 : (lt x3 0)
 rotate_left
 ·rw [br_true hb5] at h; cbv; obtain rfl := Option.some.inj h; exact ARet.mk trivial hX.symm
 rw [br_false hb5] at h; cbv; obtain ⟨x4, hx4, h⟩ := of_cl h; obtain ⟨x4_Legs, x4_Off, x4_Change⟩ := x4; try dsimp only at h
 refine ACallR.mk _ _ (.g [.r (.s 6 (r_Leg x4_Legs)), .r (.s 1 (r_I64 x4_Off)), .r (.v (.int .i64 x4_Change))]) rfl (hF _ _ _ (c_L_toNetwork hg ht hx4)) (.inl rfl) (Nat.le_of_ble_eq_true rfl) (by cbv; (try simp only [hrda_I64, hrda_Leg])) ?_; cbv; obtain ⟨x5, hx5, h⟩ := of_cl h; try dsimp only at h
 refine ACallR.mk _ _ (.c (.r (.s 4 (r_Booking x5)))) rfl (hF _ _ _ (c_L_toBookingS hg ht hx5)) (.inl rfl) (Nat.le_of_ble_eq_true rfl) (by cbv; (try simp only [hrda_Booking])) ?_; cbv; obtain ⟨x6, hx6, h⟩ := of_cl h; try dsimp only at h
 refine ACallR.mk _ _ (.c (.r (.s 2 (r_Trip x6)))) rfl (hF _ _ _ (c_L_toTripS hg ht hx6)) (.inl rfl) (Nat.le_of_ble_eq_true rfl) (by cbv; (try simp only [hrda_Trip])) ?_; cbv; obtain ⟨x7, hx7, h⟩ := of_cl h; obtain ⟨x7_1, x7_2⟩ := x7; try dsimp only at h
 refine ACallR.mk _ _ (.u [.c (.r (.s 2 (r_Trip x7_1))), .c (.r (.v (.bool x7_2)))]) rfl (hF _ _ _ (c_S_FindRoom hg ht hx7)) (.inl rfl) (Nat.le_of_ble_eq_true rfl) (by cbv; (try simp only [hrda_Trip])) ?_; cbv; obtain ⟨x8, hx8, h⟩ := of_cl h; obtain ⟨x8_Legs, x8_Off, x8_Change⟩ := x8; try dsimp only at h
 refine ACall.mk _ _ rfl (hF _ _ _ (c_L_toNetwork hg ht hx8)) (.inl rfl) (Nat.le_of_ble_eq_true rfl) ?_; cbv; obtain ⟨x9, hx9, h⟩ := of_cl h; try dsimp only at h
 refine ACall.mk _ _ rfl (hF _ _ _ (c_L_toBookingS hg ht hx9)) (.inl rfl) (Nat.le_of_ble_eq_true rfl) ?_; cbv; obtain ⟨x10, hx10, h⟩ := of_cl h; try dsimp only at h
 refine ACall.mk _ _ rfl (hF _ _ _ (c_L_toTripS hg ht hx10)) (.inl rfl) (Nat.le_of_ble_eq_true rfl) ?_; cbv; refine AStep.mk ⟨⟨(lend_Leg ht (dlen_Leg hg ht _)), (lend_I64 ht (dlen_I64 hg ht _))⟩, ⟨(lend_Booking ht (dlen_Booking hg ht _)), (lend_Trip ht (dlen_Trip hg ht _))⟩⟩ ?_; cbv; obtain ⟨x11, hx11, h⟩ := of_cl h; obtain ⟨x11_1, x11_2⟩ := x11; try dsimp only at h
 refine ACall.mk _ _ (by rw [show rd (d_Leg x8_Legs) 0 (dlen (d_Leg x8_Legs)) = r_Leg x8_Legs from rdw_Leg hg ht (dlen_Leg hg ht _), show rd (d_I64 x8_Off) 0 (dlen (d_I64 x8_Off)) = r_I64 x8_Off from rdw_I64 hg ht (dlen_I64 hg ht _), show rd (d_Booking x9) 0 (dlen (d_Booking x9)) = r_Booking x9 from rdw_Booking hg ht (dlen_Booking hg ht _), show rd (d_Trip x10) 0 (dlen (d_Trip x10)) = r_Trip x10 from rdw_Trip hg ht (dlen_Trip hg ht _)]; try rfl) (hF _ _ _ (c_I_FindRoom hg ht hx11)) (.inr (by simp only [Go.Vs.X.fresh, Go.Vs.X.freshs, freshD, freshDs, Bool.and_self, hfr_Trip])) (Nat.le_of_ble_eq_true rfl) ?_
 cbv; refine AStep.mk (lend_Trip ht (dlen_Trip hg ht _)) ?_; cbv; obtain ⟨x12, hx12, h⟩ := of_cl h; try dsimp only at h
 refine ACall.mk _ _ (by rw [show rd (d_Trip x11_1) 0 (dlen (d_Trip x11_1)) = r_Trip x11_1 from rdw_Trip hg ht (dlen_Trip hg ht _)]; try rfl) (hF _ _ _ (c_L_eqTripS hg ht hx12)) (.inr rfl) (Nat.le_of_ble_eq_true rfl) ?_
 cbv
 cases hb6 : x12
 ·rw [br_false hb6] at h; cbv; iterate 3 try (rw [hb6]; cbv)
  obtain rfl := Option.some.inj h; exact ARet.mk trivial hX.symm
 rw [br_true hb6] at h; cbv; iterate 2 try (rw [hb6]; cbv)
 cases hb7 : x11_2
 rotate_left
 ·rw [br_true hb7] at h; cbv
  cases hb8 : x7_2
  ·rw [br_false hb8] at h; cbv; try (rw [hb6]; cbv)
   obtain rfl := Option.some.inj h; exact ARet.mk trivial hX.symm
  rw [br_true hb8] at h; cbv; try (rw [hb6]; cbv)
  obtain ⟨x13, hx13, h⟩ := of_cl h; obtain ⟨x13_Legs, x13_Off, x13_Change⟩ := x13; try dsimp only at h
  refine ACallR.mk _ _ (.g [.r (.s 6 (r_Leg x13_Legs)), .r (.s 1 (r_I64 x13_Off)), .r (.v (.int .i64 x13_Change))]) rfl (hF _ _ _ (c_L_toNetwork hg ht hx13)) (.inl rfl) (Nat.le_of_ble_eq_true rfl) (by cbv; (try simp only [hrda_I64, hrda_Leg])) ?_; cbv; refine AStep.mk ⟨(lend_Leg ht (dlen_Leg hg ht _)), (lend_I64 ht (dlen_I64 hg ht _))⟩ ?_; cbv; obtain ⟨x14, hx14, h⟩ := of_cl h; try dsimp only at h
  refine ACall.mk _ _ (by rw [show rd (d_Leg x8_Legs) 0 (dlen (d_Leg x8_Legs)) = r_Leg x8_Legs from rdw_Leg hg ht (dlen_Leg hg ht _), show rd (d_I64 x8_Off) 0 (dlen (d_I64 x8_Off)) = r_I64 x8_Off from rdw_I64 hg ht (dlen_I64 hg ht _)]; try rfl) (hF _ _ _ (c_L_eqNetwork hg ht hx14)) (.inr rfl) (Nat.le_of_ble_eq_true rfl) ?_
  cbv
  cases hb9 : x14
  ·rw [br_false hb9] at h; cbv; obtain rfl := Option.some.inj h; exact ARet.mk trivial hX.symm
  rw [br_true hb9] at h; cbv; obtain ⟨x15, hx15, h⟩ := of_cl h; try dsimp only at h
  refine ACallR.mk _ _ (.c (.r (.s 4 (r_Booking x15)))) rfl (hF _ _ _ (c_L_toBookingS hg ht hx15)) (.inl rfl) (Nat.le_of_ble_eq_true rfl) (by cbv; (try simp only [hrda_Booking])) ?_; cbv; refine AStep.mk (lend_Booking ht (dlen_Booking hg ht _)) ?_; cbv; obtain ⟨x16, hx16, h⟩ := of_cl h; try dsimp only at h
  refine ACall.mk _ _ (by rw [show rd (d_Booking x9) 0 (dlen (d_Booking x9)) = r_Booking x9 from rdw_Booking hg ht (dlen_Booking hg ht _)]; try rfl) (hF _ _ _ (c_L_eqBookingS hg ht hx16)) (.inr rfl) (Nat.le_of_ble_eq_true rfl) ?_
  cbv
  cases hb10 : x16
  ·rw [br_false hb10] at h; cbv; obtain rfl := Option.some.inj h; exact ARet.mk trivial hX.symm
  rw [br_true hb10] at h; cbv; obtain ⟨x17, hx17, h⟩ := of_cl h; try dsimp only at h
  refine ACallR.mk _ _ (.c (.r (.s 2 (r_Trip x17)))) rfl (hF _ _ _ (c_L_toTripS hg ht hx17)) (.inl rfl) (Nat.le_of_ble_eq_true rfl) (by cbv; (try simp only [hrda_Trip])) ?_; cbv; refine AStep.mk (lend_Trip ht (dlen_Trip hg ht _)) ?_; cbv; obtain ⟨x18, hx18, h⟩ := of_cl h; try dsimp only at h
  refine ACall.mk _ _ (by rw [show rd (d_Trip x10) 0 (dlen (d_Trip x10)) = r_Trip x10 from rdw_Trip hg ht (dlen_Trip hg ht _)]; try rfl) (hF _ _ _ (c_L_eqTripS hg ht hx18)) (.inr rfl) (Nat.le_of_ble_eq_true rfl) ?_
  cbv
  cases hb11 : x18
  ·rw [br_false hb11] at h; cbv; obtain rfl := Option.some.inj h; exact ARet.mk trivial hX.symm
  rw [br_true hb11] at h; cbv; refine AStep.mk ⟨⟨rfl, (dlen_Leg hg ht _)⟩, ⟨rfl, (dlen_I64 hg ht _)⟩⟩ ?_; cbv; obtain ⟨x19, hx19, h⟩ := of_cl h; obtain ⟨x19_1, ⟨x19_2_Legs, x19_2_Off, x19_2_Change⟩⟩ := x19; try dsimp only at h
  refine ACallM.mk _ _ _ _ rfl rfl (hF _ _ _ (c_L_markNetwork hg ht hx19)) rfl (Nat.le_of_ble_eq_true rfl) (Nat.le_of_ble_eq_true rfl) ?_; cbv; obtain ⟨hc1, h⟩ := of_gd h; obtain ⟨hc2, h⟩ := of_gd h; refine AStep.mk ⟨rfl, (dlen_Booking hg ht _)⟩ ?_; cbv; obtain ⟨x20, hx20, h⟩ := of_cl h; obtain ⟨x20_1, x20_2⟩ := x20; try dsimp only at h
  refine ACallM.mk _ _ _ _ rfl rfl (hF _ _ _ (c_L_markBookingS hg ht hx20)) rfl (Nat.le_of_ble_eq_true rfl) (Nat.le_of_ble_eq_true rfl) ?_; cbv; obtain ⟨hc3, h⟩ := of_gd h; refine AStep.mk ⟨rfl, (dlen_Trip hg ht _)⟩ ?_; cbv; obtain ⟨x21, hx21, h⟩ := of_cl h; obtain ⟨x21_1, x21_2⟩ := x21; try dsimp only at h
  refine ACallM.mk _ _ _ _ rfl rfl (hF _ _ _ (c_L_markTripS hg ht hx21)) rfl (Nat.le_of_ble_eq_true rfl) (Nat.le_of_ble_eq_true rfl) ?_; cbv; obtain ⟨hc4, h⟩ := of_gd h
  cases hb12 : (lt x21_1 0)
  rotate_left
  ·rw [br_true hb12] at h; cbv; iterate 4 try (rw [hb12]; cbv)
   obtain rfl := Option.some.inj h; exact ARet.mk trivial hX.symm
  rw [br_false hb12] at h; cbv; iterate 2 try (rw [hb12]; cbv)
  refine AStep.mk (lend_Trip ht (dlen_Trip hg ht _)) ?_; cbv; obtain ⟨x22, hx22, h⟩ := of_cl h; try dsimp only at h
  refine ACall.mk _ _ (by rw [show rd (d_Trip x11_1) 0 (dlen (d_Trip x11_1)) = r_Trip x11_1 from rdw_Trip hg ht (dlen_Trip hg ht _)]; try rfl) (hF _ _ _ (c_L_eqTripS hg ht hx22)) (.inr rfl) (Nat.le_of_ble_eq_true rfl) ?_
  cbv; iterate 2 try (rw [hb12]; cbv)
  cases hb13 : x22
  ·rw [br_false hb13] at h; cbv; iterate 3 try (rw [hb13]; cbv)
   obtain rfl := Option.some.inj h; exact ARet.mk trivial hX.symm
  rw [br_true hb13] at h; cbv; iterate 2 try (rw [hb13]; cbv)
  try (rw [hb7]; cbv)
  try (rw [hb8]; cbv)
  try (rw [hb13]; cbv)
  refine AStep.mk ⟨rfl, (dlen_Trip hg ht _)⟩ ?_; cbv; obtain ⟨x23, hx23, h⟩ := of_cl h; obtain ⟨x23_1, x23_2⟩ := x23; try dsimp only at h
  refine ACallM.mk _ _ _ _ rfl rfl (hF _ _ _ (c_L_markTripS hg ht hx23)) rfl (Nat.le_of_ble_eq_true rfl) (Nat.le_of_ble_eq_true rfl) ?_; cbv; obtain ⟨hc5, h⟩ := of_gd h; refine AStep.mk (lend_Trip ht (lenp_Trip ht (dlen_Trip hg ht _) hc5)) ?_; cbv; obtain ⟨x24, hx24, h⟩ := of_lP h; try dsimp only at h
  refine ACall.mk _ _ (by rw [show rd (d_Trip x23_2) 0 (dlen (d_Trip x11_1)) = r_Trip x23_2 from rdw_Trip hg ht (lenp_Trip ht (dlen_Trip hg ht _) hc5)]; try rfl) (hF _ _ _ (c_L_heldTripS hg ht hx24)) (.inr rfl) (Nat.le_of_ble_eq_true rfl) ?_
  cbv
  cases hb14 : (lt x24 0)
  rotate_left
  ·rw [br_true hb14] at h; cbv; obtain rfl := Option.some.inj h; exact ARet.mk trivial hX.symm
  rw [br_false hb14] at h; cbv
  cases hb15 : (eq x24 x23_1)
  ·rw [br_false hb15] at h; cbv; obtain rfl := Option.some.inj h; exact ARet.mk trivial hX.symm
  rw [br_true hb15] at h; cbv; obtain ⟨x25, hx25, h⟩ := of_cl h; obtain ⟨x25_Legs, x25_Off, x25_Change⟩ := x25; try dsimp only at h
  refine ACallR.mk _ _ (.g [.r (.s 6 (r_Leg x25_Legs)), .r (.s 1 (r_I64 x25_Off)), .r (.v (.int .i64 x25_Change))]) rfl (hF _ _ _ (c_L_toNetwork hg ht hx25)) (.inl rfl) (Nat.le_of_ble_eq_true rfl) (by cbv; (try simp only [hrda_I64, hrda_Leg])) ?_; cbv; obtain ⟨x26, hx26, h⟩ := of_cl h; try dsimp only at h
  refine ACallR.mk _ _ (.c (.r (.s 4 (r_Booking x26)))) rfl (hF _ _ _ (c_L_toBookingS hg ht hx26)) (.inl rfl) (Nat.le_of_ble_eq_true rfl) (by cbv; (try simp only [hrda_Booking])) ?_; cbv; obtain ⟨x27, hx27, h⟩ := of_cl h; try dsimp only at h
  refine ACallR.mk _ _ (.c (.r (.s 2 (r_Trip x27)))) rfl (hF _ _ _ (c_L_toTripS hg ht hx27)) (.inl rfl) (Nat.le_of_ble_eq_true rfl) (by cbv; (try simp only [hrda_Trip])) ?_; cbv; obtain ⟨x28, hx28, h⟩ := of_cl h; obtain ⟨x28_1, x28_2⟩ := x28; try dsimp only at h
  refine ACallR.mk _ _ (.u [.c (.r (.s 2 (r_Trip x28_1))), .c (.r (.v (.bool x28_2)))]) rfl (hF _ _ _ (c_I_FindRoom hg ht hx28)) (.inl rfl) (Nat.le_of_ble_eq_true rfl) (by cbv; (try simp only [hrda_Trip])) ?_; cbv; obtain ⟨x29, hx29, h⟩ := of_cl h; try dsimp only at h
  refine ACall.mk _ _ rfl (hF _ _ _ (c_L_eqTripS hg ht hx29)) (.inl rfl) (Nat.le_of_ble_eq_true rfl) ?_; cbv
  cases hb16 : x29
  ·rw [br_false hb16] at h; cbv; iterate 3 try (rw [hb16]; cbv)
   obtain rfl := Option.some.inj h; exact ARet.mk trivial hX.symm
  rw [br_true hb16] at h; cbv; iterate 2 try (rw [hb16]; cbv)
  cases hb17 : x28_2
  ·rw [br_false hb17] at h; cbv; try (rw [hb8]; cbv)
   try (rw [hb16]; cbv)
   obtain rfl := Option.some.inj h; exact ARet.mk trivial hX.symm
  rw [br_true hb17] at h; cbv; try (rw [hb8]; cbv)
  try (rw [hb16]; cbv)
  refine AStep.mk (lend_Trip ht (lenp_Trip ht (dlen_Trip hg ht _) hc5)) ?_; cbv; obtain ⟨x30, hx30, h⟩ := of_lP h; try dsimp only at h
  refine ACall.mk _ _ (by rw [show rd (d_Trip x23_2) 0 (dlen (d_Trip x11_1)) = r_Trip x23_2 from rdw_Trip hg ht (lenp_Trip ht (dlen_Trip hg ht _) hc5)]; try rfl) (hF _ _ _ (c_L_heldTripS hg ht hx30)) (.inr rfl) (Nat.le_of_ble_eq_true rfl) ?_
  cbv
  cases hb18 : (lt x30 0)
  rotate_left
  ·rw [br_true hb18] at h; cbv; obtain rfl := Option.some.inj h; exact ARet.mk trivial hX.symm
  rw [br_false hb18] at h; cbv
  cases hb19 : (eq x30 x23_1)
  rotate_left
  ·rw [br_true hb19] at h; cbv; obtain rfl := Option.some.inj h; exact ARet.mk trivial hX.symm
  rw [br_false hb19] at h; cbv; obtain rfl := Option.some.inj h; exact ARet.mk trivial hX.symm
 rw [br_false hb7] at h; cbv
 cases hb20 : x7_2
 rotate_left
 ·rw [br_true hb20] at h; cbv; try (rw [hb6]; cbv)
  obtain rfl := Option.some.inj h; exact ARet.mk trivial hX.symm
 rw [br_false hb20] at h; cbv; try (rw [hb6]; cbv)
 obtain ⟨x31, hx31, h⟩ := of_cl h; obtain ⟨x31_Legs, x31_Off, x31_Change⟩ := x31; try dsimp only at h
 refine ACallR.mk _ _ (.g [.r (.s 6 (r_Leg x31_Legs)), .r (.s 1 (r_I64 x31_Off)), .r (.v (.int .i64 x31_Change))]) rfl (hF _ _ _ (c_L_toNetwork hg ht hx31)) (.inl rfl) (Nat.le_of_ble_eq_true rfl) (by cbv; (try simp only [hrda_I64, hrda_Leg])) ?_; cbv; refine AStep.mk ⟨(lend_Leg ht (dlen_Leg hg ht _)), (lend_I64 ht (dlen_I64 hg ht _))⟩ ?_; cbv; obtain ⟨x32, hx32, h⟩ := of_cl h; try dsimp only at h
 refine ACall.mk _ _ (by rw [show rd (d_Leg x8_Legs) 0 (dlen (d_Leg x8_Legs)) = r_Leg x8_Legs from rdw_Leg hg ht (dlen_Leg hg ht _), show rd (d_I64 x8_Off) 0 (dlen (d_I64 x8_Off)) = r_I64 x8_Off from rdw_I64 hg ht (dlen_I64 hg ht _)]; try rfl) (hF _ _ _ (c_L_eqNetwork hg ht hx32)) (.inr rfl) (Nat.le_of_ble_eq_true rfl) ?_
 cbv
 cases hb21 : x32
 ·rw [br_false hb21] at h; cbv; obtain rfl := Option.some.inj h; exact ARet.mk trivial hX.symm
 rw [br_true hb21] at h; cbv; obtain ⟨x33, hx33, h⟩ := of_cl h; try dsimp only at h
 refine ACallR.mk _ _ (.c (.r (.s 4 (r_Booking x33)))) rfl (hF _ _ _ (c_L_toBookingS hg ht hx33)) (.inl rfl) (Nat.le_of_ble_eq_true rfl) (by cbv; (try simp only [hrda_Booking])) ?_; cbv; refine AStep.mk (lend_Booking ht (dlen_Booking hg ht _)) ?_; cbv; obtain ⟨x34, hx34, h⟩ := of_cl h; try dsimp only at h
 refine ACall.mk _ _ (by rw [show rd (d_Booking x9) 0 (dlen (d_Booking x9)) = r_Booking x9 from rdw_Booking hg ht (dlen_Booking hg ht _)]; try rfl) (hF _ _ _ (c_L_eqBookingS hg ht hx34)) (.inr rfl) (Nat.le_of_ble_eq_true rfl) ?_
 cbv
 cases hb22 : x34
 ·rw [br_false hb22] at h; cbv; obtain rfl := Option.some.inj h; exact ARet.mk trivial hX.symm
 rw [br_true hb22] at h; cbv; obtain ⟨x35, hx35, h⟩ := of_cl h; try dsimp only at h
 refine ACallR.mk _ _ (.c (.r (.s 2 (r_Trip x35)))) rfl (hF _ _ _ (c_L_toTripS hg ht hx35)) (.inl rfl) (Nat.le_of_ble_eq_true rfl) (by cbv; (try simp only [hrda_Trip])) ?_; cbv; refine AStep.mk (lend_Trip ht (dlen_Trip hg ht _)) ?_; cbv; obtain ⟨x36, hx36, h⟩ := of_cl h; try dsimp only at h
 refine ACall.mk _ _ (by rw [show rd (d_Trip x10) 0 (dlen (d_Trip x10)) = r_Trip x10 from rdw_Trip hg ht (dlen_Trip hg ht _)]; try rfl) (hF _ _ _ (c_L_eqTripS hg ht hx36)) (.inr rfl) (Nat.le_of_ble_eq_true rfl) ?_
 cbv
 cases hb23 : x36
 ·rw [br_false hb23] at h; cbv; obtain rfl := Option.some.inj h; exact ARet.mk trivial hX.symm
 rw [br_true hb23] at h; cbv; refine AStep.mk ⟨⟨rfl, (dlen_Leg hg ht _)⟩, ⟨rfl, (dlen_I64 hg ht _)⟩⟩ ?_; cbv; obtain ⟨x37, hx37, h⟩ := of_cl h; obtain ⟨x37_1, ⟨x37_2_Legs, x37_2_Off, x37_2_Change⟩⟩ := x37; try dsimp only at h
 refine ACallM.mk _ _ _ _ rfl rfl (hF _ _ _ (c_L_markNetwork hg ht hx37)) rfl (Nat.le_of_ble_eq_true rfl) (Nat.le_of_ble_eq_true rfl) ?_; cbv; obtain ⟨hc6, h⟩ := of_gd h; obtain ⟨hc7, h⟩ := of_gd h; refine AStep.mk ⟨rfl, (dlen_Booking hg ht _)⟩ ?_; cbv; obtain ⟨x38, hx38, h⟩ := of_cl h; obtain ⟨x38_1, x38_2⟩ := x38; try dsimp only at h
 refine ACallM.mk _ _ _ _ rfl rfl (hF _ _ _ (c_L_markBookingS hg ht hx38)) rfl (Nat.le_of_ble_eq_true rfl) (Nat.le_of_ble_eq_true rfl) ?_; cbv; obtain ⟨hc8, h⟩ := of_gd h; refine AStep.mk ⟨rfl, (dlen_Trip hg ht _)⟩ ?_; cbv; obtain ⟨x39, hx39, h⟩ := of_cl h; obtain ⟨x39_1, x39_2⟩ := x39; try dsimp only at h
 refine ACallM.mk _ _ _ _ rfl rfl (hF _ _ _ (c_L_markTripS hg ht hx39)) rfl (Nat.le_of_ble_eq_true rfl) (Nat.le_of_ble_eq_true rfl) ?_; cbv; obtain ⟨hc9, h⟩ := of_gd h
 cases hb24 : (lt x39_1 0)
 rotate_left
 ·rw [br_true hb24] at h; cbv; iterate 4 try (rw [hb24]; cbv)
  obtain rfl := Option.some.inj h; exact ARet.mk trivial hX.symm
 rw [br_false hb24] at h; cbv; iterate 2 try (rw [hb24]; cbv)
 refine AStep.mk (lend_Trip ht (dlen_Trip hg ht _)) ?_; cbv; obtain ⟨x40, hx40, h⟩ := of_cl h; try dsimp only at h
 refine ACall.mk _ _ (by rw [show rd (d_Trip x11_1) 0 (dlen (d_Trip x11_1)) = r_Trip x11_1 from rdw_Trip hg ht (dlen_Trip hg ht _)]; try rfl) (hF _ _ _ (c_L_eqTripS hg ht hx40)) (.inr rfl) (Nat.le_of_ble_eq_true rfl) ?_
 cbv; iterate 2 try (rw [hb24]; cbv)
 cases hb25 : x40
 ·rw [br_false hb25] at h; cbv; iterate 3 try (rw [hb25]; cbv)
  obtain rfl := Option.some.inj h; exact ARet.mk trivial hX.symm
 rw [br_true hb25] at h; cbv; iterate 2 try (rw [hb25]; cbv)
 try (rw [hb7]; cbv)
 try (rw [hb20]; cbv)
 try (rw [hb25]; cbv)
 refine AStep.mk ⟨rfl, (dlen_Trip hg ht _)⟩ ?_; cbv; obtain ⟨x41, hx41, h⟩ := of_cl h; obtain ⟨x41_1, x41_2⟩ := x41; try dsimp only at h
 refine ACallM.mk _ _ _ _ rfl rfl (hF _ _ _ (c_L_markTripS hg ht hx41)) rfl (Nat.le_of_ble_eq_true rfl) (Nat.le_of_ble_eq_true rfl) ?_; cbv; obtain ⟨hc10, h⟩ := of_gd h; refine AStep.mk (lend_Trip ht (lenp_Trip ht (dlen_Trip hg ht _) hc10)) ?_; cbv; obtain ⟨x42, hx42, h⟩ := of_lP h; try dsimp only at h
 refine ACall.mk _ _ (by rw [show rd (d_Trip x41_2) 0 (dlen (d_Trip x11_1)) = r_Trip x41_2 from rdw_Trip hg ht (lenp_Trip ht (dlen_Trip hg ht _) hc10)]; try rfl) (hF _ _ _ (c_L_heldTripS hg ht hx42)) (.inr rfl) (Nat.le_of_ble_eq_true rfl) ?_
 cbv
 cases hb26 : (lt x42 0)
 rotate_left
 ·rw [br_true hb26] at h; cbv; obtain rfl := Option.some.inj h; exact ARet.mk trivial hX.symm
 rw [br_false hb26] at h; cbv
 cases hb27 : (eq x42 x41_1)
 ·rw [br_false hb27] at h; cbv; obtain rfl := Option.some.inj h; exact ARet.mk trivial hX.symm
 rw [br_true hb27] at h; cbv; obtain ⟨x43, hx43, h⟩ := of_cl h; obtain ⟨x43_Legs, x43_Off, x43_Change⟩ := x43; try dsimp only at h
 refine ACallR.mk _ _ (.g [.r (.s 6 (r_Leg x43_Legs)), .r (.s 1 (r_I64 x43_Off)), .r (.v (.int .i64 x43_Change))]) rfl (hF _ _ _ (c_L_toNetwork hg ht hx43)) (.inl rfl) (Nat.le_of_ble_eq_true rfl) (by cbv; (try simp only [hrda_I64, hrda_Leg])) ?_; cbv; obtain ⟨x44, hx44, h⟩ := of_cl h; try dsimp only at h
 refine ACallR.mk _ _ (.c (.r (.s 4 (r_Booking x44)))) rfl (hF _ _ _ (c_L_toBookingS hg ht hx44)) (.inl rfl) (Nat.le_of_ble_eq_true rfl) (by cbv; (try simp only [hrda_Booking])) ?_; cbv; obtain ⟨x45, hx45, h⟩ := of_cl h; try dsimp only at h
 refine ACallR.mk _ _ (.c (.r (.s 2 (r_Trip x45)))) rfl (hF _ _ _ (c_L_toTripS hg ht hx45)) (.inl rfl) (Nat.le_of_ble_eq_true rfl) (by cbv; (try simp only [hrda_Trip])) ?_; cbv; obtain ⟨x46, hx46, h⟩ := of_cl h; obtain ⟨x46_1, x46_2⟩ := x46; try dsimp only at h
 refine ACallR.mk _ _ (.u [.c (.r (.s 2 (r_Trip x46_1))), .c (.r (.v (.bool x46_2)))]) rfl (hF _ _ _ (c_I_FindRoom hg ht hx46)) (.inl rfl) (Nat.le_of_ble_eq_true rfl) (by cbv; (try simp only [hrda_Trip])) ?_; cbv; obtain ⟨x47, hx47, h⟩ := of_cl h; try dsimp only at h
 refine ACall.mk _ _ rfl (hF _ _ _ (c_L_eqTripS hg ht hx47)) (.inl rfl) (Nat.le_of_ble_eq_true rfl) ?_; cbv
 cases hb28 : x47
 ·rw [br_false hb28] at h; cbv; iterate 3 try (rw [hb28]; cbv)
  obtain rfl := Option.some.inj h; exact ARet.mk trivial hX.symm
 rw [br_true hb28] at h; cbv; iterate 2 try (rw [hb28]; cbv)
 cases hb29 : x46_2
 rotate_left
 ·rw [br_true hb29] at h; cbv; try (rw [hb20]; cbv)
  try (rw [hb28]; cbv)
  obtain rfl := Option.some.inj h; exact ARet.mk trivial hX.symm
 rw [br_false hb29] at h; cbv; try (rw [hb20]; cbv)
 try (rw [hb28]; cbv)
 refine AStep.mk (lend_Trip ht (lenp_Trip ht (dlen_Trip hg ht _) hc10)) ?_; cbv; obtain ⟨x48, hx48, h⟩ := of_lP h; try dsimp only at h
 refine ACall.mk _ _ (by rw [show rd (d_Trip x41_2) 0 (dlen (d_Trip x11_1)) = r_Trip x41_2 from rdw_Trip hg ht (lenp_Trip ht (dlen_Trip hg ht _) hc10)]; try rfl) (hF _ _ _ (c_L_heldTripS hg ht hx48)) (.inr rfl) (Nat.le_of_ble_eq_true rfl) ?_
 cbv
 cases hb30 : (lt x48 0)
 rotate_left
 ·rw [br_true hb30] at h; cbv; obtain rfl := Option.some.inj h; exact ARet.mk trivial hX.symm
 rw [br_false hb30] at h; cbv
 cases hb31 : (eq x48 x41_1)
 rotate_left
 ·rw [br_true hb31] at h; cbv; obtain rfl := Option.some.inj h; exact ARet.mk trivial hX.symm
 rw [br_false hb31] at h; cbv; obtain rfl := Option.some.inj h; exact ARet.mk trivial hX.symm
end Go.Vs
