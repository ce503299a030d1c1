/- Part of the proofs of this seat's laws: L1a. No condition. -/
import Derived.Test.YtlfbmhmjfffimaaTy
import Derived.Test.YtlfbmhmjfffimaaTIRall
import Derived.Test.YtlfbmhmjfffimaaVg
import Derived.Test.YtlfbmhmjfffimaaProg
import Derived.Lib.Strings
import Derived.Lib.Slices
import Derived.Lib.Walk
import Derived.Lib.Bytealg
set_option linter.unusedVariables false
set_option linter.unusedSimpArgs false
set_option linter.unusedSectionVars false
namespace Go.Vs
set_option maxRecDepth 100000
def ir14 : J :=
  .seq (.reg none [⟨(some 2), none, .box (.t 0)⟩,
     ⟨(some 4), none, .mv (.k (V.i 0))⟩] [1, 2])
  (.seq (.reg none [⟨(some 5), none, .mv (.t 1)⟩,
     ⟨(some 6), none, .fa 3 (.t 2)⟩,
     ⟨(some 7), none, .ld false 1 (.t 6)⟩,
     ⟨(some 8), none, .len true (.t 7)⟩,
     ⟨(some 9), none, .bin .sub .i (.t 5) (.t 8)⟩,
     ⟨(some 1), none, .mv (.t 9)⟩] [1])
  (.seq (.seq (.reg none [⟨(some 10), none, .mv (.t 1)⟩,
      ⟨(some 11), none, .bin .lss .i (.t 10) (.k (V.i 0))⟩] [1, 11])
   (.cond (.t 11)
    (.seq (.reg none [⟨(some 4), none, .mv (.k (V.i (-1)))⟩] [4])
     (.ret))
    (.skip)))
  (.seq (.reg none [⟨(some 12), none, .mv (.t 1)⟩,
     ⟨(some 4), none, .mv (.t 12)⟩] [4])
  (.ret))))
def rv14 : List RV := [.t 4]
open Go.Proofs Go.IntWalk
set_option linter.unusedVariables false
set_option maxRecDepth 100000
set_option maxHeartbeats 4000000
def L_szScan (g : G) (t : TE) (a0 : Scan) (a1 : Int) : Int :=
  br (g.lt (g.wrap .i64 (g.sub a1 (g.int (g.slen a0.Place)))) 0)
  (
   (-1))
  (
   (g.wrap .i64 (g.sub a1 (g.int (g.slen a0.Place)))))
theorem fit14 : codeFit Try.prog Try.f14.ntmps (Try.f14.body.getD .skip) ir14 = true := by kernel_rfl
theorem c_L_szScan {g : G} {t : TE} {a0 : Scan} {a1 : Int} {r : Int} (hg : g = G.real) (ht : t = TE.real) (h : L_szScan g t a0 a1 = r) : Fn Try.prog 14 [.g (Scan.rs t a0), .c (.v (.int .i64 a1))] (.c (.r (.v (.int .i64 r)))) := by
  obtain ⟨X, hX⟩ := hide (.c (.r (.v (.int .i64 r))) : X)
  rw [← hX]
  refine fn_of (rvs := rv14) (j := ir14) Try.func14 rfl fit14 (Nat.le_of_ble_eq_true rfl) (by kernel_rfl) prog_mixed ?_
  intro g2 F hg2 hF
  obtain rfl : g2 = g := hg2.unique.trans hg.symm
  clear hg2
  obtain ⟨wrap, lt, le, eq, quo, rem, band, bor, bxor, shl, shr, nat, int, add, sub, mul, cat, seq, slt, sub3, byte, llen, nadd, nsub, dlen, dapp, dset, drep, rd, rda, up, rsub, dsub, all, sle, slen⟩ := g2
  obtain ⟨r_S, d_S, r_Trip, d_Trip, r_Leg, d_Leg, r_I64, d_I64, r_Order, d_Order, r_Booking, d_Booking, r_Scan, d_Scan, r_U8, d_U8, r_LI64, d_LI64⟩ := t
  obtain ⟨a0_Thing, a0_At, a0_Kind, a0_Place, ⟨a0_Trip_Leg, a0_Trip_Day⟩⟩ := a0
  unfold L_szScan at h
  try dsimp only at h
  cbv
  cases hb1 : (lt (wrap .i64 (sub a1 (int (slen a0_Place)))) 0) with
  | true =>
    rw [br_true hb1] at h
    cbv
    subst h
    exact ARet.mk trivial hX.symm
  | false =>
    rw [br_false hb1] at h
    cbv
    subst h
    exact ARet.mk trivial hX.symm
end Go.Vs
namespace Go.Vs
set_option maxRecDepth 100000
def ir15 : J :=
  .seq (.reg none [⟨(some 2), none, .box (.t 0)⟩,
     ⟨(some 3), none, .box (.t 1)⟩,
     ⟨(some 4), none, .mv (.k (V.i 0))⟩] [2, 3])
  (.seq (.reg none [⟨(some 8), none, .fa 1 (.t 2)⟩,
     ⟨(some 9), none, .ld false 1 (.t 8)⟩,
     ⟨(some 10), none, .fa 0 (.t 2)⟩,
     ⟨(some 11), none, .ld false 1 (.t 10)⟩,
     ⟨(some 12), none, .fa 2 (.t 2)⟩,
     ⟨(some 13), none, .ld false 1 (.t 12)⟩,
     ⟨(some 14), none, .fa 4 (.t 2)⟩,
     ⟨(some 15), none, .fa 1 (.t 14)⟩,
     ⟨(some 16), none, .ld false 1 (.t 15)⟩,
     ⟨(some 17), none, .fa 4 (.t 2)⟩,
     ⟨(some 18), none, .fa 0 (.t 17)⟩,
     ⟨(some 19), none, .ld false 1 (.t 18)⟩,
     ⟨(some 20), none, .bsl 1 [(.t 9), (.t 11), (.t 13), (.t 16), (.t 19)]⟩,
     ⟨(some 5), none, .mv (.t 20)⟩] [2, 3, 5])
  (.seq (.reg none [⟨(some 21), none, .fa 1 (.t 3)⟩,
     ⟨(some 22), none, .ld false 1 (.t 21)⟩,
     ⟨(some 23), none, .fa 0 (.t 3)⟩,
     ⟨(some 24), none, .ld false 1 (.t 23)⟩,
     ⟨(some 25), none, .fa 2 (.t 3)⟩,
     ⟨(some 26), none, .ld false 1 (.t 25)⟩,
     ⟨(some 27), none, .fa 4 (.t 3)⟩,
     ⟨(some 28), none, .fa 1 (.t 27)⟩,
     ⟨(some 29), none, .ld false 1 (.t 28)⟩,
     ⟨(some 30), none, .fa 4 (.t 3)⟩,
     ⟨(some 31), none, .fa 0 (.t 30)⟩,
     ⟨(some 32), none, .ld false 1 (.t 31)⟩,
     ⟨(some 33), none, .bsl 1 [(.t 22), (.t 24), (.t 26), (.t 29), (.t 32)]⟩,
     ⟨(some 6), none, .mv (.t 33)⟩] [2, 3, 5, 6])
  (.seq (.seq (.reg none [⟨(some 7), none, .mv (.k (V.i 0))⟩] [2, 3, 5, 6, 7])
   (.bl 0 (.seq (.seq (.reg none [⟨(some 34), none, .mv (.t 7)⟩,
        ⟨(some 35), none, .mv (.t 5)⟩,
        ⟨(some 36), none, .len false (.t 35)⟩,
        ⟨(some 37), none, .bin .lss .i (.t 34) (.t 36)⟩] [2, 3, 5, 6, 7, 37])
     (.cond (.t 37)
      (.skip)
      (.exit 0)))
    (.seq (.block 1 (.seq (.seq (.reg (some [[], [], [0, 1], [0, 1, 2], [], [], [4, 5], [4, 5, 6], [0, 1, 2, 3, 4, 5, 6, 7]]) [⟨(some 40), none, .mv (.t 5)⟩,
          ⟨(some 41), none, .mv (.t 7)⟩,
          ⟨(some 42), none, .ia 1 (.t 40) (.t 41)⟩,
          ⟨(some 43), none, .ld false 1 (.t 42)⟩,
          ⟨(some 44), none, .mv (.t 6)⟩,
          ⟨(some 45), none, .mv (.t 7)⟩,
          ⟨(some 46), none, .ia 1 (.t 44) (.t 45)⟩,
          ⟨(some 47), none, .ld false 1 (.t 46)⟩,
          ⟨(some 48), none, .bin .lss .i (.t 43) (.t 47)⟩] [2, 3, 5, 6, 7, 48])
       (.cond (.t 48)
        (.seq (.reg none [⟨(some 4), none, .mv (.k (V.i (-1)))⟩] [4])
         (.ret))
        (.skip)))
      (.seq (.reg (some [[], [], [0, 1], [0, 1, 2], [], [], [4, 5], [4, 5, 6], [0, 1, 2, 3, 4, 5, 6, 7]]) [⟨(some 49), none, .mv (.t 5)⟩,
         ⟨(some 50), none, .mv (.t 7)⟩,
         ⟨(some 51), none, .ia 1 (.t 49) (.t 50)⟩,
         ⟨(some 52), none, .ld false 1 (.t 51)⟩,
         ⟨(some 53), none, .mv (.t 6)⟩,
         ⟨(some 54), none, .mv (.t 7)⟩,
         ⟨(some 55), none, .ia 1 (.t 53) (.t 54)⟩,
         ⟨(some 56), none, .ld false 1 (.t 55)⟩,
         ⟨(some 57), none, .bin .gtr .i (.t 52) (.t 56)⟩] [2, 3, 5, 6, 7, 57])
      (.cond (.t 57)
       (.seq (.reg none [⟨(some 4), none, .mv (.k (V.i 1))⟩] [4])
        (.ret))
       (.skip)))))
    (.reg none [⟨(some 38), none, .mv (.t 7)⟩,
      ⟨(some 39), none, .bin .add .i (.t 38) (.k (V.i 1))⟩,
      ⟨(some 7), none, .mv (.t 39)⟩] [2, 3, 5, 6, 7])))))
  (.seq (.block 2 (.seq (.reg none [⟨(some 59), none, .fa 3 (.t 2)⟩,
       ⟨(some 60), none, .ld false 1 (.t 59)⟩,
       ⟨(some 61), none, .fa 3 (.t 3)⟩,
       ⟨(some 62), none, .ld false 1 (.t 61)⟩,
       ⟨(some 63), none, .bin .lss .s (.t 60) (.t 62)⟩,
       ⟨(some 58), none, .mv (.t 63)⟩] [2, 3, 58])
    (.cond (.t 58)
     (.seq (.reg none [⟨(some 4), none, .mv (.k (V.i (-1)))⟩] [4])
      (.ret))
     (.seq (.reg none [⟨(some 65), none, .fa 3 (.t 2)⟩,
         ⟨(some 66), none, .ld false 1 (.t 65)⟩,
         ⟨(some 67), none, .fa 3 (.t 3)⟩,
         ⟨(some 68), none, .ld false 1 (.t 67)⟩,
         ⟨(some 69), none, .bin .gtr .s (.t 66) (.t 68)⟩,
         ⟨(some 64), none, .mv (.t 69)⟩] [64])
      (.cond (.t 64)
       (.seq (.reg none [⟨(some 4), none, .mv (.k (V.i 1))⟩] [4])
        (.ret))
       (.skip))))))
  (.seq (.reg none [⟨(some 4), none, .mv (.k (V.i 0))⟩] [4])
  (.ret))))))
def rv15 : List RV := [.t 4]
open Go.Proofs Go.IntWalk
set_option linter.unusedVariables false
set_option maxRecDepth 100000
set_option maxHeartbeats 4000000
def S_CompareScans_l1 (g : G) (t : TE) (l1 : List Int) (l2 : List Int) : Nat → Int → Option (LR Int Unit)
  | 0, v1 =>
    some (LR.out ())
  | n1 + 1, v1 =>
    gt l1 (g.nat v1) fun x1 =>
    gd ((0 ≤ v1 ∧ v1 < (((g.dlen (t.d_I64 l2)) : Nat) : Int))) <|
    gt l2 (g.nat v1) fun x2 =>
    br (g.lt x1 x2)
    (
     some (LR.ret (-1)))
    (
     gd ((0 ≤ v1 ∧ v1 < (((g.dlen (t.d_I64 l2)) : Nat) : Int))) <|
     br (g.lt x2 x1)
     (
      some (LR.ret 1))
     (
      S_CompareScans_l1 g t l1 l2 n1 (g.wrap .i64 (g.add v1 1))))
def S_CompareScans (g : G) (t : TE) (a0 : Scan) (a1 : Scan) : Option Int :=
  lP ([a0.At, a0.Thing, a0.Kind, a0.Trip.Day, a0.Trip.Leg]) fun (l1 : List Int) =>
  lP ([a1.At, a1.Thing, a1.Kind, a1.Trip.Day, a1.Trip.Leg]) fun (l2 : List Int) =>
  gd (((g.int (g.dlen (t.d_I64 l1))) ≤ 4611686018427387904)) <|
  cl (S_CompareScans_l1 g t l1 l2 (cntLt 0 (g.int (g.dlen (t.d_I64 l1)))) 0) fun o1 => lr o1 fun y1 =>
  br (g.slt a0.Place a1.Place)
  (
   some (-1))
  (
   br (g.sle a0.Place a1.Place)
   (
    some 0)
   (
    some 1))
theorem fit15 : codeFit Try.prog Try.f15.ntmps (Try.f15.body.getD .skip) ir15 = true := by kernel_rfl
theorem c_S_CompareScans {g : G} {t : TE} {a0 : Scan} {a1 : Scan} {r : Int} (hg : g = G.real) (ht : t = TE.real) (h : S_CompareScans g t a0 a1 = some r) : Fn Try.prog 15 [.g (Scan.rs t a0), .g (Scan.rs t a1)] (.c (.r (.v (.int .i64 r)))) := by
  obtain ⟨X, hX⟩ := hide (.c (.r (.v (.int .i64 r))) : X)
  rw [← hX]
  refine fn_of (rvs := rv15) (j := ir15) Try.func15 rfl fit15 (Nat.le_of_ble_eq_true rfl) (by kernel_rfl) prog_mixed ?_
  intro g2 F hg2 hF
  obtain rfl : g2 = g := hg2.unique.trans hg.symm
  clear hg2
  obtain ⟨wrap, lt, le, eq, quo, rem, band, bor, bxor, shl, shr, nat, int, add, sub, mul, cat, seq, slt, sub3, byte, llen, nadd, nsub, dlen, dapp, dset, drep, rd, rda, up, rsub, dsub, all, sle, slen⟩ := g2
  obtain ⟨r_S, d_S, r_Trip, d_Trip, r_Leg, d_Leg, r_I64, d_I64, r_Order, d_Order, r_Booking, d_Booking, r_Scan, d_Scan, r_U8, d_U8, r_LI64, d_LI64⟩ := t
  obtain ⟨a0_Thing, a0_At, a0_Kind, a0_Place, ⟨a0_Trip_Leg, a0_Trip_Day⟩⟩ := a0
  obtain ⟨a1_Thing, a1_At, a1_Kind, a1_Place, ⟨a1_Trip_Leg, a1_Trip_Day⟩⟩ := a1
  unfold S_CompareScans at h
  try dsimp only at h
  cbv
  obtain ⟨l1, hl1, h⟩ := of_lP h
  try dsimp only at h
  refine ANew.mk (d_I64 l1) (dlen (d_I64 l1)) (by rw [← hl1]; exact lit_I64 hg ht [a0_At, a0_Thing, a0_Kind, a0_Trip_Day, a0_Trip_Leg]) (by rw [← hl1]; exact litn_I64 hg ht [a0_At, a0_Thing, a0_Kind, a0_Trip_Day, a0_Trip_Leg]) ?_
  cbv
  obtain ⟨l2, hl2, h⟩ := of_lP h
  try dsimp only at h
  refine ANew.mk (d_I64 l2) (dlen (d_I64 l2)) (by rw [← hl2]; exact lit_I64 hg ht [a1_At, a1_Thing, a1_Kind, a1_Trip_Day, a1_Trip_Leg]) (by rw [← hl2]; exact litn_I64 hg ht [a1_At, a1_Thing, a1_Kind, a1_Trip_Day, a1_Trip_Leg]) ?_
  cbv
  obtain ⟨hB1, h⟩ := of_gd h
  obtain ⟨o1, ho1, h⟩ := of_cl h
  try dsimp only at h
  try rw [hg] at ho1
  try rw [ht] at ho1
  refine ABL.mk { p : Nat × Int // p.1 = cntLt p.2 (int (dlen (d_I64 l1))) ∧ 0 ≤ p.2 ∧ S_CompareScans_l1 G.real TE.real l1 l2 p.1 p.2 = some o1 } (fun ⟨⟨n1, v1⟩, _⟩ => ({ sl := [(2, .c (.p 0 6 0 0)), (3, .c (.p 1 6 0 0)), (5, .c (.f 2 1 0 (dlen (d_I64 l1)))), (6, .c (.f 3 1 0 (dlen (d_I64 l2)))), (7, .c (.r (.v (.int .i64 v1))))], tab := [(0, some (.foc 6 [] [.r (.v (.int .i64 a0_Thing)), .r (.v (.int .i64 a0_At)), .r (.v (.int .i64 a0_Kind)), .r (.v (.string a0_Place)), .r (.v (.int .i64 a0_Trip_Leg)), .r (.v (.int .i64 a0_Trip_Day))] [])), (1, some (.foc 6 [] [.r (.v (.int .i64 a1_Thing)), .r (.v (.int .i64 a1_At)), .r (.v (.int .i64 a1_Kind)), .r (.v (.string a1_Place)), .r (.v (.int .i64 a1_Trip_Leg)), .r (.v (.int .i64 a1_Trip_Day))] [])), (2, some (.arr 1 (d_I64 l1))), (3, some (.arr 1 (d_I64 l2)))] } : St)) 4 (fun p => p.1.1) ⟨(cntLt 0 (int (dlen (d_I64 l1))), 0), rfl, Int.le_refl _, ho1⟩ (Unit) (fun _ => ({ sl := [(2, .c (.p 0 6 0 0)), (3, .c (.p 1 6 0 0))], tab := [(0, some (.foc 6 [] [.r (.v (.int .i64 a0_Thing)), .r (.v (.int .i64 a0_At)), .r (.v (.int .i64 a0_Kind)), .r (.v (.string a0_Place)), .r (.v (.int .i64 a0_Trip_Leg)), .r (.v (.int .i64 a0_Trip_Day))] [])), (1, some (.foc 6 [] [.r (.v (.int .i64 a1_Thing)), .r (.v (.int .i64 a1_At)), .r (.v (.int .i64 a1_Kind)), .r (.v (.string a1_Place)), .r (.v (.int .i64 a1_Trip_Leg)), .r (.v (.int .i64 a1_Trip_Day))] []))] } : St)) 2 (fun y => o1 = LR.out y) ?_ ?_ ?_
  · refine Wk.of [(0, some 0), (1, some 16), (2, some 240), (3, some 464)] rfl rfl ?_ ?_
    · cbv
      all_goals exact ⟨⟨_, rfl, rfl⟩, ⟨_, rfl, rfl⟩, ⟨_, rfl, rfl⟩, ⟨_, rfl, rfl⟩, ⟨_, rfl, rfl⟩, trivial⟩
    · cbv
      all_goals exact ⟨⟨_, rfl, _, rfl, rfl, rfl, rfl, rfl, rfl, rfl, trivial⟩, ⟨_, rfl, _, rfl, rfl, rfl, rfl, rfl, rfl, rfl, trivial⟩, ⟨_, rfl, rfl⟩, ⟨_, rfl, rfl⟩, trivial⟩
  · rintro ⟨⟨n1, v1⟩, hn1, hi1, h_1⟩ hq1
    try dsimp only at hn1 hi1 h_1
    clear hq1
    cbv
    rcases n1 with _ | n1
    · have hb1 : lt v1 (int (dlen (d_I64 l1))) = false := ltC_false hg hn1
      rw [S_CompareScans_l1] at h_1
      try rw [← hg] at h_1
      try rw [← ht] at h_1
      try dsimp only at h_1
      rw [hb1]
      cbv
      refine ⟨(), Wk.of [(0, some 0), (1, some 1)] rfl rfl ?_ ?_, (Option.some.inj h_1).symm⟩
      · cbv
        all_goals exact ⟨⟨_, rfl, rfl⟩, ⟨_, rfl, rfl⟩, trivial⟩
      · cbv
        all_goals exact ⟨⟨_, rfl, _, rfl, rfl, rfl, rfl, rfl, rfl, rfl, trivial⟩, ⟨_, rfl, _, rfl, rfl, rfl, rfl, rfl, rfl, rfl, trivial⟩, trivial⟩
    · have hb1 : lt v1 (int (dlen (d_I64 l1))) = true := ltC_true hg hn1
      have hl1 := ltC_le hn1
      have hs1 := stepltC hg hn1 hi1 hB1 (by decide)
      rw [S_CompareScans_l1] at h_1
      try rw [← hg] at h_1
      try rw [← ht] at h_1
      try dsimp only at h_1
      rw [hb1]
      cbv
      refine AStep.mk (rg_int hg hi1 hl1) ?_
      cbv
      obtain ⟨x1, hx1, h_1⟩ := of_gt h_1
      try dsimp only at h_1
      refine AGet.mk _ (d_get_I64 hg ht hx1) ?_
      cbv
      obtain ⟨hc1, h_1⟩ := of_gd h_1
      refine AStep.mk hc1 ?_
      cbv
      obtain ⟨x2, hx2, h_1⟩ := of_gt h_1
      try dsimp only at h_1
      refine AGet.mk _ (d_get_I64 hg ht hx2) ?_
      cbv
      cases hb2 : (lt x1 x2) with
      | true =>
        rw [br_true hb2] at h_1
        cbv
        obtain rfl := Option.some.inj h_1
        try dsimp only [lr, lrL, lrp, lrpL] at h
        obtain rfl := Option.some.inj h
        exact ARet.mk trivial hX.symm
      | false =>
        rw [br_false hb2] at h_1
        cbv
        refine AStep.mk (rg_int hg hi1 hl1) ?_
        cbv
        refine AGet.mk _ (d_get_I64 hg ht hx1) ?_
        cbv
        obtain ⟨hc2, h_1⟩ := of_gd h_1
        refine AStep.mk hc2 ?_
        cbv
        refine AGet.mk _ (d_get_I64 hg ht hx2) ?_
        cbv
        cases hb3 : (lt x2 x1) with
        | true =>
          rw [br_true hb3] at h_1
          cbv
          obtain rfl := Option.some.inj h_1
          try dsimp only [lr, lrL, lrp, lrpL] at h
          obtain rfl := Option.some.inj h
          exact ARet.mk trivial hX.symm
        | false =>
          rw [br_false hb3] at h_1
          cbv
          try rw [hg] at h_1
          try rw [ht] at h_1
          refine ⟨⟨(n1, (wrap .i64 (add v1 1))), hs1.1, hs1.2, h_1⟩, Wk.of [(0, some 0), (1, some 1), (2, some 2), (3, some 3)] rfl rfl ?_ ?_, Nat.lt_succ_self _⟩
          · cbv
            all_goals exact ⟨⟨_, rfl, rfl⟩, ⟨_, rfl, rfl⟩, ⟨_, rfl, rfl⟩, ⟨_, rfl, rfl⟩, ⟨_, rfl, rfl⟩, trivial⟩
          · cbv
            all_goals exact ⟨⟨_, rfl, _, rfl, rfl, rfl, rfl, rfl, rfl, rfl, trivial⟩, ⟨_, rfl, _, rfl, rfl, rfl, rfl, rfl, rfl, rfl, trivial⟩, ⟨_, rfl, rfl⟩, ⟨_, rfl, rfl⟩, trivial⟩
  · rintro _ hy1
    replace hy1 := hy1.symm
    subst hy1
    try dsimp only [lr, lrL, lrp, lrpL] at h
    cbv
    cases hb4 : (slt a0_Place a1_Place) with
    | true =>
      rw [br_true hb4] at h
      cbv
      obtain rfl := Option.some.inj h
      exact ARet.mk trivial hX.symm
    | false =>
      rw [br_false hb4] at h
      cbv
      cases hb5 : (sle a0_Place a1_Place) with
      | true =>
        rw [br_true hb5] at h
        cbv
        obtain rfl := Option.some.inj h
        exact ARet.mk trivial hX.symm
      | false =>
        rw [br_false hb5] at h
        cbv
        obtain rfl := Option.some.inj h
        exact ARet.mk trivial hX.symm
end Go.Vs
namespace Go.Vs
set_option maxRecDepth 100000
def ir63 : J :=
  .seq (.reg none [⟨(some 1), none, .box (.t 0)⟩,
     ⟨(some 2), none, .alloc [.r (.v (.int .i64 0)), .r (.v (.int .i64 0))]⟩] [1, 2])
  (.seq (.reg none [⟨(some 3), none, .alloc [.r (.v (.int .i64 0)), .r (.v (.int .i64 0))]⟩] [1, 2, 3])
  (.seq (.reg none [⟨(some 4), none, .fa 0 (.t 1)⟩,
     ⟨(some 5), none, .ld false 1 (.t 4)⟩,
     ⟨(some 6), none, .fa 0 (.t 3)⟩,
     ⟨none, none, .st 1 (.t 6) (.t 5)⟩] [1, 2, 3])
  (.seq (.reg none [⟨(some 7), none, .fa 1 (.t 1)⟩,
     ⟨(some 8), none, .ld false 1 (.t 7)⟩,
     ⟨(some 9), none, .fa 1 (.t 3)⟩,
     ⟨none, none, .st 1 (.t 9) (.t 8)⟩] [2, 3])
  (.seq (.reg none [⟨(some 10), none, .ld true 2 (.t 3)⟩,
     ⟨none, none, .st 2 (.t 2) (.t 10)⟩] [2])
  (.ret)))))
def rv63 : List RV := [.c 2 true 2]
open Go.Proofs Go.IntWalk
set_option linter.unusedVariables false
set_option maxRecDepth 100000
set_option maxHeartbeats 4000000
def L_toTrip (g : G) (t : TE) (a0 : Trip) : Trip :=
  a0
theorem fit63 : codeFit Try.prog Try.f63.ntmps (Try.f63.body.getD .skip) ir63 = true := by kernel_rfl
theorem c_L_toTrip {g : G} {t : TE} {a0 : Trip} {r : Trip} (hg : g = G.real) (ht : t = TE.real) (h : L_toTrip g t a0 = r) : Fn Try.prog 63 [.g (Trip.rs t a0)] (.g (Trip.ds t r)) := by
  obtain ⟨X, hX⟩ := hide (.g (Trip.ds t r) : X)
  rw [← hX]
  refine fn_of (rvs := rv63) (j := ir63) Try.func63 rfl fit63 (Nat.le_of_ble_eq_true rfl) (by kernel_rfl) prog_mixed ?_
  intro g2 F hg2 hF
  obtain rfl : g2 = g := hg2.unique.trans hg.symm
  clear hg2
  obtain ⟨wrap, lt, le, eq, quo, rem, band, bor, bxor, shl, shr, nat, int, add, sub, mul, cat, seq, slt, sub3, byte, llen, nadd, nsub, dlen, dapp, dset, drep, rd, rda, up, rsub, dsub, all, sle, slen⟩ := g2
  obtain ⟨r_S, d_S, r_Trip, d_Trip, r_Leg, d_Leg, r_I64, d_I64, r_Order, d_Order, r_Booking, d_Booking, r_Scan, d_Scan, r_U8, d_U8, r_LI64, d_LI64⟩ := t
  obtain ⟨a0_Leg, a0_Day⟩ := a0
  unfold L_toTrip at h
  try dsimp only at h
  cbv
  subst h
  exact ARet.mk trivial hX.symm
end Go.Vs
namespace Go.Vs
set_option maxRecDepth 100000
def ir64 : J :=
  .seq (.reg none [⟨(some 2), none, .mv (.k (V.i 0))⟩] [0])
  (.seq (.seq (.reg none [⟨(some 5), none, .mv (.t 0)⟩,
      ⟨(some 6), none, .len false (.t 5)⟩,
      ⟨(some 7), none, .mv (.k (V.i 0))⟩] [5, 6, 7])
   (.bl 0 (.seq (.reg none [⟨(some 8), none, .bin .lss .i (.t 7) (.t 6)⟩] [5, 6, 7, 8])
    (.seq (.cond (.t 8)
      (.skip)
      (.exit 0))
    (.seq (.block 1 (.seq (.reg none [⟨(some 9), none, .ia 1 (.t 5) (.t 7)⟩,
         ⟨(some 10), none, .ld false 1 (.t 9)⟩,
         ⟨(some 4), none, .mv (.t 10)⟩] [4, 5, 6, 7])
      (.seq (.reg none [⟨(some 11), none, .mv (.t 4)⟩,
         ⟨(some 12), none, .bin .neq .i (.t 11) (.k (V.i 0))⟩] [4, 5, 6, 7, 12])
      (.cond (.t 12)
       (.seq (.reg none [⟨(some 13), none, .mv (.t 4)⟩,
           ⟨(some 2), none, .mv (.t 13)⟩] [2])
        (.ret))
       (.skip)))))
    (.reg none [⟨(some 14), none, .bin .add .i (.t 7) (.k (V.i 1))⟩,
      ⟨(some 7), none, .mv (.t 14)⟩] [5, 6, 7]))))))
  (.seq (.reg none [⟨(some 2), none, .mv (.k (V.i 0))⟩] [2])
  (.ret)))
def rv64 : List RV := [.t 2]
open Go.Proofs Go.IntWalk
set_option linter.unusedVariables false
set_option maxRecDepth 100000
set_option maxHeartbeats 4000000
def I_first_l1 (g : G) (t : TE) : List Int → LR Int Unit
  | [] =>
    (LR.out ())
  | z1 :: ls1 =>
    br (g.eq z1 0)
    (
     I_first_l1 g t ls1)
    (
     (LR.ret z1))
def I_first (g : G) (t : TE) (a0 : List Int) : Int :=
  lP (I_first_l1 g t a0) fun o1 => lrp o1 fun y1 =>
  0
theorem fit64 : codeFit Try.prog Try.f64.ntmps (Try.f64.body.getD .skip) ir64 = true := by kernel_rfl
theorem c_I_first {g : G} {t : TE} {a0 : List Int} {r : Int} (hg : g = G.real) (ht : t = TE.real) (h : I_first g t a0 = r) : Fn Try.prog 64 [.c (.s 1 (t.r_I64 a0))] (.c (.r (.v (.int .i64 r)))) := by
  obtain ⟨X, hX⟩ := hide (.c (.r (.v (.int .i64 r))) : X)
  rw [← hX]
  refine fn_of (rvs := rv64) (j := ir64) Try.func64 rfl fit64 (Nat.le_of_ble_eq_true rfl) (by kernel_rfl) prog_mixed ?_
  intro g2 F hg2 hF
  obtain rfl : g2 = g := hg2.unique.trans hg.symm
  clear hg2
  obtain ⟨wrap, lt, le, eq, quo, rem, band, bor, bxor, shl, shr, nat, int, add, sub, mul, cat, seq, slt, sub3, byte, llen, nadd, nsub, dlen, dapp, dset, drep, rd, rda, up, rsub, dsub, all, sle, slen⟩ := g2
  obtain ⟨r_S, d_S, r_Trip, d_Trip, r_Leg, d_Leg, r_I64, d_I64, r_Order, d_Order, r_Booking, d_Booking, r_Scan, d_Scan, r_U8, d_U8, r_LI64, d_LI64⟩ := t
  unfold I_first at h
  try dsimp only at h
  cbv
  obtain ⟨o1, ho1, h⟩ := of_lP h
  try dsimp only at h
  try rw [hg] at ho1
  try rw [ht] at ho1
  refine ABL.mk { p : Nat × Int // p.1 ≤ a0.length ∧ p.2 = ((p.1 : Nat) : Int) ∧ I_first_l1 G.real TE.real (List.drop p.1 a0) = o1 } (fun ⟨⟨k1, v1⟩, _⟩ => ({ sl := [(5, .c (.r (.s 1 (r_I64 a0)))), (6, .c (.r (.v (.int .i64 (llen (r_I64 a0)))))), (7, .c (.r (.v (.int .i64 v1))))], tab := [] } : St)) 0 (fun p => a0.length - p.1.1) ⟨(0, 0), Nat.zero_le _, rfl, ho1⟩ (Unit) (fun _ => ({ sl := [], tab := [] } : St)) 0 (fun y => o1 = LR.out y) ?_ ?_ ?_
  · refine Wk.of [] rfl rfl ?_ ?_
    · cbv
      all_goals exact ⟨⟨_, rfl, rfl⟩, ⟨_, rfl, rfl⟩, ⟨_, rfl, rfl⟩, trivial⟩
    · cbv
      all_goals exact trivial
  · rintro ⟨⟨k1, v1⟩, hk1, hi1, h_1⟩ hq1
    have hm1 := (hq1.1 5 _ _ rfl)
    try dsimp only at hk1 hi1 h_1
    clear hq1
    cbv
    by_cases hc1_ : k1 < a0.length
    · have hb1 : lt v1 (llen (r_I64 a0)) = true := ltL_true_I64 hg ht hi1 hc1_
      have hs1 := stepL_I64 hg ht hi1 hc1_ hm1
      obtain ⟨z1, hz1⟩ := some_of_lt hc1_
      rw [drop_of_some hz1] at h_1
      rw [I_first_l1] at h_1
      try rw [← hg] at h_1
      try rw [← ht] at h_1
      try dsimp only at h_1
      rw [hb1]
      cbv
      refine AStep.mk (nn_L hi1) ?_
      cbv
      refine AGet.mk _ (r_getL_I64 hg ht hi1 hz1) ?_
      cbv
      cases hb2 : (eq z1 0) with
      | true =>
        rw [br_true hb2] at h_1
        cbv
        try rw [hg] at h_1
        try rw [ht] at h_1
        refine ⟨⟨(k1 + 1, (wrap .i64 (add v1 1))), hc1_, hs1, h_1⟩, Wk.of [] rfl rfl ?_ ?_, meas_L hc1_⟩
        · cbv
          all_goals exact ⟨⟨_, rfl, rfl⟩, ⟨_, rfl, rfl⟩, ⟨_, rfl, rfl⟩, trivial⟩
        · cbv
          all_goals exact trivial
      | false =>
        rw [br_false hb2] at h_1
        cbv
        subst h_1
        try dsimp only [lr, lrL, lrp, lrpL] at h
        subst h
        exact ARet.mk trivial hX.symm
    · have hb1 : lt v1 (llen (r_I64 a0)) = false := ltL_false_I64 hg ht hi1 hc1_
      rw [List.drop_of_length_le (Nat.le_of_not_lt hc1_)] at h_1
      rw [I_first_l1] at h_1
      try rw [← hg] at h_1
      try rw [← ht] at h_1
      try dsimp only at h_1
      rw [hb1]
      cbv
      refine ⟨(), Wk.of [] rfl rfl ?_ ?_, h_1.symm⟩
      · cbv
        all_goals exact trivial
      · cbv
        all_goals exact trivial
  · rintro _ hy1
    replace hy1 := hy1.symm
    subst hy1
    try dsimp only [lr, lrL, lrp, lrpL] at h
    cbv
    subst h
    exact ARet.mk trivial hX.symm
end Go.Vs
namespace Go.Vs
set_option maxRecDepth 100000
def ir65 : J :=
  .seq (.reg none [⟨(some 4), none, .mv (.k (V.i 0))⟩] [0, 1])
  (.seq (.block 0 (.seq (.reg none [⟨(some 6), none, .mv (.t 0)⟩,
       ⟨(some 7), none, .mv (.t 1)⟩,
       ⟨(some 8), none, .bin .lss .i (.t 6) (.t 7)⟩,
       ⟨(some 5), none, .mv (.t 8)⟩] [0, 1, 5])
    (.cond (.t 5)
     (.seq (.reg none [⟨(some 4), none, .mv (.k (V.i (-1)))⟩] [4])
      (.ret))
     (.seq (.reg none [⟨(some 10), none, .mv (.t 0)⟩,
         ⟨(some 11), none, .mv (.t 1)⟩,
         ⟨(some 12), none, .bin .gtr .i (.t 10) (.t 11)⟩,
         ⟨(some 9), none, .mv (.t 12)⟩] [9])
      (.cond (.t 9)
       (.seq (.reg none [⟨(some 4), none, .mv (.k (V.i 1))⟩] [4])
        (.ret))
       (.skip))))))
  (.seq (.reg none [⟨(some 4), none, .mv (.k (V.i 0))⟩] [4])
  (.ret)))
def rv65 : List RV := [.t 4]
open Go.Proofs Go.IntWalk
set_option linter.unusedVariables false
set_option maxRecDepth 100000
set_option maxHeartbeats 4000000
def I_compareInts (g : G) (t : TE) (a0 : Int) (a1 : Int) : Int :=
  br (g.lt a0 a1)
  (
   (-1))
  (
   br (g.lt a1 a0)
   (
    1)
   (
    0))
theorem fit65 : codeFit Try.prog Try.f65.ntmps (Try.f65.body.getD .skip) ir65 = true := by kernel_rfl
theorem c_I_compareInts {g : G} {t : TE} {a0 : Int} {a1 : Int} {r : Int} (hg : g = G.real) (ht : t = TE.real) (h : I_compareInts g t a0 a1 = r) : Fn Try.prog 65 [.c (.v (.int .i64 a0)), .c (.v (.int .i64 a1))] (.c (.r (.v (.int .i64 r)))) := by
  obtain ⟨X, hX⟩ := hide (.c (.r (.v (.int .i64 r))) : X)
  rw [← hX]
  refine fn_of (rvs := rv65) (j := ir65) Try.func65 rfl fit65 (Nat.le_of_ble_eq_true rfl) (by kernel_rfl) prog_mixed ?_
  intro g2 F hg2 hF
  obtain rfl : g2 = g := hg2.unique.trans hg.symm
  clear hg2
  obtain ⟨wrap, lt, le, eq, quo, rem, band, bor, bxor, shl, shr, nat, int, add, sub, mul, cat, seq, slt, sub3, byte, llen, nadd, nsub, dlen, dapp, dset, drep, rd, rda, up, rsub, dsub, all, sle, slen⟩ := g2
  obtain ⟨r_S, d_S, r_Trip, d_Trip, r_Leg, d_Leg, r_I64, d_I64, r_Order, d_Order, r_Booking, d_Booking, r_Scan, d_Scan, r_U8, d_U8, r_LI64, d_LI64⟩ := t
  unfold I_compareInts at h
  try dsimp only at h
  cbv
  cases hb1 : (lt a0 a1) with
  | true =>
    rw [br_true hb1] at h
    cbv
    subst h
    exact ARet.mk trivial hX.symm
  | false =>
    rw [br_false hb1] at h
    cbv
    cases hb2 : (lt a1 a0) with
    | true =>
      rw [br_true hb2] at h
      cbv
      subst h
      exact ARet.mk trivial hX.symm
    | false =>
      rw [br_false hb2] at h
      cbv
      subst h
      exact ARet.mk trivial hX.symm
end Go.Vs
namespace Go.Vs
open Go.Proofs Go.RowKit
set_option maxHeartbeats 1000000
set_option maxRecDepth 100000
theorem X_strings_Compare_c (a b : ByteArray) (w : Go.World) :
    Calls Try.prog 119 #[.string a, .string b] w fun e w' => e = .returned (.int .i64 (Lib.compareBytes a.data.toList b.data.toList)) ∧ w' = w := by
  go_enter Try.func119, Try.ntmps119
  go_wp2
  rw [run_callFunc_extern Try.func157 (by kernel_rfl) (by kernel_rfl) (by kernel_rfl) (e := Extern.BytealgCompare.compare) (by kernel_rfl), Lib.run_compareString]
  simp only [Result.andThen]
  rw [Oper.upon_value]
  go_wp2
  go_ret
  exact ⟨rfl, rfl⟩
theorem X_strings_Compare_d (a b : ByteArray) (w : Go.World) :
    Calls Try.prog 66 #[.string a, .string b] w fun e w' => e = .returned (.int .i64 (Lib.compareBytes a.data.toList b.data.toList)) ∧ w' = w := by
  go_enter Try.func66, Try.ntmps66
  go_wp2_with (go_at_call 119; refine (X_strings_Compare_c _ _ _).mono ?_; rintro e w' ⟨rfl, rfl⟩)
  go_ret
  exact ⟨rfl, rfl⟩
def X_strings_Compare (g : G) (t : TE) (a b : ByteArray) : Int := Lib.compareBytes a.data.toList b.data.toList
theorem c_X_strings_Compare {g : G} {t : TE} {a0 a1 : ByteArray} {r : Int} (hg : g = G.real) (ht : t = TE.real) (h : X_strings_Compare g t a0 a1 = r) : Fn Try.prog 66 [.c (.v (.string a0)), .c (.v (.string a1))] (.c (.r (.v (.int .i64 r)))) := by
  subst h
  exact fn_lib (xs := [.string a0, .string a1]) rfl (fun w => X_strings_Compare_d a0 a1 w)
end Go.Vs
namespace Go.Vs
set_option maxRecDepth 100000
def ir43 : J :=
  .seq (.reg none [⟨(some 4), none, .mv (.k (V.i 0))⟩] [0, 1])
  (.seq (.reg none [⟨(some 5), none, .mv (.t 1)⟩,
     ⟨(some 6), none, .mv (.t 0)⟩,
     ⟨(some 7), none, .len false (.t 6)⟩,
     ⟨(some 8), none, .bin .sub .i (.t 5) (.t 7)⟩,
     ⟨(some 1), none, .mv (.t 8)⟩] [1])
  (.seq (.seq (.reg none [⟨(some 9), none, .mv (.t 1)⟩,
      ⟨(some 10), none, .bin .lss .i (.t 9) (.k (V.i 0))⟩] [1, 10])
   (.cond (.t 10)
    (.seq (.reg none [⟨(some 4), none, .mv (.k (V.i (-1)))⟩] [4])
     (.ret))
    (.skip)))
  (.seq (.reg none [⟨(some 11), none, .mv (.t 1)⟩,
     ⟨(some 4), none, .mv (.t 11)⟩] [4])
  (.ret))))
def rv43 : List RV := [.t 4]
open Go.Proofs Go.IntWalk
set_option linter.unusedVariables false
set_option maxRecDepth 100000
set_option maxHeartbeats 4000000
def L_szTripS (g : G) (t : TE) (a0 : List Trip) (a1 : Int) : Int :=
  br (g.lt (g.wrap .i64 (g.sub a1 (g.llen (t.r_Trip a0)))) 0)
  (
   (-1))
  (
   (g.wrap .i64 (g.sub a1 (g.llen (t.r_Trip a0)))))
theorem fit43 : codeFit Try.prog Try.f43.ntmps (Try.f43.body.getD .skip) ir43 = true := by kernel_rfl
theorem c_L_szTripS {g : G} {t : TE} {a0 : List Trip} {a1 : Int} {r : Int} (hg : g = G.real) (ht : t = TE.real) (h : L_szTripS g t a0 a1 = r) : Fn Try.prog 43 [.c (.s 2 (t.r_Trip a0)), .c (.v (.int .i64 a1))] (.c (.r (.v (.int .i64 r)))) := by
  obtain ⟨X, hX⟩ := hide (.c (.r (.v (.int .i64 r))) : X)
  rw [← hX]
  refine fn_of (rvs := rv43) (j := ir43) Try.func43 rfl fit43 (Nat.le_of_ble_eq_true rfl) (by kernel_rfl) prog_mixed ?_
  intro g2 F hg2 hF
  obtain rfl : g2 = g := hg2.unique.trans hg.symm
  clear hg2
  obtain ⟨wrap, lt, le, eq, quo, rem, band, bor, bxor, shl, shr, nat, int, add, sub, mul, cat, seq, slt, sub3, byte, llen, nadd, nsub, dlen, dapp, dset, drep, rd, rda, up, rsub, dsub, all, sle, slen⟩ := g2
  obtain ⟨r_S, d_S, r_Trip, d_Trip, r_Leg, d_Leg, r_I64, d_I64, r_Order, d_Order, r_Booking, d_Booking, r_Scan, d_Scan, r_U8, d_U8, r_LI64, d_LI64⟩ := t
  unfold L_szTripS at h
  try dsimp only at h
  cbv
  cases hb1 : (lt (wrap .i64 (sub a1 (llen (r_Trip a0)))) 0) with
  | true =>
    rw [br_true hb1] at h
    cbv
    subst h
    exact ARet.mk trivial hX.symm
  | false =>
    rw [br_false hb1] at h
    cbv
    subst h
    exact ARet.mk trivial hX.symm
end Go.Vs
namespace Go.Vs
set_option maxRecDepth 100000
def ir67 : J :=
  .seq (.reg none [⟨(some 4), none, .mv (.k (V.i 0))⟩] [0, 1])
  (.seq (.reg none [⟨(some 6), none, .mv (.t 1)⟩,
     ⟨(some 7), none, .mv (.t 0)⟩,
     ⟨(some 8), none, .len false (.t 7)⟩,
     ⟨(some 9), none, .bin .sub .i (.t 6) (.t 8)⟩,
     ⟨(some 1), none, .mv (.t 9)⟩] [0, 1])
  (.seq (.seq (.reg none [⟨(some 10), none, .mv (.t 1)⟩,
      ⟨(some 11), none, .bin .lss .i (.t 10) (.k (V.i 0))⟩] [0, 1, 11])
   (.cond (.t 11)
    (.seq (.reg none [⟨(some 4), none, .mv (.k (V.i (-1)))⟩] [4])
     (.ret))
    (.skip)))
  (.seq (.seq (.reg none [⟨(some 5), none, .mv (.k (V.i 0))⟩] [0, 1, 5])
   (.bl 0 (.seq (.seq (.reg none [⟨(some 12), none, .mv (.t 5)⟩,
        ⟨(some 13), none, .mv (.t 0)⟩,
        ⟨(some 14), none, .len false (.t 13)⟩,
        ⟨(some 15), none, .bin .lss .i (.t 12) (.t 14)⟩] [0, 1, 5, 15])
     (.cond (.t 15)
      (.skip)
      (.exit 0)))
    (.seq (.block 1 (.seq (.reg none [⟨(some 18), none, .mv (.t 1)⟩,
         ⟨(some 19), none, .mv (.t 0)⟩,
         ⟨(some 20), none, .mv (.t 5)⟩,
         ⟨(some 21), none, .ia 1 (.t 19) (.t 20)⟩,
         ⟨(some 22), none, .ld false 1 (.t 21)⟩,
         ⟨(some 23), none, .len true (.t 22)⟩,
         ⟨(some 24), none, .bin .sub .i (.t 18) (.t 23)⟩,
         ⟨(some 1), none, .mv (.t 24)⟩] [0, 1, 5])
      (.seq (.reg none [⟨(some 25), none, .mv (.t 1)⟩,
         ⟨(some 26), none, .bin .lss .i (.t 25) (.k (V.i 0))⟩] [0, 1, 5, 26])
      (.cond (.t 26)
       (.seq (.reg none [⟨(some 4), none, .mv (.k (V.i (-1)))⟩] [4])
        (.ret))
       (.skip)))))
    (.reg none [⟨(some 16), none, .mv (.t 5)⟩,
      ⟨(some 17), none, .bin .add .i (.t 16) (.k (V.i 1))⟩,
      ⟨(some 5), none, .mv (.t 17)⟩] [0, 1, 5])))))
  (.seq (.reg none [⟨(some 27), none, .mv (.t 1)⟩,
     ⟨(some 4), none, .mv (.t 27)⟩] [4])
  (.ret)))))
def rv67 : List RV := [.t 4]
open Go.Proofs Go.IntWalk
set_option linter.unusedVariables false
set_option maxRecDepth 100000
set_option maxHeartbeats 4000000
def L_szStringS_l1 (g : G) (t : TE) : List ByteArray → Int → LR Int Int
  | [], v1 =>
    (LR.out v1)
  | z1 :: ls1, v1 =>
    br (g.lt (g.wrap .i64 (g.sub v1 (g.int (g.slen z1)))) 0)
    (
     (LR.ret (-1)))
    (
     L_szStringS_l1 g t ls1 (g.wrap .i64 (g.sub v1 (g.int (g.slen z1)))))
def L_szStringS (g : G) (t : TE) (a0 : List ByteArray) (a1 : Int) : Int :=
  br (g.lt (g.wrap .i64 (g.sub a1 (g.llen (t.r_S a0)))) 0)
  (
   (-1))
  (
   lP (L_szStringS_l1 g t a0 (g.wrap .i64 (g.sub a1 (g.llen (t.r_S a0))))) fun o1 => lrp o1 fun y1 =>
   y1)
theorem fit67 : codeFit Try.prog Try.f67.ntmps (Try.f67.body.getD .skip) ir67 = true := by kernel_rfl
theorem c_L_szStringS {g : G} {t : TE} {a0 : List ByteArray} {a1 : Int} {r : Int} (hg : g = G.real) (ht : t = TE.real) (h : L_szStringS g t a0 a1 = r) : Fn Try.prog 67 [.c (.s 1 (t.r_S a0)), .c (.v (.int .i64 a1))] (.c (.r (.v (.int .i64 r)))) := by
  obtain ⟨X, hX⟩ := hide (.c (.r (.v (.int .i64 r))) : X)
  rw [← hX]
  refine fn_of (rvs := rv67) (j := ir67) Try.func67 rfl fit67 (Nat.le_of_ble_eq_true rfl) (by kernel_rfl) prog_mixed ?_
  intro g2 F hg2 hF
  obtain rfl : g2 = g := hg2.unique.trans hg.symm
  clear hg2
  obtain ⟨wrap, lt, le, eq, quo, rem, band, bor, bxor, shl, shr, nat, int, add, sub, mul, cat, seq, slt, sub3, byte, llen, nadd, nsub, dlen, dapp, dset, drep, rd, rda, up, rsub, dsub, all, sle, slen⟩ := g2
  obtain ⟨r_S, d_S, r_Trip, d_Trip, r_Leg, d_Leg, r_I64, d_I64, r_Order, d_Order, r_Booking, d_Booking, r_Scan, d_Scan, r_U8, d_U8, r_LI64, d_LI64⟩ := t
  unfold L_szStringS at h
  try dsimp only at h
  cbv
  cases hb1 : (lt (wrap .i64 (sub a1 (llen (r_S a0)))) 0) with
  | true =>
    rw [br_true hb1] at h
    cbv
    subst h
    exact ARet.mk trivial hX.symm
  | false =>
    rw [br_false hb1] at h
    cbv
    obtain ⟨o1, ho1, h⟩ := of_lP h
    try dsimp only at h
    try rw [hg] at ho1
    try rw [ht] at ho1
    refine ABL.mk { p : Nat × Int × Int // p.1 ≤ a0.length ∧ p.2.1 = ((p.1 : Nat) : Int) ∧ L_szStringS_l1 G.real TE.real (List.drop p.1 a0) p.2.2 = o1 } (fun ⟨⟨k1, v2, v1⟩, _⟩ => ({ sl := [(0, .c (.r (.s 1 (r_S a0)))), (1, .c (.r (.v (.int .i64 v1)))), (5, .c (.r (.v (.int .i64 v2))))], tab := [] } : St)) 0 (fun p => a0.length - p.1.1) ⟨(0, 0, (wrap .i64 (sub a1 (llen (r_S a0))))), Nat.zero_le _, rfl, ho1⟩ (Int) (fun y1 => ({ sl := [(1, .c (.r (.v (.int .i64 y1))))], tab := [] } : St)) 0 (fun y => o1 = LR.out y) ?_ ?_ ?_
    · refine Wk.of [] rfl rfl ?_ ?_
      · cbv
        all_goals exact ⟨⟨_, rfl, rfl⟩, ⟨_, rfl, rfl⟩, ⟨_, rfl, rfl⟩, trivial⟩
      · cbv
        all_goals exact trivial
    · rintro ⟨⟨k1, v2, v1⟩, hk1, hi1, h_1⟩ hq1
      have hm1 := (hq1.1 0 _ _ rfl)
      try dsimp only at hk1 hi1 h_1
      clear hq1
      cbv
      by_cases hc1_ : k1 < a0.length
      · have hb2 : lt v2 (llen (r_S a0)) = true := ltL_true_S hg ht hi1 hc1_
        have hs1 := stepL_S hg ht hi1 hc1_ hm1
        obtain ⟨z1, hz1⟩ := some_of_lt hc1_
        rw [drop_of_some hz1] at h_1
        rw [L_szStringS_l1] at h_1
        try rw [← hg] at h_1
        try rw [← ht] at h_1
        try dsimp only at h_1
        rw [hb2]
        cbv
        refine AStep.mk (nn_L hi1) ?_
        cbv
        refine AGet.mk _ (r_getL_S hg ht hi1 hz1) ?_
        cbv
        cases hb3 : (lt (wrap .i64 (sub v1 (int (slen z1)))) 0) with
        | true =>
          rw [br_true hb3] at h_1
          cbv
          subst h_1
          try dsimp only [lr, lrL, lrp, lrpL] at h
          subst h
          exact ARet.mk trivial hX.symm
        | false =>
          rw [br_false hb3] at h_1
          cbv
          try rw [hg] at h_1
          try rw [ht] at h_1
          refine ⟨⟨(k1 + 1, (wrap .i64 (add v2 1)), (wrap .i64 (sub v1 (int (slen z1))))), hc1_, hs1, h_1⟩, Wk.of [] rfl rfl ?_ ?_, meas_L hc1_⟩
          · cbv
            all_goals exact ⟨⟨_, rfl, rfl⟩, ⟨_, rfl, rfl⟩, ⟨_, rfl, rfl⟩, trivial⟩
          · cbv
            all_goals exact trivial
      · have hb2 : lt v2 (llen (r_S a0)) = false := ltL_false_S hg ht hi1 hc1_
        rw [List.drop_of_length_le (Nat.le_of_not_lt hc1_)] at h_1
        rw [L_szStringS_l1] at h_1
        try rw [← hg] at h_1
        try rw [← ht] at h_1
        try dsimp only at h_1
        rw [hb2]
        cbv
        refine ⟨v1, Wk.of [] rfl rfl ?_ ?_, h_1.symm⟩
        · cbv
          all_goals exact ⟨⟨_, rfl, rfl⟩, trivial⟩
        · cbv
          all_goals exact trivial
    · rintro y1 hy1
      replace hy1 := hy1.symm
      subst hy1
      try dsimp only [lr, lrL, lrp, lrpL] at h
      cbv
      subst h
      exact ARet.mk trivial hX.symm
end Go.Vs
namespace Go.Vs
set_option maxRecDepth 100000
def ir19 : J :=
  .seq (.reg none [⟨(some 1), none, .box (.t 0)⟩,
     ⟨(some 2), none, .mv (.k (V.i 0))⟩] [1])
  (.seq (.reg none [⟨(some 3), none, .fa 0 (.t 1)⟩,
     ⟨(some 4), none, .ld false 1 (.t 3)⟩,
     ⟨(some 5), none, .len false (.t 4)⟩,
     ⟨(some 6), none, .fa 1 (.t 1)⟩,
     ⟨(some 7), none, .ld false 1 (.t 6)⟩,
     ⟨(some 8), none, .len false (.t 7)⟩,
     ⟨(some 9), none, .bin .add .i (.t 5) (.t 8)⟩,
     ⟨(some 2), none, .mv (.t 9)⟩] [2])
  (.ret))
def rv19 : List RV := [.t 2]
open Go.Proofs Go.IntWalk
set_option linter.unusedVariables false
set_option maxRecDepth 100000
set_option maxHeartbeats 4000000
def S_Doubt (g : G) (t : TE) (a0 : Belief) : Int :=
  (g.wrap .i64 (g.add (g.llen (t.r_S a0.Places)) (g.llen (t.r_Trip a0.Rides))))
theorem fit19 : codeFit Try.prog Try.f19.ntmps (Try.f19.body.getD .skip) ir19 = true := by kernel_rfl
theorem c_S_Doubt {g : G} {t : TE} {a0 : Belief} {r : Int} (hg : g = G.real) (ht : t = TE.real) (h : S_Doubt g t a0 = r) : Fn Try.prog 19 [.g (Belief.rs t a0)] (.c (.r (.v (.int .i64 r)))) := by
  obtain ⟨X, hX⟩ := hide (.c (.r (.v (.int .i64 r))) : X)
  rw [← hX]
  refine fn_of (rvs := rv19) (j := ir19) Try.func19 rfl fit19 (Nat.le_of_ble_eq_true rfl) (by kernel_rfl) prog_mixed ?_
  intro g2 F hg2 hF
  obtain rfl : g2 = g := hg2.unique.trans hg.symm
  clear hg2
  obtain ⟨wrap, lt, le, eq, quo, rem, band, bor, bxor, shl, shr, nat, int, add, sub, mul, cat, seq, slt, sub3, byte, llen, nadd, nsub, dlen, dapp, dset, drep, rd, rda, up, rsub, dsub, all, sle, slen⟩ := g2
  obtain ⟨r_S, d_S, r_Trip, d_Trip, r_Leg, d_Leg, r_I64, d_I64, r_Order, d_Order, r_Booking, d_Booking, r_Scan, d_Scan, r_U8, d_U8, r_LI64, d_LI64⟩ := t
  obtain ⟨a0_Places, a0_Rides⟩ := a0
  unfold S_Doubt at h
  try dsimp only at h
  cbv
  subst h
  exact ARet.mk trivial hX.symm
end Go.Vs
namespace Go.Vs
set_option maxRecDepth 100000
def ir68 : J :=
  .seq (.reg none [⟨(some 2), none, .mv (.k (.c (.n 1)))⟩] [0])
  (.seq (.reg none [⟨(some 5), none, .mv (.t 0)⟩,
     ⟨(some 6), none, .len false (.t 5)⟩,
     ⟨(some 7), none, .mk 1 16 [.r (.v (.string .empty))] (.t 6)⟩,
     ⟨(some 3), none, .mv (.t 7)⟩] [0, 3])
  (.seq (.seq (.reg none [⟨(some 4), none, .mv (.k (V.i 0))⟩] [0, 3, 4])
   (.bl 0 (.seq (.seq (.reg none [⟨(some 8), none, .mv (.t 4)⟩,
        ⟨(some 9), none, .mv (.t 0)⟩,
        ⟨(some 10), none, .len false (.t 9)⟩,
        ⟨(some 11), none, .bin .lss .i (.t 8) (.t 10)⟩] [0, 3, 4, 11])
     (.cond (.t 11)
      (.skip)
      (.exit 0)))
    (.seq (.block 1 (.reg none [⟨(some 14), none, .mv (.t 3)⟩,
        ⟨(some 15), none, .mv (.t 4)⟩,
        ⟨(some 16), none, .mv (.t 0)⟩,
        ⟨(some 17), none, .mv (.t 4)⟩,
        ⟨(some 18), none, .ia 1 (.t 16) (.t 17)⟩,
        ⟨(some 19), none, .ld false 1 (.t 18)⟩,
        ⟨(some 20), none, .ia 1 (.t 14) (.t 15)⟩,
        ⟨none, none, .st 1 (.t 20) (.t 19)⟩] [0, 3, 4]))
    (.reg none [⟨(some 12), none, .mv (.t 4)⟩,
      ⟨(some 13), none, .bin .add .i (.t 12) (.k (V.i 1))⟩,
      ⟨(some 4), none, .mv (.t 13)⟩] [0, 3, 4])))))
  (.seq (.reg none [⟨(some 21), none, .mv (.t 3)⟩,
     ⟨(some 2), none, .mv (.t 21)⟩] [2])
  (.ret))))
def rv68 : List RV := [.t 2]
open Go.Proofs Go.IntWalk
set_option linter.unusedVariables false
set_option maxRecDepth 100000
set_option maxHeartbeats 4000000
def L_toStringS_l1 (g : G) (t : TE) : List ByteArray → Int → List ByteArray → Option (List ByteArray)
  | [], v1, w1 =>
    some w1
  | z1 :: ls1, v1, w1 =>
    gd ((0 ≤ v1 ∧ v1 < (((g.dlen (t.d_S w1)) : Nat) : Int))) <|
    gt w1 (g.nat v1) fun x1 =>
    lP (List.set w1 (g.nat v1) z1) fun (l2 : List ByteArray) =>
    L_toStringS_l1 g t ls1 (g.wrap .i64 (g.add v1 1)) l2
def L_toStringS (g : G) (t : TE) (a0 : List ByteArray) : Option (List ByteArray) :=
  gd ((0 ≤ (g.llen (t.r_S a0)) ∧ 16 * (g.llen (t.r_S a0)) ≤ 70368744177664 ∧ (g.llen (t.r_S a0)) ≤ 4611686018427387904)) <|
  lP (List.replicate (g.nat (g.llen (t.r_S a0))) ByteArray.empty) fun (l1 : List ByteArray) =>
  cl (L_toStringS_l1 g t a0 0 l1) fun y1 =>
  some y1
theorem fit68 : codeFit Try.prog Try.f68.ntmps (Try.f68.body.getD .skip) ir68 = true := by kernel_rfl
theorem c_L_toStringS {g : G} {t : TE} {a0 : List ByteArray} {r : List ByteArray} (hg : g = G.real) (ht : t = TE.real) (h : L_toStringS g t a0 = some r) : Fn Try.prog 68 [.c (.s 1 (t.r_S a0))] (.c (.o 1 (t.d_S r))) := by
  obtain ⟨X, hX⟩ := hide (.c (.o 1 (t.d_S r)) : X)
  rw [← hX]
  refine fn_of (rvs := rv68) (j := ir68) Try.func68 rfl fit68 (Nat.le_of_ble_eq_true rfl) (by kernel_rfl) prog_mixed ?_
  intro g2 F hg2 hF
  obtain rfl : g2 = g := hg2.unique.trans hg.symm
  clear hg2
  obtain ⟨wrap, lt, le, eq, quo, rem, band, bor, bxor, shl, shr, nat, int, add, sub, mul, cat, seq, slt, sub3, byte, llen, nadd, nsub, dlen, dapp, dset, drep, rd, rda, up, rsub, dsub, all, sle, slen⟩ := g2
  obtain ⟨r_S, d_S, r_Trip, d_Trip, r_Leg, d_Leg, r_I64, d_I64, r_Order, d_Order, r_Booking, d_Booking, r_Scan, d_Scan, r_U8, d_U8, r_LI64, d_LI64⟩ := t
  unfold L_toStringS at h
  try dsimp only at h
  cbv
  obtain ⟨hc2, h⟩ := of_gd h
  refine AStep.mk (mk_ok hc2) ?_
  cbv
  obtain ⟨l1, hl1, h⟩ := of_lP h
  try dsimp only at h
  refine ANew.mk (d_S l1) (dlen (d_S l1)) (by rw [← hl1]; exact drep_S hg ht _ ByteArray.empty) (by rw [← hl1]; exact drepn_S hg ht _ ByteArray.empty) ?_
  cbv
  obtain ⟨o1, ho1, h⟩ := of_cl h
  try dsimp only at h
  try rw [hg] at ho1
  try rw [ht] at ho1
  refine ABL.mk { p : Nat × Int × List ByteArray // p.1 ≤ a0.length ∧ p.2.1 = ((p.1 : Nat) : Int) ∧ L_toStringS_l1 G.real TE.real (List.drop p.1 a0) p.2.1 p.2.2 = some o1 } (fun ⟨⟨k1, v1, w1⟩, _⟩ => ({ sl := [(0, .c (.r (.s 1 (r_S a0)))), (3, .c (.f 0 1 0 (dlen (d_S w1)))), (4, .c (.r (.v (.int .i64 v1))))], tab := [(0, some (.arr 1 (d_S w1)))] } : St)) 1 (fun p => a0.length - p.1.1) ⟨(0, 0, l1), Nat.zero_le _, rfl, ho1⟩ (List ByteArray) (fun y1 => ({ sl := [(3, .c (.f 0 1 0 (dlen (d_S y1))))], tab := [(0, some (.arr 1 (d_S y1)))] } : St)) 1 (fun y => o1 = y) ?_ ?_ ?_
  · refine Wk.of [(0, some 48)] rfl rfl ?_ ?_
    · cbv
      all_goals exact ⟨⟨_, rfl, rfl⟩, ⟨_, rfl, rfl⟩, ⟨_, rfl, rfl⟩, trivial⟩
    · cbv
      all_goals exact ⟨⟨_, rfl, rfl⟩, trivial⟩
  · rintro ⟨⟨k1, v1, w1⟩, hk1, hi1, h_1⟩ hq1
    have hm1 := (hq1.1 0 _ _ rfl)
    try dsimp only at hk1 hi1 h_1
    clear hq1
    cbv
    by_cases hc1_ : k1 < a0.length
    · have hb1 : lt v1 (llen (r_S a0)) = true := ltL_true_S hg ht hi1 hc1_
      have hs1 := stepL_S hg ht hi1 hc1_ hm1
      obtain ⟨z1, hz1⟩ := some_of_lt hc1_
      rw [drop_of_some hz1] at h_1
      rw [L_toStringS_l1] at h_1
      try rw [← hg] at h_1
      try rw [← ht] at h_1
      try dsimp only at h_1
      rw [hb1]
      cbv
      refine AStep.mk (nn_L hi1) ?_
      cbv
      refine AGet.mk _ (r_getL_S hg ht hi1 hz1) ?_
      cbv
      obtain ⟨hc1, h_1⟩ := of_gd h_1
      refine AStep.mk hc1 ?_
      cbv
      obtain ⟨x1, hx1, h_1⟩ := of_gt h_1
      try dsimp only at h_1
      refine AGet.mk _ (d_get_S hg ht hx1) ?_
      cbv
      obtain ⟨l2, hl2, h_1⟩ := of_lP h_1
      try dsimp only at h_1
      refine ANew.mk (d_S l2) _ (by rw [← hl2]; exact dset_S hg ht _ _ z1) rfl ?_
      have hnl2 : (dlen (d_S w1)) = (d_S l2).length := (by rw [← hl2, dsetl_S ht]; exact (dlen_S hg ht _))
      cbv
      try rw [hg] at h_1
      try rw [ht] at h_1
      refine ⟨⟨(k1 + 1, (wrap .i64 (add v1 1)), l2), hc1_, hs1, h_1⟩, Wk.of [(0, some 0)] rfl rfl ?_ ?_, meas_L hc1_⟩
      · cbv
        all_goals try rw [show (dlen (d_S w1)) = (dlen (d_S l2)) from (hnl2).trans (dlen_S hg ht _).symm]
        all_goals exact ⟨⟨_, rfl, rfl⟩, ⟨_, rfl, rfl⟩, ⟨_, rfl, rfl⟩, trivial⟩
      · cbv
        all_goals try rw [show (dlen (d_S w1)) = (dlen (d_S l2)) from (hnl2).trans (dlen_S hg ht _).symm]
        all_goals exact ⟨⟨_, rfl, rfl⟩, trivial⟩
    · have hb1 : lt v1 (llen (r_S a0)) = false := ltL_false_S hg ht hi1 hc1_
      rw [List.drop_of_length_le (Nat.le_of_not_lt hc1_)] at h_1
      rw [L_toStringS_l1] at h_1
      try rw [← hg] at h_1
      try rw [← ht] at h_1
      try dsimp only at h_1
      rw [hb1]
      cbv
      refine ⟨w1, Wk.of [(0, some 0)] rfl rfl ?_ ?_, (Option.some.inj h_1).symm⟩
      · cbv
        all_goals exact ⟨⟨_, rfl, rfl⟩, trivial⟩
      · cbv
        all_goals exact ⟨⟨_, rfl, rfl⟩, trivial⟩
  · rintro y1 hy1
    replace hy1 := hy1.symm
    subst hy1
    try dsimp only [lr, lrL, lrp, lrpL] at h
    cbv
    obtain rfl := Option.some.inj h
    exact ARet.mk ⟨rfl, (dlen_S hg ht _)⟩ hX.symm
end Go.Vs
namespace Go.Vs
set_option maxRecDepth 100000
def ir21 : J :=
  .seq (.reg none [⟨(some 1), none, .box (.t 0)⟩,
     ⟨(some 2), none, .mv (.k (V.i 0))⟩] [1])
  (.seq (.reg none [⟨(some 3), none, .fa 0 (.t 1)⟩,
     ⟨(some 4), none, .ld false 1 (.t 3)⟩,
     ⟨(some 5), none, .len false (.t 4)⟩,
     ⟨(some 6), none, .fa 1 (.t 1)⟩,
     ⟨(some 7), none, .ld false 1 (.t 6)⟩,
     ⟨(some 8), none, .len false (.t 7)⟩,
     ⟨(some 9), none, .bin .add .i (.t 5) (.t 8)⟩,
     ⟨(some 2), none, .mv (.t 9)⟩] [2])
  (.ret))
def rv21 : List RV := [.t 2]
open Go.Proofs Go.IntWalk
set_option linter.unusedVariables false
set_option maxRecDepth 100000
set_option maxHeartbeats 4000000
def I_Doubt (g : G) (t : TE) (a0 : Belief) : Int :=
  (g.wrap .i64 (g.add (g.llen (t.r_S a0.Places)) (g.llen (t.r_Trip a0.Rides))))
theorem fit21 : codeFit Try.prog Try.f21.ntmps (Try.f21.body.getD .skip) ir21 = true := by kernel_rfl
theorem c_I_Doubt {g : G} {t : TE} {a0 : Belief} {r : Int} (hg : g = G.real) (ht : t = TE.real) (h : I_Doubt g t a0 = r) : Fn Try.prog 21 [.g (Belief.rs t a0)] (.c (.r (.v (.int .i64 r)))) := by
  obtain ⟨X, hX⟩ := hide (.c (.r (.v (.int .i64 r))) : X)
  rw [← hX]
  refine fn_of (rvs := rv21) (j := ir21) Try.func21 rfl fit21 (Nat.le_of_ble_eq_true rfl) (by kernel_rfl) prog_mixed ?_
  intro g2 F hg2 hF
  obtain rfl : g2 = g := hg2.unique.trans hg.symm
  clear hg2
  obtain ⟨wrap, lt, le, eq, quo, rem, band, bor, bxor, shl, shr, nat, int, add, sub, mul, cat, seq, slt, sub3, byte, llen, nadd, nsub, dlen, dapp, dset, drep, rd, rda, up, rsub, dsub, all, sle, slen⟩ := g2
  obtain ⟨r_S, d_S, r_Trip, d_Trip, r_Leg, d_Leg, r_I64, d_I64, r_Order, d_Order, r_Booking, d_Booking, r_Scan, d_Scan, r_U8, d_U8, r_LI64, d_LI64⟩ := t
  obtain ⟨a0_Places, a0_Rides⟩ := a0
  unfold I_Doubt at h
  try dsimp only at h
  cbv
  subst h
  exact ARet.mk trivial hX.symm
end Go.Vs
namespace Go.Vs
set_option maxRecDepth 100000
def ir105 : J :=
  .seq (.reg none [⟨(some 2), none, .box (.t 0)⟩,
     ⟨(some 3), none, .box (.t 1)⟩,
     ⟨(some 4), none, .mv (.k (V.b false))⟩] [2, 3])
  (.seq (.seq (.reg none [⟨(some 5), none, .fa 0 (.t 2)⟩,
      ⟨(some 6), none, .ld false 1 (.t 5)⟩,
      ⟨(some 7), none, .fa 0 (.t 3)⟩,
      ⟨(some 8), none, .ld false 1 (.t 7)⟩,
      ⟨(some 9), none, .bin .neq .i (.t 6) (.t 8)⟩] [2, 3, 9])
   (.cond (.t 9)
    (.seq (.reg none [⟨(some 4), none, .mv (.k (V.b false))⟩] [4])
     (.ret))
    (.skip)))
  (.seq (.seq (.reg none [⟨(some 10), none, .fa 1 (.t 2)⟩,
      ⟨(some 11), none, .ld false 1 (.t 10)⟩,
      ⟨(some 12), none, .fa 1 (.t 3)⟩,
      ⟨(some 13), none, .ld false 1 (.t 12)⟩,
      ⟨(some 14), none, .bin .neq .i (.t 11) (.t 13)⟩] [14])
   (.cond (.t 14)
    (.seq (.reg none [⟨(some 4), none, .mv (.k (V.b false))⟩] [4])
     (.ret))
    (.skip)))
  (.seq (.reg none [⟨(some 4), none, .mv (.k (V.b true))⟩] [4])
  (.ret))))
def rv105 : List RV := [.t 4]
open Go.Proofs Go.IntWalk
set_option linter.unusedVariables false
set_option maxRecDepth 100000
set_option maxHeartbeats 4000000
def L_eqTrip (g : G) (t : TE) (a0 : Trip) (a1 : Trip) : Bool :=
  br (g.eq a0.Leg a1.Leg)
  (
   br (g.eq a0.Day a1.Day)
   (
    true)
   (
    false))
  (
   false)
theorem fit105 : codeFit Try.prog Try.f105.ntmps (Try.f105.body.getD .skip) ir105 = true := by kernel_rfl
theorem c_L_eqTrip {g : G} {t : TE} {a0 : Trip} {a1 : Trip} {r : Bool} (hg : g = G.real) (ht : t = TE.real) (h : L_eqTrip g t a0 a1 = r) : Fn Try.prog 105 [.g (Trip.rs t a0), .g (Trip.rs t a1)] (.c (.r (.v (.bool r)))) := by
  obtain ⟨X, hX⟩ := hide (.c (.r (.v (.bool r))) : X)
  rw [← hX]
  refine fn_of (rvs := rv105) (j := ir105) Try.func105 rfl fit105 (Nat.le_of_ble_eq_true rfl) (by kernel_rfl) prog_mixed ?_
  intro g2 F hg2 hF
  obtain rfl : g2 = g := hg2.unique.trans hg.symm
  clear hg2
  obtain ⟨wrap, lt, le, eq, quo, rem, band, bor, bxor, shl, shr, nat, int, add, sub, mul, cat, seq, slt, sub3, byte, llen, nadd, nsub, dlen, dapp, dset, drep, rd, rda, up, rsub, dsub, all, sle, slen⟩ := g2
  obtain ⟨r_S, d_S, r_Trip, d_Trip, r_Leg, d_Leg, r_I64, d_I64, r_Order, d_Order, r_Booking, d_Booking, r_Scan, d_Scan, r_U8, d_U8, r_LI64, d_LI64⟩ := t
  obtain ⟨a0_Leg, a0_Day⟩ := a0
  obtain ⟨a1_Leg, a1_Day⟩ := a1
  unfold L_eqTrip at h
  try dsimp only at h
  cbv
  cases hb1 : (eq a0_Leg a1_Leg) with
  | true =>
    rw [br_true hb1] at h
    cbv
    cases hb2 : (eq a0_Day a1_Day) with
    | true =>
      rw [br_true hb2] at h
      cbv
      subst h
      exact ARet.mk trivial hX.symm
    | false =>
      rw [br_false hb2] at h
      cbv
      subst h
      exact ARet.mk trivial hX.symm
  | false =>
    rw [br_false hb1] at h
    cbv
    subst h
    exact ARet.mk trivial hX.symm
end Go.Vs
namespace Go.Vs
set_option maxRecDepth 100000
def ir69 : J :=
  .seq (.reg none [⟨(some 4), none, .mv (.k (V.b false))⟩] [0, 1])
  (.seq (.seq (.reg none [⟨(some 6), none, .mv (.t 0)⟩,
      ⟨(some 7), none, .len false (.t 6)⟩,
      ⟨(some 8), none, .mv (.t 1)⟩,
      ⟨(some 9), none, .len false (.t 8)⟩,
      ⟨(some 10), none, .bin .neq .i (.t 7) (.t 9)⟩] [0, 1, 10])
   (.cond (.t 10)
    (.seq (.reg none [⟨(some 4), none, .mv (.k (V.b false))⟩] [4])
     (.ret))
    (.skip)))
  (.seq (.seq (.reg none [⟨(some 5), none, .mv (.k (V.i 0))⟩] [0, 1, 5])
   (.bl 0 (.seq (.seq (.reg none [⟨(some 11), none, .mv (.t 5)⟩,
        ⟨(some 12), none, .mv (.t 0)⟩,
        ⟨(some 13), none, .len false (.t 12)⟩,
        ⟨(some 14), none, .bin .lss .i (.t 11) (.t 13)⟩] [0, 1, 5, 14])
     (.cond (.t 14)
      (.skip)
      (.exit 0)))
    (.seq (.block 1 (.seq (.reg (some [[], [], [0, 1], [0, 1, 2], [], [], [4, 5], [4, 5, 6], [0, 1, 2, 3, 4, 5, 6, 7]]) [⟨(some 17), none, .mv (.t 0)⟩,
         ⟨(some 18), none, .mv (.t 5)⟩,
         ⟨(some 19), none, .ia 1 (.t 17) (.t 18)⟩,
         ⟨(some 20), none, .ld false 1 (.t 19)⟩,
         ⟨(some 21), none, .mv (.t 1)⟩,
         ⟨(some 22), none, .mv (.t 5)⟩,
         ⟨(some 23), none, .ia 1 (.t 21) (.t 22)⟩,
         ⟨(some 24), none, .ld false 1 (.t 23)⟩,
         ⟨(some 25), none, .bin .neq .s (.t 20) (.t 24)⟩] [0, 1, 5, 25])
      (.cond (.t 25)
       (.seq (.reg none [⟨(some 4), none, .mv (.k (V.b false))⟩] [4])
        (.ret))
       (.skip))))
    (.reg none [⟨(some 15), none, .mv (.t 5)⟩,
      ⟨(some 16), none, .bin .add .i (.t 15) (.k (V.i 1))⟩,
      ⟨(some 5), none, .mv (.t 16)⟩] [0, 1, 5])))))
  (.seq (.reg none [⟨(some 4), none, .mv (.k (V.b true))⟩] [4])
  (.ret))))
def rv69 : List RV := [.t 4]
open Go.Proofs Go.IntWalk
set_option linter.unusedVariables false
set_option maxRecDepth 100000
set_option maxHeartbeats 4000000
def L_eqStringS_l1 (g : G) (t : TE) (a1 : List ByteArray) : List ByteArray → Int → Option (LR Bool Unit)
  | [], v1 =>
    some (LR.out ())
  | z1 :: ls1, v1 =>
    gt a1 (g.nat v1) fun x1 =>
    br (g.seq z1 x1)
    (
     L_eqStringS_l1 g t a1 ls1 (g.wrap .i64 (g.add v1 1)))
    (
     some (LR.ret false))
def L_eqStringS (g : G) (t : TE) (a0 : List ByteArray) (a1 : List ByteArray) : Option Bool :=
  br (g.eq (g.llen (t.r_S a0)) (g.llen (t.r_S a1)))
  (
   cl (L_eqStringS_l1 g t a1 a0 0) fun o1 => lr o1 fun y1 =>
   some true)
  (
   some false)
theorem fit69 : codeFit Try.prog Try.f69.ntmps (Try.f69.body.getD .skip) ir69 = true := by kernel_rfl
theorem c_L_eqStringS {g : G} {t : TE} {a0 : List ByteArray} {a1 : List ByteArray} {r : Bool} (hg : g = G.real) (ht : t = TE.real) (h : L_eqStringS g t a0 a1 = some r) : Fn Try.prog 69 [.c (.s 1 (t.r_S a0)), .c (.s 1 (t.r_S a1))] (.c (.r (.v (.bool r)))) := by
  obtain ⟨X, hX⟩ := hide (.c (.r (.v (.bool r))) : X)
  rw [← hX]
  refine fn_of (rvs := rv69) (j := ir69) Try.func69 rfl fit69 (Nat.le_of_ble_eq_true rfl) (by kernel_rfl) prog_mixed ?_
  intro g2 F hg2 hF
  obtain rfl : g2 = g := hg2.unique.trans hg.symm
  clear hg2
  obtain ⟨wrap, lt, le, eq, quo, rem, band, bor, bxor, shl, shr, nat, int, add, sub, mul, cat, seq, slt, sub3, byte, llen, nadd, nsub, dlen, dapp, dset, drep, rd, rda, up, rsub, dsub, all, sle, slen⟩ := g2
  obtain ⟨r_S, d_S, r_Trip, d_Trip, r_Leg, d_Leg, r_I64, d_I64, r_Order, d_Order, r_Booking, d_Booking, r_Scan, d_Scan, r_U8, d_U8, r_LI64, d_LI64⟩ := t
  unfold L_eqStringS at h
  try dsimp only at h
  cbv
  cases hb1 : (eq (llen (r_S a0)) (llen (r_S a1))) with
  | true =>
    rw [br_true hb1] at h
    cbv
    obtain ⟨o1, ho1, h⟩ := of_cl h
    try dsimp only at h
    try rw [hg] at ho1
    try rw [ht] at ho1
    refine ABL.mk { p : Nat × Int // p.1 ≤ a0.length ∧ p.2 = ((p.1 : Nat) : Int) ∧ L_eqStringS_l1 G.real TE.real a1 (List.drop p.1 a0) p.2 = some o1 } (fun ⟨⟨k1, v1⟩, _⟩ => ({ sl := [(0, .c (.r (.s 1 (r_S a0)))), (1, .c (.r (.s 1 (r_S a1)))), (5, .c (.r (.v (.int .i64 v1))))], tab := [] } : St)) 0 (fun p => a0.length - p.1.1) ⟨(0, 0), Nat.zero_le _, rfl, ho1⟩ (Unit) (fun _ => ({ sl := [], tab := [] } : St)) 0 (fun y => o1 = LR.out y) ?_ ?_ ?_
    · refine Wk.of [] rfl rfl ?_ ?_
      · cbv
        all_goals exact ⟨⟨_, rfl, rfl⟩, ⟨_, rfl, rfl⟩, ⟨_, rfl, rfl⟩, trivial⟩
      · cbv
        all_goals exact trivial
    · rintro ⟨⟨k1, v1⟩, hk1, hi1, h_1⟩ hq1
      have hm1 := (hq1.1 0 _ _ rfl)
      try dsimp only at hk1 hi1 h_1
      clear hq1
      cbv
      by_cases hc1_ : k1 < a0.length
      · have hb2 : lt v1 (llen (r_S a0)) = true := ltL_true_S hg ht hi1 hc1_
        have hs1 := stepL_S hg ht hi1 hc1_ hm1
        obtain ⟨z1, hz1⟩ := some_of_lt hc1_
        rw [drop_of_some hz1] at h_1
        rw [L_eqStringS_l1] at h_1
        try rw [← hg] at h_1
        try rw [← ht] at h_1
        try dsimp only at h_1
        rw [hb2]
        cbv
        refine AStep.mk (nn_L hi1) ?_
        cbv
        refine AGet.mk _ (r_getL_S hg ht hi1 hz1) ?_
        cbv
        refine AStep.mk (nn_L hi1) ?_
        cbv
        obtain ⟨x1, hx1, h_1⟩ := of_gt h_1
        try dsimp only at h_1
        refine AGet.mk _ (r_get_S hg ht hx1) ?_
        cbv
        cases hb3 : (seq z1 x1) with
        | true =>
          rw [br_true hb3] at h_1
          cbv
          try rw [hg] at h_1
          try rw [ht] at h_1
          refine ⟨⟨(k1 + 1, (wrap .i64 (add v1 1))), hc1_, hs1, h_1⟩, Wk.of [] rfl rfl ?_ ?_, meas_L hc1_⟩
          · cbv
            all_goals exact ⟨⟨_, rfl, rfl⟩, ⟨_, rfl, rfl⟩, ⟨_, rfl, rfl⟩, trivial⟩
          · cbv
            all_goals exact trivial
        | false =>
          rw [br_false hb3] at h_1
          cbv
          obtain rfl := Option.some.inj h_1
          try dsimp only [lr, lrL, lrp, lrpL] at h
          obtain rfl := Option.some.inj h
          exact ARet.mk trivial hX.symm
      · have hb2 : lt v1 (llen (r_S a0)) = false := ltL_false_S hg ht hi1 hc1_
        rw [List.drop_of_length_le (Nat.le_of_not_lt hc1_)] at h_1
        rw [L_eqStringS_l1] at h_1
        try rw [← hg] at h_1
        try rw [← ht] at h_1
        try dsimp only at h_1
        rw [hb2]
        cbv
        refine ⟨(), Wk.of [] rfl rfl ?_ ?_, (Option.some.inj h_1).symm⟩
        · cbv
          all_goals exact trivial
        · cbv
          all_goals exact trivial
    · rintro _ hy1
      replace hy1 := hy1.symm
      subst hy1
      try dsimp only [lr, lrL, lrp, lrpL] at h
      cbv
      obtain rfl := Option.some.inj h
      exact ARet.mk trivial hX.symm
  | false =>
    rw [br_false hb1] at h
    cbv
    obtain rfl := Option.some.inj h
    exact ARet.mk trivial hX.symm
end Go.Vs
namespace Go.Vs
set_option maxRecDepth 100000
def ir72 : J :=
  .seq (.reg none [⟨(some 4), none, .mv (.k (V.i 0))⟩] [0, 1])
  (.seq (.reg none [⟨(some 5), none, .mv (.t 1)⟩,
     ⟨(some 6), none, .mv (.t 0)⟩,
     ⟨(some 7), none, .len false (.t 6)⟩,
     ⟨(some 8), none, .bin .sub .i (.t 5) (.t 7)⟩,
     ⟨(some 1), none, .mv (.t 8)⟩] [1])
  (.seq (.seq (.reg none [⟨(some 9), none, .mv (.t 1)⟩,
      ⟨(some 10), none, .bin .lss .i (.t 9) (.k (V.i 0))⟩] [1, 10])
   (.cond (.t 10)
    (.seq (.reg none [⟨(some 4), none, .mv (.k (V.i (-1)))⟩] [4])
     (.ret))
    (.skip)))
  (.seq (.reg none [⟨(some 11), none, .mv (.t 1)⟩,
     ⟨(some 4), none, .mv (.t 11)⟩] [4])
  (.ret))))
def rv72 : List RV := [.t 4]
open Go.Proofs Go.IntWalk
set_option linter.unusedVariables false
set_option maxRecDepth 100000
set_option maxHeartbeats 4000000
def L_szIntS (g : G) (t : TE) (a0 : List Int) (a1 : Int) : Int :=
  br (g.lt (g.wrap .i64 (g.sub a1 (g.llen (t.r_I64 a0)))) 0)
  (
   (-1))
  (
   (g.wrap .i64 (g.sub a1 (g.llen (t.r_I64 a0)))))
theorem fit72 : codeFit Try.prog Try.f72.ntmps (Try.f72.body.getD .skip) ir72 = true := by kernel_rfl
theorem c_L_szIntS {g : G} {t : TE} {a0 : List Int} {a1 : Int} {r : Int} (hg : g = G.real) (ht : t = TE.real) (h : L_szIntS g t a0 a1 = r) : Fn Try.prog 72 [.c (.s 1 (t.r_I64 a0)), .c (.v (.int .i64 a1))] (.c (.r (.v (.int .i64 r)))) := by
  obtain ⟨X, hX⟩ := hide (.c (.r (.v (.int .i64 r))) : X)
  rw [← hX]
  refine fn_of (rvs := rv72) (j := ir72) Try.func72 rfl fit72 (Nat.le_of_ble_eq_true rfl) (by kernel_rfl) prog_mixed ?_
  intro g2 F hg2 hF
  obtain rfl : g2 = g := hg2.unique.trans hg.symm
  clear hg2
  obtain ⟨wrap, lt, le, eq, quo, rem, band, bor, bxor, shl, shr, nat, int, add, sub, mul, cat, seq, slt, sub3, byte, llen, nadd, nsub, dlen, dapp, dset, drep, rd, rda, up, rsub, dsub, all, sle, slen⟩ := g2
  obtain ⟨r_S, d_S, r_Trip, d_Trip, r_Leg, d_Leg, r_I64, d_I64, r_Order, d_Order, r_Booking, d_Booking, r_Scan, d_Scan, r_U8, d_U8, r_LI64, d_LI64⟩ := t
  unfold L_szIntS at h
  try dsimp only at h
  cbv
  cases hb1 : (lt (wrap .i64 (sub a1 (llen (r_I64 a0)))) 0) with
  | true =>
    rw [br_true hb1] at h
    cbv
    subst h
    exact ARet.mk trivial hX.symm
  | false =>
    rw [br_false hb1] at h
    cbv
    subst h
    exact ARet.mk trivial hX.symm
end Go.Vs
namespace Go.Vs
set_option maxRecDepth 100000
def ir124 : J :=
  .seq (.reg none [⟨(some 2), none, .box (.t 0)⟩,
     ⟨(some 4), none, .mv (.k (V.i 0))⟩] [1, 2])
  (.seq (.reg none [⟨(some 5), none, .mv (.t 1)⟩,
     ⟨(some 6), none, .fa 0 (.t 2)⟩,
     ⟨(some 7), none, .ld false 1 (.t 6)⟩,
     ⟨(some 8), none, .len true (.t 7)⟩,
     ⟨(some 9), none, .bin .sub .i (.t 5) (.t 8)⟩,
     ⟨(some 1), none, .mv (.t 9)⟩] [1, 2])
  (.seq (.seq (.reg none [⟨(some 10), none, .mv (.t 1)⟩,
      ⟨(some 11), none, .bin .lss .i (.t 10) (.k (V.i 0))⟩] [1, 2, 11])
   (.cond (.t 11)
    (.seq (.reg none [⟨(some 4), none, .mv (.k (V.i (-1)))⟩] [4])
     (.ret))
    (.skip)))
  (.seq (.reg none [⟨(some 12), none, .mv (.t 1)⟩,
     ⟨(some 13), none, .fa 1 (.t 2)⟩,
     ⟨(some 14), none, .ld false 1 (.t 13)⟩,
     ⟨(some 15), none, .len true (.t 14)⟩,
     ⟨(some 16), none, .bin .sub .i (.t 12) (.t 15)⟩,
     ⟨(some 1), none, .mv (.t 16)⟩] [1])
  (.seq (.seq (.reg none [⟨(some 17), none, .mv (.t 1)⟩,
      ⟨(some 18), none, .bin .lss .i (.t 17) (.k (V.i 0))⟩] [1, 18])
   (.cond (.t 18)
    (.seq (.reg none [⟨(some 4), none, .mv (.k (V.i (-1)))⟩] [4])
     (.ret))
    (.skip)))
  (.seq (.reg none [⟨(some 19), none, .mv (.t 1)⟩,
     ⟨(some 4), none, .mv (.t 19)⟩] [4])
  (.ret))))))
def rv124 : List RV := [.t 4]
open Go.Proofs Go.IntWalk
set_option linter.unusedVariables false
set_option maxRecDepth 100000
set_option maxHeartbeats 4000000
def L_szLeg (g : G) (t : TE) (a0 : Leg) (a1 : Int) : Int :=
  br (g.lt (g.wrap .i64 (g.sub a1 (g.int (g.slen a0.From)))) 0)
  (
   (-1))
  (
   br (g.lt (g.wrap .i64 (g.sub (g.wrap .i64 (g.sub a1 (g.int (g.slen a0.From)))) (g.int (g.slen a0.To)))) 0)
   (
    (-1))
   (
    (g.wrap .i64 (g.sub (g.wrap .i64 (g.sub a1 (g.int (g.slen a0.From)))) (g.int (g.slen a0.To))))))
theorem fit124 : codeFit Try.prog Try.f124.ntmps (Try.f124.body.getD .skip) ir124 = true := by kernel_rfl
theorem c_L_szLeg {g : G} {t : TE} {a0 : Leg} {a1 : Int} {r : Int} (hg : g = G.real) (ht : t = TE.real) (h : L_szLeg g t a0 a1 = r) : Fn Try.prog 124 [.g (Leg.rs t a0), .c (.v (.int .i64 a1))] (.c (.r (.v (.int .i64 r)))) := by
  obtain ⟨X, hX⟩ := hide (.c (.r (.v (.int .i64 r))) : X)
  rw [← hX]
  refine fn_of (rvs := rv124) (j := ir124) Try.func124 rfl fit124 (Nat.le_of_ble_eq_true rfl) (by kernel_rfl) prog_mixed ?_
  intro g2 F hg2 hF
  obtain rfl : g2 = g := hg2.unique.trans hg.symm
  clear hg2
  obtain ⟨wrap, lt, le, eq, quo, rem, band, bor, bxor, shl, shr, nat, int, add, sub, mul, cat, seq, slt, sub3, byte, llen, nadd, nsub, dlen, dapp, dset, drep, rd, rda, up, rsub, dsub, all, sle, slen⟩ := g2
  obtain ⟨r_S, d_S, r_Trip, d_Trip, r_Leg, d_Leg, r_I64, d_I64, r_Order, d_Order, r_Booking, d_Booking, r_Scan, d_Scan, r_U8, d_U8, r_LI64, d_LI64⟩ := t
  obtain ⟨a0_From, a0_To, a0_Start, a0_Takes, a0_Days, a0_Room⟩ := a0
  unfold L_szLeg at h
  try dsimp only at h
  cbv
  cases hb1 : (lt (wrap .i64 (sub a1 (int (slen a0_From)))) 0) with
  | true =>
    rw [br_true hb1] at h
    cbv
    subst h
    exact ARet.mk trivial hX.symm
  | false =>
    rw [br_false hb1] at h
    cbv
    cases hb2 : (lt (wrap .i64 (sub (wrap .i64 (sub a1 (int (slen a0_From)))) (int (slen a0_To)))) 0) with
    | true =>
      rw [br_true hb2] at h
      cbv
      subst h
      exact ARet.mk trivial hX.symm
    | false =>
      rw [br_false hb2] at h
      cbv
      subst h
      exact ARet.mk trivial hX.symm
end Go.Vs
