/- Part of the proofs of this seat's laws: Lad. No condition. -/
import Derived.Test.YtieeagobedjogaaTy
import Derived.Test.YtieeagobedjogaaTIRall
import Derived.Test.YtieeagobedjogaaLac
import Derived.Test.YtieeagobedjogaaLab
set_option linter.unusedVariables false
set_option linter.unusedSimpArgs false
set_option linter.unusedSectionVars false
namespace Go.Vs
set_option maxRecDepth 100000
def ir65 : J :=
  .seq (.reg none [⟨(some 4), none, .mv (.k (V.i 0))⟩] [0, 1])
  (.seq (.seq (.reg none [⟨(some 5), none, .mv (.k (V.i 0))⟩] [0, 1, 5])
   (.bl 0 (.seq (.seq (.reg none [⟨(some 6), none, .mv (.t 5)⟩,
        ⟨(some 7), none, .mv (.t 0)⟩,
        ⟨(some 8), none, .len false (.t 7)⟩,
        ⟨(some 9), none, .bin .lss .i (.t 6) (.t 8)⟩] [0, 1, 5, 9])
     (.cond (.t 9)
      (.skip)
      (.exit 0)))
    (.seq (.block 1 (.seq (.reg none [⟨(some 12), none, .mv (.t 0)⟩,
         ⟨(some 13), none, .mv (.t 5)⟩,
         ⟨(some 14), none, .mv (.t 1)⟩,
         ⟨(some 15), none, .ia 2 (.t 12) (.t 13)⟩,
         ⟨(some 16), none, .fa 0 (.t 15)⟩,
         ⟨none, none, .st 1 (.t 16) (.t 14)⟩] [0, 1, 5])
      (.seq (.reg none [⟨(some 17), none, .mv (.t 1)⟩,
         ⟨(some 18), none, .bin .add .i (.t 17) (.k (V.i 1))⟩,
         ⟨(some 1), none, .mv (.t 18)⟩] [0, 1, 5])
      (.seq (.reg none [⟨(some 19), none, .mv (.t 0)⟩,
         ⟨(some 20), none, .mv (.t 5)⟩,
         ⟨(some 21), none, .mv (.t 1)⟩,
         ⟨(some 22), none, .ia 2 (.t 19) (.t 20)⟩,
         ⟨(some 23), none, .fa 1 (.t 22)⟩,
         ⟨none, none, .st 1 (.t 23) (.t 21)⟩] [0, 1, 5])
      (.reg none [⟨(some 24), none, .mv (.t 1)⟩,
        ⟨(some 25), none, .bin .add .i (.t 24) (.k (V.i 1))⟩,
        ⟨(some 1), none, .mv (.t 25)⟩] [0, 1, 5])))))
    (.reg none [⟨(some 10), none, .mv (.t 5)⟩,
      ⟨(some 11), none, .bin .add .i (.t 10) (.k (V.i 1))⟩,
      ⟨(some 5), none, .mv (.t 11)⟩] [0, 1, 5])))))
  (.seq (.reg none [⟨(some 26), none, .mv (.t 1)⟩,
     ⟨(some 4), none, .mv (.t 26)⟩] [4])
  (.ret)))
def rv65 : List RV := [.t 4]
open Go.Proofs Go.IntWalk
set_option linter.unusedVariables false
set_option maxRecDepth 100000
set_option maxHeartbeats 4000000
def L_markItemS_l1 (g : G) (t : TE) : Nat → List Item → Int → Int → Option ((List Item) × Int)
  | 0, _, _, _ => none
  | n1 + 1, w1, v1, v2 =>
    br (g.lt v2 (g.int (g.dlen (t.d_Item w1))))
    (
     gd (((0 : Int) ≤ v2 ∧ v2 < (((g.dlen (t.d_Item w1)) : Nat) : Int))) <|
     gt w1 (g.nat v2) fun x1 =>
     lP (List.set w1 (g.nat v2) (Item.mk v1 x1.Dest)) fun (l1 : List Item) =>
     gd (((0 : Int) ≤ v2 ∧ v2 < (((g.dlen (t.d_Item w1)) : Nat) : Int))) <|
     gt l1 (g.nat v2) fun x2 =>
     lP (List.set l1 (g.nat v2) (Item.mk x2.Id (g.wrap .i64 (g.add v1 1)))) fun (l2 : List Item) =>
     L_markItemS_l1 g t n1 l2 (g.wrap .i64 (g.add (g.wrap .i64 (g.add v1 1)) 1)) (g.wrap .i64 (g.add v2 1)))
    (
     some (w1, v1))
def L_markItemS (g : G) (t : TE) (a0 : List Item) (a1 : Int) : Option (Int × (List Item)) :=
  cl (L_markItemS_l1 g t 1000000000 a0 a1 0) fun y1 =>
  gd ((y1.1.length = a0.length)) <|
  some ((y1.2, y1.1))
theorem fit65 : codeFit Try.prog Try.f65.ntmps (Try.f65.body.getD .skip) ir65 = true := by kernel_rfl
theorem c_L_markItemS {g : G} {t : TE} {a0 : List Item} {a1 : Int} {r : Int × (List Item)} (hg : g = G.real) (ht : t = TE.real) (h : L_markItemS g t a0 a1 = some r) : FnM Try.prog 65 (.m (.o 2 (t.d_Item a0))) [.c (.v (.int .i64 a1))] (.c (.r (.v (.int .i64 r.1)))) (.m (.o 2 (t.d_Item r.2))) := by
  obtain ⟨X, hX⟩ := hide (.c (.r (.v (.int .i64 r.1))) : X)
  obtain ⟨Y, hY⟩ := hide (.m (.o 2 (t.d_Item r.2)) : AM)
  rw [← hX, ← hY]
  refine fnM_of (rvs := rv65) (j := ir65) Try.func65 rfl fit65 (Nat.le_of_ble_eq_true rfl) (by kernel_rfl) prog_mixed ?_
  intro g2 F hg2 hF
  obtain rfl : g2 = g := hg2.unique.trans hg.symm
  clear hg2
  obtain ⟨wrap, lt, le, eq, quo, rem, band, bor, bxor, shl, shr, nat, int, add, sub, mul, cat, seq, slt, sub3, byte, llen, nadd, nsub, dlen, dapp, dset, drep, rd, rda, up, rsub, dsub, all, sle, slen, hasI, putI, hasS, putS, imin, imax, fzc⟩ := g2
  obtain ⟨r_Item, d_Item, r_Chute, d_Chute, r_Inlet, d_Inlet, r_I64, d_I64, r_U8, d_U8, d_InletF⟩ := t
  unfold L_markItemS at h
  try dsimp only at h
  cbv
  obtain ⟨o1, ho1, h⟩ := of_cl h
  try dsimp only at h
  try rw [hg] at ho1
  try rw [ht] at ho1
  refine ABL.mk { p : Nat × (List Item) × Int × Int // L_markItemS_l1 G.real TE.real p.1 p.2.1 p.2.2.1 p.2.2.2 = some o1 } (fun ⟨⟨n1, w1, v1, v2⟩, _⟩ => ({ sl := [(0, .c (.f 0 2 0 (dlen (d_Item w1)))), (1, .c (.r (.v (.int .i64 v1)))), (5, .c (.r (.v (.int .i64 v2))))], tab := [(0, some (.arr 2 (d_Item w1)))] } : St)) 1 (fun p => p.1.1) ⟨(1000000000, a0, a1, 0), ho1⟩ ((List Item) × Int) (fun ⟨y1_1, y1_2⟩ => ({ sl := [(1, .c (.r (.v (.int .i64 y1_2))))], tab := [(0, some (.arr 2 (d_Item y1_1)))] } : St)) 1 (fun y => o1 = y) ?_ ?_ ?_
  · refine Wk.of [(0, some 0)] rfl rfl ?_ ?_
    · cbv
      all_goals exact ⟨⟨_, rfl, rfl⟩, ⟨_, rfl, rfl⟩, ⟨_, rfl, rfl⟩, trivial⟩
    · cbv
      all_goals exact ⟨⟨_, rfl, rfl⟩, trivial⟩
  · rintro ⟨⟨n1, w1, v1, v2⟩, h_1⟩ hq1
    try dsimp only at h_1
    clear hq1
    rcases n1 with _ | n1
    · rw [L_markItemS_l1] at h_1; cases h_1
    · rw [L_markItemS_l1] at h_1
      try rw [← hg] at h_1
      try rw [← ht] at h_1
      try dsimp only at h_1
      cbv
      cases hb1 : (lt v2 (int (dlen (d_Item w1)))) with
      | true =>
        rw [br_true hb1] at h_1
        cbv
        obtain ⟨hc1, h_1⟩ := of_gd h_1
        refine AStep.mk hc1 ?_
        cbv
        obtain ⟨x1, hx1, h_1⟩ := of_gt h_1
        obtain ⟨x1_Id, x1_Dest⟩ := x1
        try dsimp only at h_1
        refine AGet.mk _ (d_get_Item hg ht hx1) ?_
        cbv
        obtain ⟨l1, hl1, h_1⟩ := of_lP h_1
        try dsimp only at h_1
        refine ANew.mk (d_Item l1) _ (by rw [← hl1]; exact dset_Item hg ht _ _ (Item.mk v1 x1_Dest)) rfl ?_
        have hnl1 : (dlen (d_Item w1)) = (d_Item l1).length := (by rw [← hl1, dsetl_Item ht]; exact (dlen_Item hg ht _))
        cbv
        obtain ⟨hc2, h_1⟩ := of_gd h_1
        refine AStep.mk hc2 ?_
        cbv
        obtain ⟨x2, hx2, h_1⟩ := of_gt h_1
        obtain ⟨x2_Id, x2_Dest⟩ := x2
        try dsimp only at h_1
        refine AGet.mk _ (d_get_Item hg ht hx2) ?_
        cbv
        obtain ⟨l2, hl2, h_1⟩ := of_lP h_1
        try dsimp only at h_1
        refine ANew.mk (d_Item l2) _ (by rw [← hl2]; exact dset_Item hg ht _ _ (Item.mk x2_Id (wrap .i64 (add v1 1)))) rfl ?_
        have hnl2 : (dlen (d_Item w1)) = (d_Item l2).length := (by rw [← hl2, dsetl_Item ht]; exact hnl1)
        cbv
        try rw [hg] at h_1
        try rw [ht] at h_1
        refine ⟨⟨(n1, l2, (wrap .i64 (add (wrap .i64 (add v1 1)) 1)), (wrap .i64 (add v2 1))), h_1⟩, Wk.of [(0, some 0)] rfl rfl ?_ ?_, Nat.lt_succ_self _⟩
        · cbv
          all_goals try rw [show (dlen (d_Item w1)) = (dlen (d_Item l2)) from (hnl2).trans (dlen_Item hg ht _).symm]
          all_goals exact ⟨⟨_, rfl, rfl⟩, ⟨_, rfl, rfl⟩, ⟨_, rfl, rfl⟩, trivial⟩
        · cbv
          all_goals try rw [show (dlen (d_Item w1)) = (dlen (d_Item l2)) from (hnl2).trans (dlen_Item hg ht _).symm]
          all_goals exact ⟨⟨_, rfl, rfl⟩, trivial⟩
      | false =>
        rw [br_false hb1] at h_1
        cbv
        refine ⟨(w1, v1), Wk.of [(0, some 0)] rfl rfl ?_ ?_, (Option.some.inj h_1).symm⟩
        · cbv
          all_goals exact ⟨⟨_, rfl, rfl⟩, trivial⟩
        · cbv
          all_goals exact ⟨⟨_, rfl, rfl⟩, trivial⟩
  · rintro ⟨y1_1, y1_2⟩ hy1
    replace hy1 := hy1.symm
    subst hy1
    try dsimp only [lr, lrL, lrp, lrpL] at h
    cbv
    obtain ⟨hc3, h⟩ := of_gd h
    obtain rfl := Option.some.inj h
    exact ARetM.mk ⟨rfl, (lenp_Item ht (dlen_Item hg ht _) hc3)⟩ hX.symm hY.symm
end Go.Vs
namespace Go.Vs
set_option maxRecDepth 100000
def ir97 : J :=
  .seq (.reg none [⟨(some 4), none, .mv (.k (V.i 0))⟩] [0, 1])
  (.seq (.seq (.reg none [⟨(some 5), none, .mv (.k (V.i 0))⟩] [0, 1, 5])
   (.bl 0 (.seq (.seq (.reg none [⟨(some 6), none, .mv (.t 5)⟩,
        ⟨(some 7), none, .mv (.t 0)⟩,
        ⟨(some 8), none, .len false (.t 7)⟩,
        ⟨(some 9), none, .bin .lss .i (.t 6) (.t 8)⟩] [0, 1, 5, 9])
     (.cond (.t 9)
      (.skip)
      (.exit 0)))
    (.seq (.block 1 (.seq (.reg none [⟨(some 12), none, .mv (.t 0)⟩,
         ⟨(some 13), none, .mv (.t 5)⟩,
         ⟨(some 14), none, .mv (.t 1)⟩,
         ⟨(some 15), none, .ia 3 (.t 12) (.t 13)⟩,
         ⟨(some 16), none, .fa 0 (.t 15)⟩,
         ⟨none, none, .st 1 (.t 16) (.t 14)⟩] [0, 1, 5])
      (.seq (.reg none [⟨(some 17), none, .mv (.t 1)⟩,
         ⟨(some 18), none, .bin .add .i (.t 17) (.k (V.i 1))⟩,
         ⟨(some 1), none, .mv (.t 18)⟩] [0, 1, 5])
      (.seq (.reg none [⟨(some 19), none, .mv (.t 0)⟩,
         ⟨(some 20), none, .mv (.t 5)⟩,
         ⟨(some 21), none, .mv (.t 1)⟩,
         ⟨(some 22), none, .ia 3 (.t 19) (.t 20)⟩,
         ⟨(some 23), none, .fa 1 (.t 22)⟩,
         ⟨none, none, .st 1 (.t 23) (.t 21)⟩] [0, 1, 5])
      (.seq (.reg none [⟨(some 24), none, .mv (.t 1)⟩,
         ⟨(some 25), none, .bin .add .i (.t 24) (.k (V.i 1))⟩,
         ⟨(some 1), none, .mv (.t 25)⟩] [0, 1, 5])
      (.gh (.ga (.reg none [⟨(some 26), none, .mv (.t 0)⟩,
         ⟨(some 27), none, .mv (.t 5)⟩,
         ⟨(some 28), none, .ia 3 (.t 26) (.t 27)⟩,
         ⟨(some 29), none, .fa 2 (.t 28)⟩,
         ⟨(some 30), none, .ld false 1 (.t 29)⟩,
         ⟨(some 31), none, .mv (.t 1)⟩,
         ⟨(some 32), none, .callm 65 (.t 30) [(.t 31)]⟩,
         ⟨(some 1), none, .mv (.t 32)⟩] [0, 1, 5]))))))))
    (.reg none [⟨(some 10), none, .mv (.t 5)⟩,
      ⟨(some 11), none, .bin .add .i (.t 10) (.k (V.i 1))⟩,
      ⟨(some 5), none, .mv (.t 11)⟩] [0, 1, 5])))))
  (.seq (.reg none [⟨(some 33), none, .mv (.t 1)⟩,
     ⟨(some 4), none, .mv (.t 33)⟩] [4])
  (.ret)))
def rv97 : List RV := [.t 4]
open Go.Proofs Go.IntWalk
set_option linter.unusedVariables false
set_option maxRecDepth 100000
set_option maxHeartbeats 4000000
def L_markChuteS_l1 (g : G) (t : TE) : Nat → List Chute → Int → Int → Option ((List Chute) × Int)
  | 0, _, _, _ => none
  | n1 + 1, w1, v1, v2 =>
    br (g.lt v2 (g.int (g.dlen (t.d_Chute w1))))
    (
     gd (((0 : Int) ≤ v2 ∧ v2 < (((g.dlen (t.d_Chute w1)) : Nat) : Int))) <|
     gt w1 (g.nat v2) fun x1 =>
     lP (List.set w1 (g.nat v2) (Chute.mk v1 x1.Room x1.Held)) fun (l1 : List Chute) =>
     gd (((0 : Int) ≤ v2 ∧ v2 < (((g.dlen (t.d_Chute w1)) : Nat) : Int))) <|
     gt l1 (g.nat v2) fun x2 =>
     lP (List.set l1 (g.nat v2) (Chute.mk x2.Cell (g.wrap .i64 (g.add v1 1)) x2.Held)) fun (l2 : List Chute) =>
     gt l2 (g.nat v2) fun x3 =>
     gd (((0 : Int) ≤ v2 ∧ v2 < (((g.dlen (t.d_Chute w1)) : Nat) : Int))) <|
     cl (L_markItemS g t x3.Held (g.wrap .i64 (g.add (g.wrap .i64 (g.add v1 1)) 1))) fun x4 =>
     gd ((x4.2.length = x3.Held.length)) <|
     lP (List.set l2 (g.nat v2) (Chute.mk x3.Cell x3.Room x4.2)) fun (l3 : List Chute) =>
     L_markChuteS_l1 g t n1 l3 x4.1 (g.wrap .i64 (g.add v2 1)))
    (
     some (w1, v1))
def L_markChuteS (g : G) (t : TE) (a0 : List Chute) (a1 : Int) : Option (Int × (List Chute)) :=
  cl (L_markChuteS_l1 g t 1000000000 a0 a1 0) fun y1 =>
  gd ((y1.1.length = a0.length)) <|
  some ((y1.2, y1.1))
theorem fit97 : codeFit Try.prog Try.f97.ntmps (Try.f97.body.getD .skip) ir97 = true := by kernel_rfl
theorem c_L_markChuteS {g : G} {t : TE} {a0 : List Chute} {a1 : Int} {r : Int × (List Chute)} (hg : g = G.real) (ht : t = TE.real) (h : L_markChuteS g t a0 a1 = some r) : FnM Try.prog 97 (.m (.o 3 (t.d_Chute a0))) [.c (.v (.int .i64 a1))] (.c (.r (.v (.int .i64 r.1)))) (.m (.o 3 (t.d_Chute r.2))) := by
  obtain ⟨X, hX⟩ := hide (.c (.r (.v (.int .i64 r.1))) : X)
  obtain ⟨Y, hY⟩ := hide (.m (.o 3 (t.d_Chute r.2)) : AM)
  rw [← hX, ← hY]
  refine fnM_of (rvs := rv97) (j := ir97) Try.func97 rfl fit97 (Nat.le_of_ble_eq_true rfl) (by kernel_rfl) prog_mixed ?_
  intro g2 F hg2 hF
  obtain rfl : g2 = g := hg2.unique.trans hg.symm
  clear hg2
  obtain ⟨wrap, lt, le, eq, quo, rem, band, bor, bxor, shl, shr, nat, int, add, sub, mul, cat, seq, slt, sub3, byte, llen, nadd, nsub, dlen, dapp, dset, drep, rd, rda, up, rsub, dsub, all, sle, slen, hasI, putI, hasS, putS, imin, imax, fzc⟩ := g2
  obtain ⟨r_Item, d_Item, r_Chute, d_Chute, r_Inlet, d_Inlet, r_I64, d_I64, r_U8, d_U8, d_InletF⟩ := t
  unfold L_markChuteS at h
  try dsimp only at h
  cbv
  obtain ⟨o1, ho1, h⟩ := of_cl h
  try dsimp only at h
  try rw [hg] at ho1
  try rw [ht] at ho1
  refine ABL.mk { p : Nat × (List Chute) × Int × Int // L_markChuteS_l1 G.real TE.real p.1 p.2.1 p.2.2.1 p.2.2.2 = some o1 } (fun ⟨⟨n1, w1, v1, v2⟩, _⟩ => ({ sl := [(0, .c (.f 0 3 0 (dlen (d_Chute w1)))), (1, .c (.r (.v (.int .i64 v1)))), (5, .c (.r (.v (.int .i64 v2))))], tab := [(0, some (.arr 3 (d_Chute w1)))] } : St)) 1 (fun p => p.1.1) ⟨(1000000000, a0, a1, 0), ho1⟩ ((List Chute) × Int) (fun ⟨y1_1, y1_2⟩ => ({ sl := [(1, .c (.r (.v (.int .i64 y1_2))))], tab := [(0, some (.arr 3 (d_Chute y1_1)))] } : St)) 1 (fun y => o1 = y) ?_ ?_ ?_
  · refine Wk.of [(0, some 0)] rfl rfl ?_ ?_
    · cbv
      all_goals exact ⟨⟨_, rfl, rfl⟩, ⟨_, rfl, rfl⟩, ⟨_, rfl, rfl⟩, trivial⟩
    · cbv
      all_goals exact ⟨⟨_, rfl, rfl⟩, trivial⟩
  · rintro ⟨⟨n1, w1, v1, v2⟩, h_1⟩ hq1
    try dsimp only at h_1
    clear hq1
    rcases n1 with _ | n1
    · rw [L_markChuteS_l1] at h_1; cases h_1
    · rw [L_markChuteS_l1] at h_1
      try rw [← hg] at h_1
      try rw [← ht] at h_1
      try dsimp only at h_1
      cbv
      cases hb1 : (lt v2 (int (dlen (d_Chute w1)))) with
      | true =>
        rw [br_true hb1] at h_1
        cbv
        obtain ⟨hc1, h_1⟩ := of_gd h_1
        refine AStep.mk hc1 ?_
        cbv
        obtain ⟨x1, hx1, h_1⟩ := of_gt h_1
        obtain ⟨x1_Cell, x1_Room, x1_Held⟩ := x1
        try dsimp only at h_1
        refine AGet.mk _ (d_get_Chute hg ht hx1) ?_
        cbv
        obtain ⟨l1, hl1, h_1⟩ := of_lP h_1
        try dsimp only at h_1
        refine ANew.mk (d_Chute l1) _ (by rw [← hl1]; exact dset_Chute hg ht _ _ (Chute.mk v1 x1_Room x1_Held)) rfl ?_
        have hnl1 : (dlen (d_Chute w1)) = (d_Chute l1).length := (by rw [← hl1, dsetl_Chute ht]; exact (dlen_Chute hg ht _))
        cbv
        obtain ⟨hc2, h_1⟩ := of_gd h_1
        refine AStep.mk hc2 ?_
        cbv
        obtain ⟨x2, hx2, h_1⟩ := of_gt h_1
        obtain ⟨x2_Cell, x2_Room, x2_Held⟩ := x2
        try dsimp only at h_1
        refine AGet.mk _ (d_get_Chute hg ht hx2) ?_
        cbv
        obtain ⟨l2, hl2, h_1⟩ := of_lP h_1
        try dsimp only at h_1
        refine ANew.mk (d_Chute l2) _ (by rw [← hl2]; exact dset_Chute hg ht _ _ (Chute.mk x2_Cell (wrap .i64 (add v1 1)) x2_Held)) rfl ?_
        have hnl2 : (dlen (d_Chute w1)) = (d_Chute l2).length := (by rw [← hl2, dsetl_Chute ht]; exact hnl1)
        cbv
        obtain ⟨x3, hx3, h_1⟩ := of_gt h_1
        obtain ⟨x3_Cell, x3_Room, x3_Held⟩ := x3
        try dsimp only at h_1
        refine AGh.opn 0 3 (nat v2) (d_Chute l2) _ rfl (d_get_Chute hg ht hx3) rfl ?_
        cbv
        refine AGh.nil ?_
        cbv
        obtain ⟨hc3, h_1⟩ := of_gd h_1
        refine AStep.mk hc3 ?_
        cbv
        refine AStep.mk rfl ?_
        cbv
        refine AStep.mk ⟨rfl, (dlen_Item hg ht _)⟩ ?_
        cbv
        obtain ⟨x4, hx4, h_1⟩ := of_cl h_1
        obtain ⟨x4_1, x4_2⟩ := x4
        try dsimp only at h_1
        refine ACallM.mk _ _ _ _ rfl rfl (hF _ _ _ (c_L_markItemS hg ht hx4)) rfl (Nat.le_of_ble_eq_true rfl) (Nat.le_of_ble_eq_true rfl) ?_
        cbv
        obtain ⟨hc4, h_1⟩ := of_gd h_1
        obtain ⟨l3, hl3, h_1⟩ := of_lP h_1
        try dsimp only at h_1
        refine AGh.cls 0 3 (nat v2) (d_Chute l2) _ _ _ _ (d_Chute l3) rfl rfl ⟨rfl, (lenp_Item ht (dlen_Item hg ht _) hc4)⟩ (by rw [← hl3]; exact dset_Chute hg ht _ _ (Chute.mk x3_Cell x3_Room x4_2)) ?_
        have hnl3 : (dlen (d_Chute w1)) = (d_Chute l3).length := (by rw [← hl3, dsetl_Chute ht]; exact hnl2)
        cbv
        refine AGh.nil ?_
        cbv
        try rw [hg] at h_1
        try rw [ht] at h_1
        refine ⟨⟨(n1, l3, x4_1, (wrap .i64 (add v2 1))), h_1⟩, Wk.of [(0, some 0)] rfl rfl ?_ ?_, Nat.lt_succ_self _⟩
        · cbv
          all_goals try rw [show (dlen (d_Chute w1)) = (dlen (d_Chute l3)) from (hnl3).trans (dlen_Chute hg ht _).symm]
          all_goals exact ⟨⟨_, rfl, rfl⟩, ⟨_, rfl, rfl⟩, ⟨_, rfl, rfl⟩, trivial⟩
        · cbv
          all_goals try rw [show (dlen (d_Chute w1)) = (dlen (d_Chute l3)) from (hnl3).trans (dlen_Chute hg ht _).symm]
          all_goals exact ⟨⟨_, rfl, rfl⟩, trivial⟩
      | false =>
        rw [br_false hb1] at h_1
        cbv
        refine ⟨(w1, v1), Wk.of [(0, some 0)] rfl rfl ?_ ?_, (Option.some.inj h_1).symm⟩
        · cbv
          all_goals exact ⟨⟨_, rfl, rfl⟩, trivial⟩
        · cbv
          all_goals exact ⟨⟨_, rfl, rfl⟩, trivial⟩
  · rintro ⟨y1_1, y1_2⟩ hy1
    replace hy1 := hy1.symm
    subst hy1
    try dsimp only [lr, lrL, lrp, lrpL] at h
    cbv
    obtain ⟨hc5, h⟩ := of_gd h
    obtain rfl := Option.some.inj h
    exact ARetM.mk ⟨rfl, (lenp_Chute ht (dlen_Chute hg ht _) hc5)⟩ hX.symm hY.symm
end Go.Vs
namespace Go.Vs
set_option maxRecDepth 100000
def ir98 : J :=
  .seq (.reg none [⟨(some 4), none, .mv (.k (V.i 0))⟩] [0, 1])
  (.seq (.seq (.reg none [⟨(some 5), none, .mv (.k (V.i 0))⟩] [0, 1, 5])
   (.bl 0 (.seq (.seq (.reg none [⟨(some 6), none, .mv (.t 5)⟩,
        ⟨(some 7), none, .mv (.t 0)⟩,
        ⟨(some 8), none, .len false (.t 7)⟩,
        ⟨(some 9), none, .bin .lss .i (.t 6) (.t 8)⟩] [0, 1, 5, 9])
     (.cond (.t 9)
      (.skip)
      (.exit 0)))
    (.seq (.block 1 (.seq (.reg none [⟨(some 12), none, .mv (.t 0)⟩,
         ⟨(some 13), none, .mv (.t 5)⟩,
         ⟨(some 14), none, .mv (.t 1)⟩,
         ⟨(some 15), none, .ia 2 (.t 12) (.t 13)⟩,
         ⟨(some 16), none, .fa 0 (.t 15)⟩,
         ⟨none, none, .st 1 (.t 16) (.t 14)⟩] [0, 1, 5])
      (.seq (.reg none [⟨(some 17), none, .mv (.t 1)⟩,
         ⟨(some 18), none, .bin .add .i (.t 17) (.k (V.i 1))⟩,
         ⟨(some 1), none, .mv (.t 18)⟩] [0, 1, 5])
      (.gh (.ga (.reg none [⟨(some 19), none, .mv (.t 0)⟩,
         ⟨(some 20), none, .mv (.t 5)⟩,
         ⟨(some 21), none, .ia 2 (.t 19) (.t 20)⟩,
         ⟨(some 22), none, .fa 1 (.t 21)⟩,
         ⟨(some 23), none, .ld false 1 (.t 22)⟩,
         ⟨(some 24), none, .mv (.t 1)⟩,
         ⟨(some 25), none, .callm 65 (.t 23) [(.t 24)]⟩,
         ⟨(some 1), none, .mv (.t 25)⟩] [0, 1, 5]))))))
    (.reg none [⟨(some 10), none, .mv (.t 5)⟩,
      ⟨(some 11), none, .bin .add .i (.t 10) (.k (V.i 1))⟩,
      ⟨(some 5), none, .mv (.t 11)⟩] [0, 1, 5])))))
  (.seq (.reg none [⟨(some 26), none, .mv (.t 1)⟩,
     ⟨(some 4), none, .mv (.t 26)⟩] [4])
  (.ret)))
def rv98 : List RV := [.t 4]
open Go.Proofs Go.IntWalk
set_option linter.unusedVariables false
set_option maxRecDepth 100000
set_option maxHeartbeats 4000000
def L_markInletS_l1 (g : G) (t : TE) : Nat → List Inlet → Int → Int → Option ((List Inlet) × Int)
  | 0, _, _, _ => none
  | n1 + 1, w1, v1, v2 =>
    br (g.lt v2 (g.int (g.dlen (t.d_Inlet w1))))
    (
     gd (((0 : Int) ≤ v2 ∧ v2 < (((g.dlen (t.d_Inlet w1)) : Nat) : Int))) <|
     gt w1 (g.nat v2) fun x1 =>
     lP (List.set w1 (g.nat v2) (Inlet.mk v1 x1.Wait)) fun (l1 : List Inlet) =>
     gt l1 (g.nat v2) fun x2 =>
     gd (((0 : Int) ≤ v2 ∧ v2 < (((g.dlen (t.d_Inlet w1)) : Nat) : Int))) <|
     cl (L_markItemS g t x2.Wait (g.wrap .i64 (g.add v1 1))) fun x3 =>
     gd ((x3.2.length = x2.Wait.length)) <|
     lP (List.set l1 (g.nat v2) (Inlet.mk x2.Cell x3.2)) fun (l2 : List Inlet) =>
     L_markInletS_l1 g t n1 l2 x3.1 (g.wrap .i64 (g.add v2 1)))
    (
     some (w1, v1))
def L_markInletS (g : G) (t : TE) (a0 : List Inlet) (a1 : Int) : Option (Int × (List Inlet)) :=
  cl (L_markInletS_l1 g t 1000000000 a0 a1 0) fun y1 =>
  gd ((y1.1.length = a0.length)) <|
  some ((y1.2, y1.1))
theorem fit98 : codeFit Try.prog Try.f98.ntmps (Try.f98.body.getD .skip) ir98 = true := by kernel_rfl
theorem c_L_markInletS {g : G} {t : TE} {a0 : List Inlet} {a1 : Int} {r : Int × (List Inlet)} (hg : g = G.real) (ht : t = TE.real) (h : L_markInletS g t a0 a1 = some r) : FnM Try.prog 98 (.m (.o 2 (t.d_Inlet a0))) [.c (.v (.int .i64 a1))] (.c (.r (.v (.int .i64 r.1)))) (.m (.o 2 (t.d_Inlet r.2))) := by
  obtain ⟨X, hX⟩ := hide (.c (.r (.v (.int .i64 r.1))) : X)
  obtain ⟨Y, hY⟩ := hide (.m (.o 2 (t.d_Inlet r.2)) : AM)
  rw [← hX, ← hY]
  refine fnM_of (rvs := rv98) (j := ir98) Try.func98 rfl fit98 (Nat.le_of_ble_eq_true rfl) (by kernel_rfl) prog_mixed ?_
  intro g2 F hg2 hF
  obtain rfl : g2 = g := hg2.unique.trans hg.symm
  clear hg2
  obtain ⟨wrap, lt, le, eq, quo, rem, band, bor, bxor, shl, shr, nat, int, add, sub, mul, cat, seq, slt, sub3, byte, llen, nadd, nsub, dlen, dapp, dset, drep, rd, rda, up, rsub, dsub, all, sle, slen, hasI, putI, hasS, putS, imin, imax, fzc⟩ := g2
  obtain ⟨r_Item, d_Item, r_Chute, d_Chute, r_Inlet, d_Inlet, r_I64, d_I64, r_U8, d_U8, d_InletF⟩ := t
  unfold L_markInletS at h
  try dsimp only at h
  cbv
  obtain ⟨o1, ho1, h⟩ := of_cl h
  try dsimp only at h
  try rw [hg] at ho1
  try rw [ht] at ho1
  refine ABL.mk { p : Nat × (List Inlet) × Int × Int // L_markInletS_l1 G.real TE.real p.1 p.2.1 p.2.2.1 p.2.2.2 = some o1 } (fun ⟨⟨n1, w1, v1, v2⟩, _⟩ => ({ sl := [(0, .c (.f 0 2 0 (dlen (d_Inlet w1)))), (1, .c (.r (.v (.int .i64 v1)))), (5, .c (.r (.v (.int .i64 v2))))], tab := [(0, some (.arr 2 (d_Inlet w1)))] } : St)) 1 (fun p => p.1.1) ⟨(1000000000, a0, a1, 0), ho1⟩ ((List Inlet) × Int) (fun ⟨y1_1, y1_2⟩ => ({ sl := [(1, .c (.r (.v (.int .i64 y1_2))))], tab := [(0, some (.arr 2 (d_Inlet y1_1)))] } : St)) 1 (fun y => o1 = y) ?_ ?_ ?_
  · refine Wk.of [(0, some 0)] rfl rfl ?_ ?_
    · cbv
      all_goals exact ⟨⟨_, rfl, rfl⟩, ⟨_, rfl, rfl⟩, ⟨_, rfl, rfl⟩, trivial⟩
    · cbv
      all_goals exact ⟨⟨_, rfl, rfl⟩, trivial⟩
  · rintro ⟨⟨n1, w1, v1, v2⟩, h_1⟩ hq1
    try dsimp only at h_1
    clear hq1
    rcases n1 with _ | n1
    · rw [L_markInletS_l1] at h_1; cases h_1
    · rw [L_markInletS_l1] at h_1
      try rw [← hg] at h_1
      try rw [← ht] at h_1
      try dsimp only at h_1
      cbv
      cases hb1 : (lt v2 (int (dlen (d_Inlet w1)))) with
      | true =>
        rw [br_true hb1] at h_1
        cbv
        obtain ⟨hc1, h_1⟩ := of_gd h_1
        refine AStep.mk hc1 ?_
        cbv
        obtain ⟨x1, hx1, h_1⟩ := of_gt h_1
        obtain ⟨x1_Cell, x1_Wait⟩ := x1
        try dsimp only at h_1
        refine AGet.mk _ (d_get_Inlet hg ht hx1) ?_
        cbv
        obtain ⟨l1, hl1, h_1⟩ := of_lP h_1
        try dsimp only at h_1
        refine ANew.mk (d_Inlet l1) _ (by rw [← hl1]; exact dset_Inlet hg ht _ _ (Inlet.mk v1 x1_Wait)) rfl ?_
        have hnl1 : (dlen (d_Inlet w1)) = (d_Inlet l1).length := (by rw [← hl1, dsetl_Inlet ht]; exact (dlen_Inlet hg ht _))
        cbv
        obtain ⟨x2, hx2, h_1⟩ := of_gt h_1
        obtain ⟨x2_Cell, x2_Wait⟩ := x2
        try dsimp only at h_1
        refine AGh.opn 0 2 (nat v2) (d_Inlet l1) _ rfl (d_get_Inlet hg ht hx2) rfl ?_
        cbv
        refine AGh.nil ?_
        cbv
        obtain ⟨hc2, h_1⟩ := of_gd h_1
        refine AStep.mk hc2 ?_
        cbv
        refine AStep.mk rfl ?_
        cbv
        refine AStep.mk ⟨rfl, (dlen_Item hg ht _)⟩ ?_
        cbv
        obtain ⟨x3, hx3, h_1⟩ := of_cl h_1
        obtain ⟨x3_1, x3_2⟩ := x3
        try dsimp only at h_1
        refine ACallM.mk _ _ _ _ rfl rfl (hF _ _ _ (c_L_markItemS hg ht hx3)) rfl (Nat.le_of_ble_eq_true rfl) (Nat.le_of_ble_eq_true rfl) ?_
        cbv
        obtain ⟨hc3, h_1⟩ := of_gd h_1
        obtain ⟨l2, hl2, h_1⟩ := of_lP h_1
        try dsimp only at h_1
        refine AGh.cls 0 2 (nat v2) (d_Inlet l1) _ _ _ _ (d_Inlet l2) rfl rfl ⟨rfl, (lenp_Item ht (dlen_Item hg ht _) hc3)⟩ (by rw [← hl2]; exact dset_Inlet hg ht _ _ (Inlet.mk x2_Cell x3_2)) ?_
        have hnl2 : (dlen (d_Inlet w1)) = (d_Inlet l2).length := (by rw [← hl2, dsetl_Inlet ht]; exact hnl1)
        cbv
        refine AGh.nil ?_
        cbv
        try rw [hg] at h_1
        try rw [ht] at h_1
        refine ⟨⟨(n1, l2, x3_1, (wrap .i64 (add v2 1))), h_1⟩, Wk.of [(0, some 0)] rfl rfl ?_ ?_, Nat.lt_succ_self _⟩
        · cbv
          all_goals try rw [show (dlen (d_Inlet w1)) = (dlen (d_Inlet l2)) from (hnl2).trans (dlen_Inlet hg ht _).symm]
          all_goals exact ⟨⟨_, rfl, rfl⟩, ⟨_, rfl, rfl⟩, ⟨_, rfl, rfl⟩, trivial⟩
        · cbv
          all_goals try rw [show (dlen (d_Inlet w1)) = (dlen (d_Inlet l2)) from (hnl2).trans (dlen_Inlet hg ht _).symm]
          all_goals exact ⟨⟨_, rfl, rfl⟩, trivial⟩
      | false =>
        rw [br_false hb1] at h_1
        cbv
        refine ⟨(w1, v1), Wk.of [(0, some 0)] rfl rfl ?_ ?_, (Option.some.inj h_1).symm⟩
        · cbv
          all_goals exact ⟨⟨_, rfl, rfl⟩, trivial⟩
        · cbv
          all_goals exact ⟨⟨_, rfl, rfl⟩, trivial⟩
  · rintro ⟨y1_1, y1_2⟩ hy1
    replace hy1 := hy1.symm
    subst hy1
    try dsimp only [lr, lrL, lrp, lrpL] at h
    cbv
    obtain ⟨hc4, h⟩ := of_gd h
    obtain rfl := Option.some.inj h
    exact ARetM.mk ⟨rfl, (lenp_Inlet ht (dlen_Inlet hg ht _) hc4)⟩ hX.symm hY.symm
end Go.Vs
namespace Go.Vs
set_option maxRecDepth 100000
def ir49 : J :=
  .seq (.reg none [⟨(some 2), none, .box (.t 0)⟩,
     ⟨(some 4), none, .mv (.k (V.i 0))⟩] [1, 2])
  (.seq (.reg none [⟨(some 5), none, .fa 0 (.t 2)⟩,
     ⟨(some 6), none, .ld false 1 (.t 5)⟩,
     ⟨(some 7), none, .mv (.t 1)⟩,
     ⟨(some 8), none, .callm 65 (.t 6) [(.t 7)]⟩,
     ⟨(some 1), none, .mv (.t 8)⟩] [1, 2])
  (.seq (.reg none [⟨(some 9), none, .fa 1 (.t 2)⟩,
     ⟨(some 10), none, .ld false 1 (.t 9)⟩,
     ⟨(some 11), none, .mv (.t 1)⟩,
     ⟨(some 12), none, .callm 97 (.t 10) [(.t 11)]⟩,
     ⟨(some 1), none, .mv (.t 12)⟩] [1, 2])
  (.seq (.reg none [⟨(some 13), none, .fa 2 (.t 2)⟩,
     ⟨(some 14), none, .ld false 1 (.t 13)⟩,
     ⟨(some 15), none, .mv (.t 1)⟩,
     ⟨(some 16), none, .callm 98 (.t 14) [(.t 15)]⟩,
     ⟨(some 1), none, .mv (.t 16)⟩] [1, 2])
  (.seq (.reg none [⟨(some 17), none, .fa 3 (.t 2)⟩,
     ⟨(some 18), none, .ld false 1 (.t 17)⟩,
     ⟨(some 19), none, .mv (.t 1)⟩,
     ⟨(some 20), none, .callm 48 (.t 18) [(.t 19)]⟩,
     ⟨(some 1), none, .mv (.t 20)⟩] [1])
  (.seq (.reg none [⟨(some 21), none, .mv (.t 1)⟩,
     ⟨(some 4), none, .mv (.t 21)⟩] [4])
  (.ret))))))
def rv49 : List RV := [.t 4]
open Go.Proofs Go.IntWalk
set_option linter.unusedVariables false
set_option maxRecDepth 100000
set_option maxHeartbeats 4000000
def L_markCentre (g : G) (t : TE) (a0 : Centre) (a1 : Int) : Option (Int × Centre) :=
  cl (L_markItemS g t a0.Belt a1) fun x1 =>
  gd ((x1.2.length = a0.Belt.length)) <|
  cl (L_markChuteS g t a0.Chutes x1.1) fun x2 =>
  gd ((x2.2.length = a0.Chutes.length)) <|
  cl (L_markInletS g t a0.Inlets x2.1) fun x3 =>
  gd ((x3.2.length = a0.Inlets.length)) <|
  cl (L_markIntS g t a0.Plan x3.1) fun x4 =>
  gd ((x4.2.length = a0.Plan.length)) <|
  some ((x4.1, (Centre.mk x1.2 x2.2 x3.2 x4.2 a0.Now)))
theorem fit49 : codeFit Try.prog Try.f49.ntmps (Try.f49.body.getD .skip) ir49 = true := by kernel_rfl
theorem c_L_markCentre {g : G} {t : TE} {a0 : Centre} {a1 : Int} {r : Int × Centre} (hg : g = G.real) (ht : t = TE.real) (h : L_markCentre g t a0 a1 = some r) : FnM Try.prog 49 (.g (Centre.ds t a0)) [.c (.v (.int .i64 a1))] (.c (.r (.v (.int .i64 r.1)))) (.g (Centre.ds t r.2)) := by
  obtain ⟨X, hX⟩ := hide (.c (.r (.v (.int .i64 r.1))) : X)
  obtain ⟨Y, hY⟩ := hide (.g (Centre.ds t r.2) : AM)
  rw [← hX, ← hY]
  refine fnM_of (rvs := rv49) (j := ir49) Try.func49 rfl fit49 (Nat.le_of_ble_eq_true rfl) (by kernel_rfl) prog_mixed ?_
  intro g2 F hg2 hF
  obtain rfl : g2 = g := hg2.unique.trans hg.symm
  clear hg2
  obtain ⟨wrap, lt, le, eq, quo, rem, band, bor, bxor, shl, shr, nat, int, add, sub, mul, cat, seq, slt, sub3, byte, llen, nadd, nsub, dlen, dapp, dset, drep, rd, rda, up, rsub, dsub, all, sle, slen, hasI, putI, hasS, putS, imin, imax, fzc⟩ := g2
  obtain ⟨r_Item, d_Item, r_Chute, d_Chute, r_Inlet, d_Inlet, r_I64, d_I64, r_U8, d_U8, d_InletF⟩ := t
  obtain ⟨a0_Belt, a0_Chutes, a0_Inlets, a0_Plan, a0_Now⟩ := a0
  unfold L_markCentre at h
  try dsimp only at h
  cbv
  refine AStep.mk ⟨rfl, (dlen_Item hg ht _)⟩ ?_
  cbv
  obtain ⟨x1, hx1, h⟩ := of_cl h
  obtain ⟨x1_1, x1_2⟩ := x1
  try dsimp only at h
  refine ACallM.mk _ _ _ _ rfl rfl (hF _ _ _ (c_L_markItemS hg ht hx1)) rfl (Nat.le_of_ble_eq_true rfl) (Nat.le_of_ble_eq_true rfl) ?_
  cbv
  obtain ⟨hc1, h⟩ := of_gd h
  refine AStep.mk ⟨rfl, (dlen_Chute hg ht _)⟩ ?_
  cbv
  obtain ⟨x2, hx2, h⟩ := of_cl h
  obtain ⟨x2_1, x2_2⟩ := x2
  try dsimp only at h
  refine ACallM.mk _ _ _ _ rfl rfl (hF _ _ _ (c_L_markChuteS hg ht hx2)) rfl (Nat.le_of_ble_eq_true rfl) (Nat.le_of_ble_eq_true rfl) ?_
  cbv
  obtain ⟨hc2, h⟩ := of_gd h
  refine AStep.mk ⟨rfl, (dlen_Inlet hg ht _)⟩ ?_
  cbv
  obtain ⟨x3, hx3, h⟩ := of_cl h
  obtain ⟨x3_1, x3_2⟩ := x3
  try dsimp only at h
  refine ACallM.mk _ _ _ _ rfl rfl (hF _ _ _ (c_L_markInletS hg ht hx3)) rfl (Nat.le_of_ble_eq_true rfl) (Nat.le_of_ble_eq_true rfl) ?_
  cbv
  obtain ⟨hc3, h⟩ := of_gd h
  refine AStep.mk ⟨rfl, (dlen_I64 hg ht _)⟩ ?_
  cbv
  obtain ⟨x4, hx4, h⟩ := of_cl h
  obtain ⟨x4_1, x4_2⟩ := x4
  try dsimp only at h
  refine ACallM.mk _ _ _ _ rfl rfl (hF _ _ _ (c_L_markIntS hg ht hx4)) rfl (Nat.le_of_ble_eq_true rfl) (Nat.le_of_ble_eq_true rfl) ?_
  cbv
  obtain ⟨hc4, h⟩ := of_gd h
  obtain rfl := Option.some.inj h
  exact ARetM.mk ⟨⟨rfl, (lenp_Item ht (dlen_Item hg ht _) hc1)⟩, ⟨⟨rfl, (lenp_Chute ht (dlen_Chute hg ht _) hc2)⟩, ⟨⟨rfl, (lenp_Inlet ht (dlen_Inlet hg ht _) hc3)⟩, ⟨rfl, (lenp_I64 ht (dlen_I64 hg ht _) hc4)⟩⟩⟩⟩ hX.symm hY.symm
end Go.Vs
namespace Go.Vs
set_option maxRecDepth 100000
def ir66 : J :=
  .seq (.reg none [⟨(some 4), none, .mv (.k (V.i 0))⟩] [0, 1])
  (.seq (.seq (.reg none [⟨(some 5), none, .mv (.k (V.i 0))⟩] [0, 1, 5])
   (.bl 0 (.seq (.seq (.reg none [⟨(some 6), none, .mv (.t 5)⟩,
        ⟨(some 7), none, .mv (.t 0)⟩,
        ⟨(some 8), none, .len false (.t 7)⟩,
        ⟨(some 9), none, .bin .lss .i (.t 6) (.t 8)⟩] [0, 1, 5, 9])
     (.cond (.t 9)
      (.skip)
      (.exit 0)))
    (.seq (.block 1 (.seq (.seq (.reg none [⟨(some 12), none, .mv (.t 0)⟩,
          ⟨(some 13), none, .mv (.t 5)⟩,
          ⟨(some 14), none, .ia 2 (.t 12) (.t 13)⟩,
          ⟨(some 15), none, .fa 0 (.t 14)⟩,
          ⟨(some 16), none, .ld false 1 (.t 15)⟩,
          ⟨(some 17), none, .mv (.t 1)⟩,
          ⟨(some 18), none, .bin .neq .i (.t 16) (.t 17)⟩] [0, 1, 5, 18])
       (.cond (.t 18)
        (.seq (.reg none [⟨(some 4), none, .mv (.k (V.i (-1)))⟩] [4])
         (.ret))
        (.skip)))
      (.seq (.reg none [⟨(some 19), none, .mv (.t 1)⟩,
         ⟨(some 20), none, .bin .add .i (.t 19) (.k (V.i 1))⟩,
         ⟨(some 1), none, .mv (.t 20)⟩] [0, 1, 5])
      (.seq (.seq (.reg none [⟨(some 21), none, .mv (.t 0)⟩,
          ⟨(some 22), none, .mv (.t 5)⟩,
          ⟨(some 23), none, .ia 2 (.t 21) (.t 22)⟩,
          ⟨(some 24), none, .fa 1 (.t 23)⟩,
          ⟨(some 25), none, .ld false 1 (.t 24)⟩,
          ⟨(some 26), none, .mv (.t 1)⟩,
          ⟨(some 27), none, .bin .neq .i (.t 25) (.t 26)⟩] [0, 1, 5, 27])
       (.cond (.t 27)
        (.seq (.reg none [⟨(some 4), none, .mv (.k (V.i (-1)))⟩] [4])
         (.ret))
        (.skip)))
      (.reg none [⟨(some 28), none, .mv (.t 1)⟩,
        ⟨(some 29), none, .bin .add .i (.t 28) (.k (V.i 1))⟩,
        ⟨(some 1), none, .mv (.t 29)⟩] [0, 1, 5])))))
    (.reg none [⟨(some 10), none, .mv (.t 5)⟩,
      ⟨(some 11), none, .bin .add .i (.t 10) (.k (V.i 1))⟩,
      ⟨(some 5), none, .mv (.t 11)⟩] [0, 1, 5])))))
  (.seq (.reg none [⟨(some 30), none, .mv (.t 1)⟩,
     ⟨(some 4), none, .mv (.t 30)⟩] [4])
  (.ret)))
def rv66 : List RV := [.t 4]
open Go.Proofs Go.IntWalk
set_option linter.unusedVariables false
set_option maxRecDepth 100000
set_option maxHeartbeats 4000000
def L_heldItemS_l1 (g : G) (t : TE) : List Item → Int → LR Int Int
  | [], v1 =>
    (LR.out v1)
  | z1 :: ls1, v1 =>
    br (g.eq z1.Id v1)
    (
     br (g.eq z1.Dest (g.wrap .i64 (g.add v1 1)))
     (
      L_heldItemS_l1 g t ls1 (g.wrap .i64 (g.add (g.wrap .i64 (g.add v1 1)) 1)))
     (
      (LR.ret (-1))))
    (
     (LR.ret (-1)))
def L_heldItemS (g : G) (t : TE) (a0 : List Item) (a1 : Int) : Int :=
  lP (L_heldItemS_l1 g t a0 a1) fun o1 => lrp o1 fun y1 =>
  y1
theorem fit66 : codeFit Try.prog Try.f66.ntmps (Try.f66.body.getD .skip) ir66 = true := by kernel_rfl
theorem c_L_heldItemS {g : G} {t : TE} {a0 : List Item} {a1 : Int} {r : Int} (hg : g = G.real) (ht : t = TE.real) (h : L_heldItemS g t a0 a1 = r) : Fn Try.prog 66 [.c (.s 2 (t.r_Item a0)), .c (.v (.int .i64 a1))] (.c (.r (.v (.int .i64 r)))) := by
  obtain ⟨X, hX⟩ := hide (.c (.r (.v (.int .i64 r))) : X)
  rw [← hX]
  refine fn_of (rvs := rv66) (j := ir66) Try.func66 rfl fit66 (Nat.le_of_ble_eq_true rfl) (by kernel_rfl) prog_mixed ?_
  intro g2 F hg2 hF
  obtain rfl : g2 = g := hg2.unique.trans hg.symm
  clear hg2
  obtain ⟨wrap, lt, le, eq, quo, rem, band, bor, bxor, shl, shr, nat, int, add, sub, mul, cat, seq, slt, sub3, byte, llen, nadd, nsub, dlen, dapp, dset, drep, rd, rda, up, rsub, dsub, all, sle, slen, hasI, putI, hasS, putS, imin, imax, fzc⟩ := g2
  obtain ⟨r_Item, d_Item, r_Chute, d_Chute, r_Inlet, d_Inlet, r_I64, d_I64, r_U8, d_U8, d_InletF⟩ := t
  unfold L_heldItemS at h
  try dsimp only at h
  cbv
  obtain ⟨o1, ho1, h⟩ := of_lP h
  try dsimp only at h
  try rw [hg] at ho1
  try rw [ht] at ho1
  refine ABL.mk { p : Nat × Int × Int // p.1 ≤ a0.length ∧ p.2.1 = ((p.1 : Nat) : Int) ∧ L_heldItemS_l1 G.real TE.real (List.drop p.1 a0) p.2.2 = o1 } (fun ⟨⟨k1, v2, v1⟩, _⟩ => ({ sl := [(0, .c (.r (.s 2 (r_Item a0)))), (1, .c (.r (.v (.int .i64 v1)))), (5, .c (.r (.v (.int .i64 v2))))], tab := [] } : St)) 0 (fun p => a0.length - p.1.1) ⟨(0, 0, a1), Nat.zero_le _, rfl, ho1⟩ (Int) (fun y1 => ({ sl := [(1, .c (.r (.v (.int .i64 y1))))], tab := [] } : St)) 0 (fun y => o1 = LR.out y) ?_ ?_ ?_
  · refine Wk.of [] rfl rfl ?_ ?_
    · cbv
      all_goals exact ⟨⟨_, rfl, rfl⟩, ⟨_, rfl, rfl⟩, ⟨_, rfl, rfl⟩, trivial⟩
    · cbv
      all_goals exact trivial
  · rintro ⟨⟨k1, v2, v1⟩, hk1, hi1, h_1⟩ hq1
    have hm1 := (hq1.1 0 _ _ rfl)
    try dsimp only at hk1 hi1 h_1
    clear hq1
    cbv
    by_cases hc1_ : k1 < a0.length
    · have hb1 : lt v2 (llen (r_Item a0)) = true := ltL_true_Item hg ht hi1 hc1_
      have hs1 := stepL_Item hg ht hi1 hc1_ hm1
      obtain ⟨z1, hz1⟩ := some_of_lt hc1_
      rw [drop_of_some hz1] at h_1
      rw [L_heldItemS_l1] at h_1
      obtain ⟨z1_Id, z1_Dest⟩ := z1
      try rw [← hg] at h_1
      try rw [← ht] at h_1
      try dsimp only at h_1
      rw [hb1]
      cbv
      refine AStep.mk (nn_L hi1) ?_
      cbv
      refine AGet.mk _ (r_getL_Item hg ht hi1 hz1) ?_
      cbv
      cases hb2 : (eq z1_Id v1) with
      | true =>
        rw [br_true hb2] at h_1
        cbv
        refine AStep.mk (nn_L hi1) ?_
        cbv
        refine AGet.mk _ (r_getL_Item hg ht hi1 hz1) ?_
        cbv
        cases hb3 : (eq z1_Dest (wrap .i64 (add v1 1))) with
        | true =>
          rw [br_true hb3] at h_1
          cbv
          try rw [hg] at h_1
          try rw [ht] at h_1
          refine ⟨⟨(k1 + 1, (wrap .i64 (add v2 1)), (wrap .i64 (add (wrap .i64 (add v1 1)) 1))), hc1_, hs1, h_1⟩, Wk.of [] rfl rfl ?_ ?_, meas_L hc1_⟩
          · cbv
            all_goals exact ⟨⟨_, rfl, rfl⟩, ⟨_, rfl, rfl⟩, ⟨_, rfl, rfl⟩, trivial⟩
          · cbv
            all_goals exact trivial
        | false =>
          rw [br_false hb3] at h_1
          cbv
          subst h_1
          try dsimp only [lr, lrL, lrp, lrpL] at h
          subst h
          exact ARet.mk trivial hX.symm
      | false =>
        rw [br_false hb2] at h_1
        cbv
        subst h_1
        try dsimp only [lr, lrL, lrp, lrpL] at h
        subst h
        exact ARet.mk trivial hX.symm
    · have hb1 : lt v2 (llen (r_Item a0)) = false := ltL_false_Item hg ht hi1 hc1_
      rw [List.drop_of_length_le (Nat.le_of_not_lt hc1_)] at h_1
      rw [L_heldItemS_l1] at h_1
      try rw [← hg] at h_1
      try rw [← ht] at h_1
      try dsimp only at h_1
      rw [hb1]
      cbv
      refine ⟨v1, Wk.of [] rfl rfl ?_ ?_, h_1.symm⟩
      · cbv
        all_goals exact ⟨⟨_, rfl, rfl⟩, trivial⟩
      · cbv
        all_goals exact trivial
  · rintro y1 hy1
    replace hy1 := hy1.symm
    subst hy1
    try dsimp only [lr, lrL, lrp, lrpL] at h
    cbv
    subst h
    exact ARet.mk trivial hX.symm
end Go.Vs
namespace Go.Vs
set_option maxRecDepth 100000
def ir75 : J :=
  .seq (.reg none [⟨(some 4), none, .mv (.k (V.i 0))⟩] [0, 1])
  (.seq (.seq (.reg none [⟨(some 5), none, .mv (.k (V.i 0))⟩] [0, 1, 5])
   (.bl 0 (.seq (.seq (.reg none [⟨(some 6), none, .mv (.t 5)⟩,
        ⟨(some 7), none, .mv (.t 0)⟩,
        ⟨(some 8), none, .len false (.t 7)⟩,
        ⟨(some 9), none, .bin .lss .i (.t 6) (.t 8)⟩] [0, 1, 5, 9])
     (.cond (.t 9)
      (.skip)
      (.exit 0)))
    (.seq (.block 1 (.seq (.seq (.reg none [⟨(some 12), none, .mv (.t 0)⟩,
          ⟨(some 13), none, .mv (.t 5)⟩,
          ⟨(some 14), none, .ia 1 (.t 12) (.t 13)⟩,
          ⟨(some 15), none, .ld false 1 (.t 14)⟩,
          ⟨(some 16), none, .mv (.t 1)⟩,
          ⟨(some 17), none, .bin .neq .i (.t 15) (.t 16)⟩] [0, 1, 5, 17])
       (.cond (.t 17)
        (.seq (.reg none [⟨(some 4), none, .mv (.k (V.i (-1)))⟩] [4])
         (.ret))
        (.skip)))
      (.reg none [⟨(some 18), none, .mv (.t 1)⟩,
        ⟨(some 19), none, .bin .add .i (.t 18) (.k (V.i 1))⟩,
        ⟨(some 1), none, .mv (.t 19)⟩] [0, 1, 5])))
    (.reg none [⟨(some 10), none, .mv (.t 5)⟩,
      ⟨(some 11), none, .bin .add .i (.t 10) (.k (V.i 1))⟩,
      ⟨(some 5), none, .mv (.t 11)⟩] [0, 1, 5])))))
  (.seq (.reg none [⟨(some 20), none, .mv (.t 1)⟩,
     ⟨(some 4), none, .mv (.t 20)⟩] [4])
  (.ret)))
def rv75 : List RV := [.t 4]
open Go.Proofs Go.IntWalk
set_option linter.unusedVariables false
set_option maxRecDepth 100000
set_option maxHeartbeats 4000000
def L_heldIntS_l1 (g : G) (t : TE) : List Int → Int → LR Int Int
  | [], v1 =>
    (LR.out v1)
  | z1 :: ls1, v1 =>
    br (g.eq z1 v1)
    (
     L_heldIntS_l1 g t ls1 (g.wrap .i64 (g.add v1 1)))
    (
     (LR.ret (-1)))
def L_heldIntS (g : G) (t : TE) (a0 : List Int) (a1 : Int) : Int :=
  lP (L_heldIntS_l1 g t a0 a1) fun o1 => lrp o1 fun y1 =>
  y1
theorem fit75 : codeFit Try.prog Try.f75.ntmps (Try.f75.body.getD .skip) ir75 = true := by kernel_rfl
theorem c_L_heldIntS {g : G} {t : TE} {a0 : List Int} {a1 : Int} {r : Int} (hg : g = G.real) (ht : t = TE.real) (h : L_heldIntS g t a0 a1 = r) : Fn Try.prog 75 [.c (.s 1 (t.r_I64 a0)), .c (.v (.int .i64 a1))] (.c (.r (.v (.int .i64 r)))) := by
  obtain ⟨X, hX⟩ := hide (.c (.r (.v (.int .i64 r))) : X)
  rw [← hX]
  refine fn_of (rvs := rv75) (j := ir75) Try.func75 rfl fit75 (Nat.le_of_ble_eq_true rfl) (by kernel_rfl) prog_mixed ?_
  intro g2 F hg2 hF
  obtain rfl : g2 = g := hg2.unique.trans hg.symm
  clear hg2
  obtain ⟨wrap, lt, le, eq, quo, rem, band, bor, bxor, shl, shr, nat, int, add, sub, mul, cat, seq, slt, sub3, byte, llen, nadd, nsub, dlen, dapp, dset, drep, rd, rda, up, rsub, dsub, all, sle, slen, hasI, putI, hasS, putS, imin, imax, fzc⟩ := g2
  obtain ⟨r_Item, d_Item, r_Chute, d_Chute, r_Inlet, d_Inlet, r_I64, d_I64, r_U8, d_U8, d_InletF⟩ := t
  unfold L_heldIntS at h
  try dsimp only at h
  cbv
  obtain ⟨o1, ho1, h⟩ := of_lP h
  try dsimp only at h
  try rw [hg] at ho1
  try rw [ht] at ho1
  refine ABL.mk { p : Nat × Int × Int // p.1 ≤ a0.length ∧ p.2.1 = ((p.1 : Nat) : Int) ∧ L_heldIntS_l1 G.real TE.real (List.drop p.1 a0) p.2.2 = o1 } (fun ⟨⟨k1, v2, v1⟩, _⟩ => ({ sl := [(0, .c (.r (.s 1 (r_I64 a0)))), (1, .c (.r (.v (.int .i64 v1)))), (5, .c (.r (.v (.int .i64 v2))))], tab := [] } : St)) 0 (fun p => a0.length - p.1.1) ⟨(0, 0, a1), Nat.zero_le _, rfl, ho1⟩ (Int) (fun y1 => ({ sl := [(1, .c (.r (.v (.int .i64 y1))))], tab := [] } : St)) 0 (fun y => o1 = LR.out y) ?_ ?_ ?_
  · refine Wk.of [] rfl rfl ?_ ?_
    · cbv
      all_goals exact ⟨⟨_, rfl, rfl⟩, ⟨_, rfl, rfl⟩, ⟨_, rfl, rfl⟩, trivial⟩
    · cbv
      all_goals exact trivial
  · rintro ⟨⟨k1, v2, v1⟩, hk1, hi1, h_1⟩ hq1
    have hm1 := (hq1.1 0 _ _ rfl)
    try dsimp only at hk1 hi1 h_1
    clear hq1
    cbv
    by_cases hc1_ : k1 < a0.length
    · have hb1 : lt v2 (llen (r_I64 a0)) = true := ltL_true_I64 hg ht hi1 hc1_
      have hs1 := stepL_I64 hg ht hi1 hc1_ hm1
      obtain ⟨z1, hz1⟩ := some_of_lt hc1_
      rw [drop_of_some hz1] at h_1
      rw [L_heldIntS_l1] at h_1
      try rw [← hg] at h_1
      try rw [← ht] at h_1
      try dsimp only at h_1
      rw [hb1]
      cbv
      refine AStep.mk (nn_L hi1) ?_
      cbv
      refine AGet.mk _ (r_getL_I64 hg ht hi1 hz1) ?_
      cbv
      cases hb2 : (eq z1 v1) with
      | true =>
        rw [br_true hb2] at h_1
        cbv
        try rw [hg] at h_1
        try rw [ht] at h_1
        refine ⟨⟨(k1 + 1, (wrap .i64 (add v2 1)), (wrap .i64 (add v1 1))), hc1_, hs1, h_1⟩, Wk.of [] rfl rfl ?_ ?_, meas_L hc1_⟩
        · cbv
          all_goals exact ⟨⟨_, rfl, rfl⟩, ⟨_, rfl, rfl⟩, ⟨_, rfl, rfl⟩, trivial⟩
        · cbv
          all_goals exact trivial
      | false =>
        rw [br_false hb2] at h_1
        cbv
        subst h_1
        try dsimp only [lr, lrL, lrp, lrpL] at h
        subst h
        exact ARet.mk trivial hX.symm
    · have hb1 : lt v2 (llen (r_I64 a0)) = false := ltL_false_I64 hg ht hi1 hc1_
      rw [List.drop_of_length_le (Nat.le_of_not_lt hc1_)] at h_1
      rw [L_heldIntS_l1] at h_1
      try rw [← hg] at h_1
      try rw [← ht] at h_1
      try dsimp only at h_1
      rw [hb1]
      cbv
      refine ⟨v1, Wk.of [] rfl rfl ?_ ?_, h_1.symm⟩
      · cbv
        all_goals exact ⟨⟨_, rfl, rfl⟩, trivial⟩
      · cbv
        all_goals exact trivial
  · rintro y1 hy1
    replace hy1 := hy1.symm
    subst hy1
    try dsimp only [lr, lrL, lrp, lrpL] at h
    cbv
    subst h
    exact ARet.mk trivial hX.symm
end Go.Vs
namespace Go.Vs
set_option maxRecDepth 100000
def ir99 : J :=
  .seq (.reg none [⟨(some 4), none, .mv (.k (V.i 0))⟩] [0, 1])
  (.seq (.seq (.reg none [⟨(some 5), none, .mv (.k (V.i 0))⟩] [0, 1, 5])
   (.bl 0 (.seq (.seq (.reg none [⟨(some 6), none, .mv (.t 5)⟩,
        ⟨(some 7), none, .mv (.t 0)⟩,
        ⟨(some 8), none, .len false (.t 7)⟩,
        ⟨(some 9), none, .bin .lss .i (.t 6) (.t 8)⟩] [0, 1, 5, 9])
     (.cond (.t 9)
      (.skip)
      (.exit 0)))
    (.seq (.block 1 (.seq (.seq (.reg none [⟨(some 12), none, .mv (.t 0)⟩,
          ⟨(some 13), none, .mv (.t 5)⟩,
          ⟨(some 14), none, .ia 3 (.t 12) (.t 13)⟩,
          ⟨(some 15), none, .fa 0 (.t 14)⟩,
          ⟨(some 16), none, .ld false 1 (.t 15)⟩,
          ⟨(some 17), none, .mv (.t 1)⟩,
          ⟨(some 18), none, .bin .neq .i (.t 16) (.t 17)⟩] [0, 1, 5, 18])
       (.cond (.t 18)
        (.seq (.reg none [⟨(some 4), none, .mv (.k (V.i (-1)))⟩] [4])
         (.ret))
        (.skip)))
      (.seq (.reg none [⟨(some 19), none, .mv (.t 1)⟩,
         ⟨(some 20), none, .bin .add .i (.t 19) (.k (V.i 1))⟩,
         ⟨(some 1), none, .mv (.t 20)⟩] [0, 1, 5])
      (.seq (.seq (.reg none [⟨(some 21), none, .mv (.t 0)⟩,
          ⟨(some 22), none, .mv (.t 5)⟩,
          ⟨(some 23), none, .ia 3 (.t 21) (.t 22)⟩,
          ⟨(some 24), none, .fa 1 (.t 23)⟩,
          ⟨(some 25), none, .ld false 1 (.t 24)⟩,
          ⟨(some 26), none, .mv (.t 1)⟩,
          ⟨(some 27), none, .bin .neq .i (.t 25) (.t 26)⟩] [0, 1, 5, 27])
       (.cond (.t 27)
        (.seq (.reg none [⟨(some 4), none, .mv (.k (V.i (-1)))⟩] [4])
         (.ret))
        (.skip)))
      (.seq (.reg none [⟨(some 28), none, .mv (.t 1)⟩,
         ⟨(some 29), none, .bin .add .i (.t 28) (.k (V.i 1))⟩,
         ⟨(some 1), none, .mv (.t 29)⟩] [0, 1, 5])
      (.seq (.reg none [⟨(some 30), none, .mv (.t 0)⟩,
         ⟨(some 31), none, .mv (.t 5)⟩,
         ⟨(some 32), none, .ia 3 (.t 30) (.t 31)⟩,
         ⟨(some 33), none, .fa 2 (.t 32)⟩,
         ⟨(some 34), none, .ld false 1 (.t 33)⟩,
         ⟨(some 35), none, .mv (.t 1)⟩,
         ⟨(some 36), none, .call 66 true [(.t 34), (.t 35)]⟩,
         ⟨(some 1), none, .mv (.t 36)⟩] [0, 1, 5])
      (.seq (.reg none [⟨(some 37), none, .mv (.t 1)⟩,
         ⟨(some 38), none, .bin .lss .i (.t 37) (.k (V.i 0))⟩] [0, 1, 5, 38])
      (.cond (.t 38)
       (.seq (.reg none [⟨(some 4), none, .mv (.k (V.i (-1)))⟩] [4])
        (.ret))
       (.skip)))))))))
    (.reg none [⟨(some 10), none, .mv (.t 5)⟩,
      ⟨(some 11), none, .bin .add .i (.t 10) (.k (V.i 1))⟩,
      ⟨(some 5), none, .mv (.t 11)⟩] [0, 1, 5])))))
  (.seq (.reg none [⟨(some 39), none, .mv (.t 1)⟩,
     ⟨(some 4), none, .mv (.t 39)⟩] [4])
  (.ret)))
def rv99 : List RV := [.t 4]
open Go.Proofs Go.IntWalk
set_option linter.unusedVariables false
set_option maxRecDepth 100000
set_option maxHeartbeats 4000000
def L_heldChuteS_l1 (g : G) (t : TE) : List Chute → Int → LR Int Int
  | [], v1 =>
    (LR.out v1)
  | z1 :: ls1, v1 =>
    br (g.eq z1.Cell v1)
    (
     br (g.eq z1.Room (g.wrap .i64 (g.add v1 1)))
     (
      lP (L_heldItemS g t z1.Held (g.wrap .i64 (g.add (g.wrap .i64 (g.add v1 1)) 1))) fun x1 =>
      br (g.lt x1 0)
      (
       (LR.ret (-1)))
      (
       L_heldChuteS_l1 g t ls1 x1))
     (
      (LR.ret (-1))))
    (
     (LR.ret (-1)))
def L_heldChuteS (g : G) (t : TE) (a0 : List Chute) (a1 : Int) : Int :=
  lP (L_heldChuteS_l1 g t a0 a1) fun o1 => lrp o1 fun y1 =>
  y1
theorem fit99 : codeFit Try.prog Try.f99.ntmps (Try.f99.body.getD .skip) ir99 = true := by kernel_rfl
theorem c_L_heldChuteS {g : G} {t : TE} {a0 : List Chute} {a1 : Int} {r : Int} (hg : g = G.real) (ht : t = TE.real) (h : L_heldChuteS g t a0 a1 = r) : Fn Try.prog 99 [.c (.s 3 (t.r_Chute a0)), .c (.v (.int .i64 a1))] (.c (.r (.v (.int .i64 r)))) := by
  obtain ⟨X, hX⟩ := hide (.c (.r (.v (.int .i64 r))) : X)
  rw [← hX]
  refine fn_of (rvs := rv99) (j := ir99) Try.func99 rfl fit99 (Nat.le_of_ble_eq_true rfl) (by kernel_rfl) prog_mixed ?_
  intro g2 F hg2 hF
  obtain rfl : g2 = g := hg2.unique.trans hg.symm
  clear hg2
  obtain ⟨wrap, lt, le, eq, quo, rem, band, bor, bxor, shl, shr, nat, int, add, sub, mul, cat, seq, slt, sub3, byte, llen, nadd, nsub, dlen, dapp, dset, drep, rd, rda, up, rsub, dsub, all, sle, slen, hasI, putI, hasS, putS, imin, imax, fzc⟩ := g2
  obtain ⟨r_Item, d_Item, r_Chute, d_Chute, r_Inlet, d_Inlet, r_I64, d_I64, r_U8, d_U8, d_InletF⟩ := t
  unfold L_heldChuteS at h
  try dsimp only at h
  cbv
  obtain ⟨o1, ho1, h⟩ := of_lP h
  try dsimp only at h
  try rw [hg] at ho1
  try rw [ht] at ho1
  refine ABL.mk { p : Nat × Int × Int // p.1 ≤ a0.length ∧ p.2.1 = ((p.1 : Nat) : Int) ∧ L_heldChuteS_l1 G.real TE.real (List.drop p.1 a0) p.2.2 = o1 } (fun ⟨⟨k1, v2, v1⟩, _⟩ => ({ sl := [(0, .c (.r (.s 3 (r_Chute a0)))), (1, .c (.r (.v (.int .i64 v1)))), (5, .c (.r (.v (.int .i64 v2))))], tab := [] } : St)) 0 (fun p => a0.length - p.1.1) ⟨(0, 0, a1), Nat.zero_le _, rfl, ho1⟩ (Int) (fun y1 => ({ sl := [(1, .c (.r (.v (.int .i64 y1))))], tab := [] } : St)) 0 (fun y => o1 = LR.out y) ?_ ?_ ?_
  · refine Wk.of [] rfl rfl ?_ ?_
    · cbv
      all_goals exact ⟨⟨_, rfl, rfl⟩, ⟨_, rfl, rfl⟩, ⟨_, rfl, rfl⟩, trivial⟩
    · cbv
      all_goals exact trivial
  · rintro ⟨⟨k1, v2, v1⟩, hk1, hi1, h_1⟩ hq1
    have hm1 := (hq1.1 0 _ _ rfl)
    try dsimp only at hk1 hi1 h_1
    clear hq1
    cbv
    by_cases hc1_ : k1 < a0.length
    · have hb1 : lt v2 (llen (r_Chute a0)) = true := ltL_true_Chute hg ht hi1 hc1_
      have hs1 := stepL_Chute hg ht hi1 hc1_ hm1
      obtain ⟨z1, hz1⟩ := some_of_lt hc1_
      rw [drop_of_some hz1] at h_1
      rw [L_heldChuteS_l1] at h_1
      obtain ⟨z1_Cell, z1_Room, z1_Held⟩ := z1
      try rw [← hg] at h_1
      try rw [← ht] at h_1
      try dsimp only at h_1
      rw [hb1]
      cbv
      refine AStep.mk (nn_L hi1) ?_
      cbv
      refine AGet.mk _ (r_getL_Chute hg ht hi1 hz1) ?_
      cbv
      cases hb2 : (eq z1_Cell v1) with
      | true =>
        rw [br_true hb2] at h_1
        cbv
        refine AStep.mk (nn_L hi1) ?_
        cbv
        refine AGet.mk _ (r_getL_Chute hg ht hi1 hz1) ?_
        cbv
        cases hb3 : (eq z1_Room (wrap .i64 (add v1 1))) with
        | true =>
          rw [br_true hb3] at h_1
          cbv
          refine AStep.mk (nn_L hi1) ?_
          cbv
          refine AGet.mk _ (r_getL_Chute hg ht hi1 hz1) ?_
          cbv
          obtain ⟨x1, hx1, h_1⟩ := of_lP h_1
          try dsimp only at h_1
          refine ACall.mk _ _ rfl (hF _ _ _ (c_L_heldItemS hg ht hx1)) (.inl rfl) (Nat.le_of_ble_eq_true rfl) ?_
          cbv
          cases hb4 : (lt x1 0) with
          | true =>
            rw [br_true hb4] at h_1
            cbv
            subst h_1
            try dsimp only [lr, lrL, lrp, lrpL] at h
            subst h
            exact ARet.mk trivial hX.symm
          | false =>
            rw [br_false hb4] at h_1
            cbv
            try rw [hg] at h_1
            try rw [ht] at h_1
            refine ⟨⟨(k1 + 1, (wrap .i64 (add v2 1)), x1), hc1_, hs1, h_1⟩, Wk.of [] rfl rfl ?_ ?_, meas_L hc1_⟩
            · cbv
              all_goals exact ⟨⟨_, rfl, rfl⟩, ⟨_, rfl, rfl⟩, ⟨_, rfl, rfl⟩, trivial⟩
            · cbv
              all_goals exact trivial
        | false =>
          rw [br_false hb3] at h_1
          cbv
          subst h_1
          try dsimp only [lr, lrL, lrp, lrpL] at h
          subst h
          exact ARet.mk trivial hX.symm
      | false =>
        rw [br_false hb2] at h_1
        cbv
        subst h_1
        try dsimp only [lr, lrL, lrp, lrpL] at h
        subst h
        exact ARet.mk trivial hX.symm
    · have hb1 : lt v2 (llen (r_Chute a0)) = false := ltL_false_Chute hg ht hi1 hc1_
      rw [List.drop_of_length_le (Nat.le_of_not_lt hc1_)] at h_1
      rw [L_heldChuteS_l1] at h_1
      try rw [← hg] at h_1
      try rw [← ht] at h_1
      try dsimp only at h_1
      rw [hb1]
      cbv
      refine ⟨v1, Wk.of [] rfl rfl ?_ ?_, h_1.symm⟩
      · cbv
        all_goals exact ⟨⟨_, rfl, rfl⟩, trivial⟩
      · cbv
        all_goals exact trivial
  · rintro y1 hy1
    replace hy1 := hy1.symm
    subst hy1
    try dsimp only [lr, lrL, lrp, lrpL] at h
    cbv
    subst h
    exact ARet.mk trivial hX.symm
end Go.Vs
namespace Go.Vs
set_option maxRecDepth 100000
def ir100 : J :=
  .seq (.reg none [⟨(some 4), none, .mv (.k (V.i 0))⟩] [0, 1])
  (.seq (.seq (.reg none [⟨(some 5), none, .mv (.k (V.i 0))⟩] [0, 1, 5])
   (.bl 0 (.seq (.seq (.reg none [⟨(some 6), none, .mv (.t 5)⟩,
        ⟨(some 7), none, .mv (.t 0)⟩,
        ⟨(some 8), none, .len false (.t 7)⟩,
        ⟨(some 9), none, .bin .lss .i (.t 6) (.t 8)⟩] [0, 1, 5, 9])
     (.cond (.t 9)
      (.skip)
      (.exit 0)))
    (.seq (.block 1 (.seq (.seq (.reg none [⟨(some 12), none, .mv (.t 0)⟩,
          ⟨(some 13), none, .mv (.t 5)⟩,
          ⟨(some 14), none, .ia 2 (.t 12) (.t 13)⟩,
          ⟨(some 15), none, .fa 0 (.t 14)⟩,
          ⟨(some 16), none, .ld false 1 (.t 15)⟩,
          ⟨(some 17), none, .mv (.t 1)⟩,
          ⟨(some 18), none, .bin .neq .i (.t 16) (.t 17)⟩] [0, 1, 5, 18])
       (.cond (.t 18)
        (.seq (.reg none [⟨(some 4), none, .mv (.k (V.i (-1)))⟩] [4])
         (.ret))
        (.skip)))
      (.seq (.reg none [⟨(some 19), none, .mv (.t 1)⟩,
         ⟨(some 20), none, .bin .add .i (.t 19) (.k (V.i 1))⟩,
         ⟨(some 1), none, .mv (.t 20)⟩] [0, 1, 5])
      (.seq (.reg none [⟨(some 21), none, .mv (.t 0)⟩,
         ⟨(some 22), none, .mv (.t 5)⟩,
         ⟨(some 23), none, .ia 2 (.t 21) (.t 22)⟩,
         ⟨(some 24), none, .fa 1 (.t 23)⟩,
         ⟨(some 25), none, .ld false 1 (.t 24)⟩,
         ⟨(some 26), none, .mv (.t 1)⟩,
         ⟨(some 27), none, .call 66 true [(.t 25), (.t 26)]⟩,
         ⟨(some 1), none, .mv (.t 27)⟩] [0, 1, 5])
      (.seq (.reg none [⟨(some 28), none, .mv (.t 1)⟩,
         ⟨(some 29), none, .bin .lss .i (.t 28) (.k (V.i 0))⟩] [0, 1, 5, 29])
      (.cond (.t 29)
       (.seq (.reg none [⟨(some 4), none, .mv (.k (V.i (-1)))⟩] [4])
        (.ret))
       (.skip)))))))
    (.reg none [⟨(some 10), none, .mv (.t 5)⟩,
      ⟨(some 11), none, .bin .add .i (.t 10) (.k (V.i 1))⟩,
      ⟨(some 5), none, .mv (.t 11)⟩] [0, 1, 5])))))
  (.seq (.reg none [⟨(some 30), none, .mv (.t 1)⟩,
     ⟨(some 4), none, .mv (.t 30)⟩] [4])
  (.ret)))
def rv100 : List RV := [.t 4]
open Go.Proofs Go.IntWalk
set_option linter.unusedVariables false
set_option maxRecDepth 100000
set_option maxHeartbeats 4000000
def L_heldInletS_l1 (g : G) (t : TE) : List Inlet → Int → LR Int Int
  | [], v1 =>
    (LR.out v1)
  | z1 :: ls1, v1 =>
    br (g.eq z1.Cell v1)
    (
     lP (L_heldItemS g t z1.Wait (g.wrap .i64 (g.add v1 1))) fun x1 =>
     br (g.lt x1 0)
     (
      (LR.ret (-1)))
     (
      L_heldInletS_l1 g t ls1 x1))
    (
     (LR.ret (-1)))
def L_heldInletS (g : G) (t : TE) (a0 : List Inlet) (a1 : Int) : Int :=
  lP (L_heldInletS_l1 g t a0 a1) fun o1 => lrp o1 fun y1 =>
  y1
theorem fit100 : codeFit Try.prog Try.f100.ntmps (Try.f100.body.getD .skip) ir100 = true := by kernel_rfl
theorem c_L_heldInletS {g : G} {t : TE} {a0 : List Inlet} {a1 : Int} {r : Int} (hg : g = G.real) (ht : t = TE.real) (h : L_heldInletS g t a0 a1 = r) : Fn Try.prog 100 [.c (.s 2 (t.r_Inlet a0)), .c (.v (.int .i64 a1))] (.c (.r (.v (.int .i64 r)))) := by
  obtain ⟨X, hX⟩ := hide (.c (.r (.v (.int .i64 r))) : X)
  rw [← hX]
  refine fn_of (rvs := rv100) (j := ir100) Try.func100 rfl fit100 (Nat.le_of_ble_eq_true rfl) (by kernel_rfl) prog_mixed ?_
  intro g2 F hg2 hF
  obtain rfl : g2 = g := hg2.unique.trans hg.symm
  clear hg2
  obtain ⟨wrap, lt, le, eq, quo, rem, band, bor, bxor, shl, shr, nat, int, add, sub, mul, cat, seq, slt, sub3, byte, llen, nadd, nsub, dlen, dapp, dset, drep, rd, rda, up, rsub, dsub, all, sle, slen, hasI, putI, hasS, putS, imin, imax, fzc⟩ := g2
  obtain ⟨r_Item, d_Item, r_Chute, d_Chute, r_Inlet, d_Inlet, r_I64, d_I64, r_U8, d_U8, d_InletF⟩ := t
  unfold L_heldInletS at h
  try dsimp only at h
  cbv
  obtain ⟨o1, ho1, h⟩ := of_lP h
  try dsimp only at h
  try rw [hg] at ho1
  try rw [ht] at ho1
  refine ABL.mk { p : Nat × Int × Int // p.1 ≤ a0.length ∧ p.2.1 = ((p.1 : Nat) : Int) ∧ L_heldInletS_l1 G.real TE.real (List.drop p.1 a0) p.2.2 = o1 } (fun ⟨⟨k1, v2, v1⟩, _⟩ => ({ sl := [(0, .c (.r (.s 2 (r_Inlet a0)))), (1, .c (.r (.v (.int .i64 v1)))), (5, .c (.r (.v (.int .i64 v2))))], tab := [] } : St)) 0 (fun p => a0.length - p.1.1) ⟨(0, 0, a1), Nat.zero_le _, rfl, ho1⟩ (Int) (fun y1 => ({ sl := [(1, .c (.r (.v (.int .i64 y1))))], tab := [] } : St)) 0 (fun y => o1 = LR.out y) ?_ ?_ ?_
  · refine Wk.of [] rfl rfl ?_ ?_
    · cbv
      all_goals exact ⟨⟨_, rfl, rfl⟩, ⟨_, rfl, rfl⟩, ⟨_, rfl, rfl⟩, trivial⟩
    · cbv
      all_goals exact trivial
  · rintro ⟨⟨k1, v2, v1⟩, hk1, hi1, h_1⟩ hq1
    have hm1 := (hq1.1 0 _ _ rfl)
    try dsimp only at hk1 hi1 h_1
    clear hq1
    cbv
    by_cases hc1_ : k1 < a0.length
    · have hb1 : lt v2 (llen (r_Inlet a0)) = true := ltL_true_Inlet hg ht hi1 hc1_
      have hs1 := stepL_Inlet hg ht hi1 hc1_ hm1
      obtain ⟨z1, hz1⟩ := some_of_lt hc1_
      rw [drop_of_some hz1] at h_1
      rw [L_heldInletS_l1] at h_1
      obtain ⟨z1_Cell, z1_Wait⟩ := z1
      try rw [← hg] at h_1
      try rw [← ht] at h_1
      try dsimp only at h_1
      rw [hb1]
      cbv
      refine AStep.mk (nn_L hi1) ?_
      cbv
      refine AGet.mk _ (r_getL_Inlet hg ht hi1 hz1) ?_
      cbv
      cases hb2 : (eq z1_Cell v1) with
      | true =>
        rw [br_true hb2] at h_1
        cbv
        refine AStep.mk (nn_L hi1) ?_
        cbv
        refine AGet.mk _ (r_getL_Inlet hg ht hi1 hz1) ?_
        cbv
        obtain ⟨x1, hx1, h_1⟩ := of_lP h_1
        try dsimp only at h_1
        refine ACall.mk _ _ rfl (hF _ _ _ (c_L_heldItemS hg ht hx1)) (.inl rfl) (Nat.le_of_ble_eq_true rfl) ?_
        cbv
        cases hb3 : (lt x1 0) with
        | true =>
          rw [br_true hb3] at h_1
          cbv
          subst h_1
          try dsimp only [lr, lrL, lrp, lrpL] at h
          subst h
          exact ARet.mk trivial hX.symm
        | false =>
          rw [br_false hb3] at h_1
          cbv
          try rw [hg] at h_1
          try rw [ht] at h_1
          refine ⟨⟨(k1 + 1, (wrap .i64 (add v2 1)), x1), hc1_, hs1, h_1⟩, Wk.of [] rfl rfl ?_ ?_, meas_L hc1_⟩
          · cbv
            all_goals exact ⟨⟨_, rfl, rfl⟩, ⟨_, rfl, rfl⟩, ⟨_, rfl, rfl⟩, trivial⟩
          · cbv
            all_goals exact trivial
      | false =>
        rw [br_false hb2] at h_1
        cbv
        subst h_1
        try dsimp only [lr, lrL, lrp, lrpL] at h
        subst h
        exact ARet.mk trivial hX.symm
    · have hb1 : lt v2 (llen (r_Inlet a0)) = false := ltL_false_Inlet hg ht hi1 hc1_
      rw [List.drop_of_length_le (Nat.le_of_not_lt hc1_)] at h_1
      rw [L_heldInletS_l1] at h_1
      try rw [← hg] at h_1
      try rw [← ht] at h_1
      try dsimp only at h_1
      rw [hb1]
      cbv
      refine ⟨v1, Wk.of [] rfl rfl ?_ ?_, h_1.symm⟩
      · cbv
        all_goals exact ⟨⟨_, rfl, rfl⟩, trivial⟩
      · cbv
        all_goals exact trivial
  · rintro y1 hy1
    replace hy1 := hy1.symm
    subst hy1
    try dsimp only [lr, lrL, lrp, lrpL] at h
    cbv
    subst h
    exact ARet.mk trivial hX.symm
end Go.Vs
namespace Go.Vs
set_option maxRecDepth 100000
def ir50 : J :=
  .seq (.reg none [⟨(some 2), none, .box (.t 0)⟩,
     ⟨(some 4), none, .mv (.k (V.i 0))⟩] [1, 2])
  (.seq (.reg none [⟨(some 5), none, .fa 0 (.t 2)⟩,
     ⟨(some 6), none, .ld false 1 (.t 5)⟩,
     ⟨(some 7), none, .mv (.t 1)⟩,
     ⟨(some 8), none, .call 66 true [(.t 6), (.t 7)]⟩,
     ⟨(some 1), none, .mv (.t 8)⟩] [1, 2])
  (.seq (.seq (.reg none [⟨(some 9), none, .mv (.t 1)⟩,
      ⟨(some 10), none, .bin .lss .i (.t 9) (.k (V.i 0))⟩] [1, 2, 10])
   (.cond (.t 10)
    (.seq (.reg none [⟨(some 4), none, .mv (.k (V.i (-1)))⟩] [4])
     (.ret))
    (.skip)))
  (.seq (.reg none [⟨(some 11), none, .fa 1 (.t 2)⟩,
     ⟨(some 12), none, .ld false 1 (.t 11)⟩,
     ⟨(some 13), none, .mv (.t 1)⟩,
     ⟨(some 14), none, .call 99 true [(.t 12), (.t 13)]⟩,
     ⟨(some 1), none, .mv (.t 14)⟩] [1, 2])
  (.seq (.seq (.reg none [⟨(some 15), none, .mv (.t 1)⟩,
      ⟨(some 16), none, .bin .lss .i (.t 15) (.k (V.i 0))⟩] [1, 2, 16])
   (.cond (.t 16)
    (.seq (.reg none [⟨(some 4), none, .mv (.k (V.i (-1)))⟩] [4])
     (.ret))
    (.skip)))
  (.seq (.reg none [⟨(some 17), none, .fa 2 (.t 2)⟩,
     ⟨(some 18), none, .ld false 1 (.t 17)⟩,
     ⟨(some 19), none, .mv (.t 1)⟩,
     ⟨(some 20), none, .call 100 true [(.t 18), (.t 19)]⟩,
     ⟨(some 1), none, .mv (.t 20)⟩] [1, 2])
  (.seq (.seq (.reg none [⟨(some 21), none, .mv (.t 1)⟩,
      ⟨(some 22), none, .bin .lss .i (.t 21) (.k (V.i 0))⟩] [1, 2, 22])
   (.cond (.t 22)
    (.seq (.reg none [⟨(some 4), none, .mv (.k (V.i (-1)))⟩] [4])
     (.ret))
    (.skip)))
  (.seq (.reg none [⟨(some 23), none, .fa 3 (.t 2)⟩,
     ⟨(some 24), none, .ld false 1 (.t 23)⟩,
     ⟨(some 25), none, .mv (.t 1)⟩,
     ⟨(some 26), none, .call 75 true [(.t 24), (.t 25)]⟩,
     ⟨(some 1), none, .mv (.t 26)⟩] [1])
  (.seq (.seq (.reg none [⟨(some 27), none, .mv (.t 1)⟩,
      ⟨(some 28), none, .bin .lss .i (.t 27) (.k (V.i 0))⟩] [1, 28])
   (.cond (.t 28)
    (.seq (.reg none [⟨(some 4), none, .mv (.k (V.i (-1)))⟩] [4])
     (.ret))
    (.skip)))
  (.seq (.reg none [⟨(some 29), none, .mv (.t 1)⟩,
     ⟨(some 4), none, .mv (.t 29)⟩] [4])
  (.ret))))))))))
def rv50 : List RV := [.t 4]
open Go.Proofs Go.IntWalk
set_option linter.unusedVariables false
set_option maxRecDepth 100000
set_option maxHeartbeats 4000000
def L_heldCentre (g : G) (t : TE) (a0 : Centre) (a1 : Int) : Int :=
  lP (L_heldItemS g t a0.Belt a1) fun x1 =>
  br (g.lt x1 0)
  (
   (-1))
  (
   lP (L_heldChuteS g t a0.Chutes x1) fun x2 =>
   br (g.lt x2 0)
   (
    (-1))
   (
    lP (L_heldInletS g t a0.Inlets x2) fun x3 =>
    br (g.lt x3 0)
    (
     (-1))
    (
     lP (L_heldIntS g t a0.Plan x3) fun x4 =>
     br (g.lt x4 0)
     (
      (-1))
     (
      x4))))
theorem fit50 : codeFit Try.prog Try.f50.ntmps (Try.f50.body.getD .skip) ir50 = true := by kernel_rfl
theorem c_L_heldCentre {g : G} {t : TE} {a0 : Centre} {a1 : Int} {r : Int} (hg : g = G.real) (ht : t = TE.real) (h : L_heldCentre g t a0 a1 = r) : Fn Try.prog 50 [.g (Centre.rs t a0), .c (.v (.int .i64 a1))] (.c (.r (.v (.int .i64 r)))) := by
  obtain ⟨X, hX⟩ := hide (.c (.r (.v (.int .i64 r))) : X)
  rw [← hX]
  refine fn_of (rvs := rv50) (j := ir50) Try.func50 rfl fit50 (Nat.le_of_ble_eq_true rfl) (by kernel_rfl) prog_mixed ?_
  intro g2 F hg2 hF
  obtain rfl : g2 = g := hg2.unique.trans hg.symm
  clear hg2
  obtain ⟨wrap, lt, le, eq, quo, rem, band, bor, bxor, shl, shr, nat, int, add, sub, mul, cat, seq, slt, sub3, byte, llen, nadd, nsub, dlen, dapp, dset, drep, rd, rda, up, rsub, dsub, all, sle, slen, hasI, putI, hasS, putS, imin, imax, fzc⟩ := g2
  obtain ⟨r_Item, d_Item, r_Chute, d_Chute, r_Inlet, d_Inlet, r_I64, d_I64, r_U8, d_U8, d_InletF⟩ := t
  obtain ⟨a0_Belt, a0_Chutes, a0_Inlets, a0_Plan, a0_Now⟩ := a0
  unfold L_heldCentre at h
  try dsimp only at h
  cbv
  obtain ⟨x1, hx1, h⟩ := of_lP h
  try dsimp only at h
  refine ACall.mk _ _ rfl (hF _ _ _ (c_L_heldItemS hg ht hx1)) (.inl rfl) (Nat.le_of_ble_eq_true rfl) ?_
  cbv
  cases hb1 : (lt x1 0) with
  | true =>
    rw [br_true hb1] at h
    cbv
    subst h
    exact ARet.mk trivial hX.symm
  | false =>
    rw [br_false hb1] at h
    cbv
    obtain ⟨x2, hx2, h⟩ := of_lP h
    try dsimp only at h
    refine ACall.mk _ _ rfl (hF _ _ _ (c_L_heldChuteS hg ht hx2)) (.inl rfl) (Nat.le_of_ble_eq_true rfl) ?_
    cbv
    cases hb2 : (lt x2 0) with
    | true =>
      rw [br_true hb2] at h
      cbv
      subst h
      exact ARet.mk trivial hX.symm
    | false =>
      rw [br_false hb2] at h
      cbv
      obtain ⟨x3, hx3, h⟩ := of_lP h
      try dsimp only at h
      refine ACall.mk _ _ rfl (hF _ _ _ (c_L_heldInletS hg ht hx3)) (.inl rfl) (Nat.le_of_ble_eq_true rfl) ?_
      cbv
      cases hb3 : (lt x3 0) with
      | true =>
        rw [br_true hb3] at h
        cbv
        subst h
        exact ARet.mk trivial hX.symm
      | false =>
        rw [br_false hb3] at h
        cbv
        obtain ⟨x4, hx4, h⟩ := of_lP h
        try dsimp only at h
        refine ACall.mk _ _ rfl (hF _ _ _ (c_L_heldIntS hg ht hx4)) (.inl rfl) (Nat.le_of_ble_eq_true rfl) ?_
        cbv
        cases hb4 : (lt x4 0) with
        | true =>
          rw [br_true hb4] at h
          cbv
          subst h
          exact ARet.mk trivial hX.symm
        | false =>
          rw [br_false hb4] at h
          cbv
          subst h
          exact ARet.mk trivial hX.symm
end Go.Vs
namespace Go.Vs
set_option maxRecDepth 100000
def ir36 : J :=
  .seq (.reg none [⟨(some 2), none, .box (.t 0)⟩,
     ⟨(some 4), none, .alloc [.n 2, .n 3, .n 2, .n 1, .r (.v (.int .i64 0))]⟩] [1, 2, 4])
  (.seq (.reg none [⟨(some 7), none, .ld true 5 (.t 2)⟩,
     ⟨(some 8), none, .call 94 true [(.t 7)]⟩,
     ⟨(some 5), none, .alloc [.n 2, .n 3, .n 2, .n 1, .r (.v (.int .i64 0))]⟩,
     ⟨none, none, .st 5 (.t 5) (.t 8)⟩] [1, 2, 4, 5])
  (.seq (.seq (.reg none [⟨(some 9), none, .ld true 5 (.t 2)⟩,
      ⟨(some 10), none, .call 32 true [(.t 9)]⟩,
      ⟨(some 11), none, .not (.t 10)⟩,
      ⟨(some 12), none, .mv (.t 11)⟩,
      ⟨(some 13), (some (12, false)), .mv (.t 1)⟩,
      ⟨(some 14), (some (12, false)), .call 89 true [(.t 13), (.k (V.i 0)), (.k (V.i 1000))]⟩,
      ⟨(some 15), (some (12, false)), .not (.t 14)⟩,
      ⟨(some 16), none, .pick (.t 12) (.k (V.b true)) (.t 15)⟩,
      ⟨(some 17), none, .mv (.t 16)⟩,
      ⟨(some 18), (some (17, false)), .fa 4 (.t 2)⟩,
      ⟨(some 19), (some (17, false)), .ld false 1 (.t 18)⟩,
      ⟨(some 20), (some (17, false)), .mv (.t 1)⟩,
      ⟨(some 21), (some (17, false)), .bin .add .i (.t 19) (.t 20)⟩,
      ⟨(some 22), (some (17, false)), .bin .gtr .i (.t 21) (.k (V.i 100000))⟩,
      ⟨(some 23), none, .pick (.t 17) (.k (V.b true)) (.t 22)⟩] [1, 4, 5, 23])
   (.cond (.t 23)
    (.seq (.reg none [⟨(some 24), none, .ld true 5 (.t 5)⟩,
        ⟨none, none, .st 5 (.t 4) (.t 24)⟩] [4])
     (.ret))
    (.skip)))
  (.seq (.seq (.reg none [⟨(some 6), none, .mv (.k (V.i 0))⟩] [1, 4, 5, 6])
   (.bl 0 (.seq (.seq (.reg none [⟨(some 25), none, .mv (.t 6)⟩,
        ⟨(some 26), none, .mv (.t 1)⟩,
        ⟨(some 27), none, .bin .lss .i (.t 25) (.t 26)⟩] [1, 4, 5, 6, 27])
     (.cond (.t 27)
      (.skip)
      (.exit 0)))
    (.seq (.block 1 (.reg none [⟨(some 30), none, .callm 95 (.t 5) []⟩] [1, 4, 5, 6]))
    (.reg none [⟨(some 28), none, .mv (.t 6)⟩,
      ⟨(some 29), none, .bin .add .i (.t 28) (.k (V.i 1))⟩,
      ⟨(some 6), none, .mv (.t 29)⟩] [1, 4, 5, 6])))))
  (.seq (.reg none [⟨(some 31), none, .ld true 5 (.t 5)⟩,
     ⟨none, none, .st 5 (.t 4) (.t 31)⟩] [4])
  (.ret)))))
def rv36 : List RV := [.c 4 true 5]
open Go.Proofs Go.IntWalk
set_option linter.unusedVariables false
set_option maxRecDepth 100000
set_option maxHeartbeats 4000000
def I_RunCentre_l1 (g : G) (t : TE) : Nat → List Item → List Chute → List Inlet → List Int → Int → Option ((List Item) × (List Chute) × (List Inlet) × (List Int) × Int)
  | 0, w1, w2, w3, w4, v1 =>
    some (w1, w2, w3, w4, v1)
  | n1 + 1, w1, w2, w3, w4, v1 =>
    cl (I_tick g t (Centre.mk w1 w2 w3 w4 v1)) fun x4 =>
    I_RunCentre_l1 g t n1 x4.Belt x4.Chutes x4.Inlets x4.Plan x4.Now
def I_RunCentre (g : G) (t : TE) (a0 : Centre) (a1 : Int) : Option Centre :=
  cl (I_copyCentre g t a0) fun x1 =>
  cl (I_IsCentre g t a0) fun x2 =>
  br x2
  (
   lP (I_within g t a1 0 1000) fun x3 =>
   br x3
   (
    br (g.lt 100000 (g.wrap .i64 (g.add a0.Now a1)))
    (
     some x1)
    (
     gd ((a1 ≤ 4611686018427387904)) <|
     cl (I_RunCentre_l1 g t (cntLt 0 a1) x1.Belt x1.Chutes x1.Inlets x1.Plan x1.Now) fun y1 =>
     some (Centre.mk y1.1 y1.2.1 y1.2.2.1 y1.2.2.2.1 y1.2.2.2.2)))
   (
    some x1))
  (
   some x1)
theorem fit36 : codeFit Try.prog Try.f36.ntmps (Try.f36.body.getD .skip) ir36 = true := by kernel_rfl
theorem c_I_RunCentre {g : G} {t : TE} {a0 : Centre} {a1 : Int} {r : Centre} (hg : g = G.real) (ht : t = TE.real) (h : I_RunCentre g t a0 a1 = some r) : Fn Try.prog 36 [.g (Centre.rs t a0), .c (.v (.int .i64 a1))] (.g (Centre.ds t r)) := by
  obtain ⟨X, hX⟩ := hide (.g (Centre.ds t r) : X)
  rw [← hX]
  refine fn_of (rvs := rv36) (j := ir36) Try.func36 rfl fit36 (Nat.le_of_ble_eq_true rfl) (by kernel_rfl) prog_mixed ?_
  intro g2 F hg2 hF
  obtain rfl : g2 = g := hg2.unique.trans hg.symm
  clear hg2
  obtain ⟨wrap, lt, le, eq, quo, rem, band, bor, bxor, shl, shr, nat, int, add, sub, mul, cat, seq, slt, sub3, byte, llen, nadd, nsub, dlen, dapp, dset, drep, rd, rda, up, rsub, dsub, all, sle, slen, hasI, putI, hasS, putS, imin, imax, fzc⟩ := g2
  obtain ⟨r_Item, d_Item, r_Chute, d_Chute, r_Inlet, d_Inlet, r_I64, d_I64, r_U8, d_U8, d_InletF⟩ := t
  obtain ⟨a0_Belt, a0_Chutes, a0_Inlets, a0_Plan, a0_Now⟩ := a0
  unfold I_RunCentre at h
  try dsimp only at h
  cbv
  obtain ⟨x1, hx1, h⟩ := of_cl h
  obtain ⟨x1_Belt, x1_Chutes, x1_Inlets, x1_Plan, x1_Now⟩ := x1
  try dsimp only at h
  refine ACall.mk _ _ rfl (hF _ _ _ (c_I_copyCentre hg ht hx1)) (.inl rfl) (Nat.le_of_ble_eq_true rfl) ?_
  cbv
  obtain ⟨x2, hx2, h⟩ := of_cl h
  try dsimp only at h
  refine ACall.mk _ _ rfl (hF _ _ _ (c_I_IsCentre hg ht hx2)) (.inl rfl) (Nat.le_of_ble_eq_true rfl) ?_
  cbv
  cases hb1 : x2 with
  | true =>
    rw [br_true hb1] at h
    cbv
    try (rw [hb1]; cbv)
    obtain ⟨x3, hx3, h⟩ := of_lP h
    try dsimp only at h
    refine ACall.mk _ _ rfl (hF _ _ _ (c_I_within hg ht hx3)) (.inl rfl) (Nat.le_of_ble_eq_true rfl) ?_
    cbv
    try (rw [hb1]; cbv)
    try (rw [hb1]; cbv)
    cases hb2 : x3 with
    | true =>
      rw [br_true hb2] at h
      cbv
      try (rw [hb2]; cbv)
      try (rw [hb2]; cbv)
      try (rw [hb2]; cbv)
      try (rw [hb2]; cbv)
      try (rw [hb2]; cbv)
      cases hb3 : (lt 100000 (wrap .i64 (add a0_Now a1))) with
      | true =>
        rw [br_true hb3] at h
        cbv
        obtain rfl := Option.some.inj h
        exact ARet.mk ⟨⟨rfl, (dlen_Item hg ht _)⟩, ⟨⟨rfl, (dlen_Chute hg ht _)⟩, ⟨⟨rfl, (dlen_Inlet hg ht _)⟩, ⟨rfl, (dlen_I64 hg ht _)⟩⟩⟩⟩ hX.symm
      | false =>
        rw [br_false hb3] at h
        cbv
        obtain ⟨hB1, h⟩ := of_gd h
        obtain ⟨o1, ho1, h⟩ := of_cl h
        try dsimp only at h
        try rw [hg] at ho1
        try rw [ht] at ho1
        refine ABL.mk { p : Nat × Int × (List Item) × (List Chute) × (List Inlet) × (List Int) × Int // p.1 = cntLt p.2.1 a1 ∧ 0 ≤ p.2.1 ∧ I_RunCentre_l1 G.real TE.real p.1 p.2.2.1 p.2.2.2.1 p.2.2.2.2.1 p.2.2.2.2.2.1 p.2.2.2.2.2.2 = some o1 } (fun ⟨⟨n1, v2, w1, w2, w3, w4, v1⟩, _⟩ => ({ sl := [(1, .c (.r (.v (.int .i64 a1)))), (4, .c (.p 0 5 0 0)), (5, .c (.p 1 5 0 0)), (6, .c (.r (.v (.int .i64 v2))))], tab := [(0, some (.foc 5 [] [.n 2, .n 3, .n 2, .n 1, .r (.v (.int .i64 0))] [])), (1, some (.foc 5 [] [.f 2 2 0 (dlen (d_Item w1)), .f 3 3 0 (dlen (d_Chute w2)), .f 4 2 0 (dlen (d_Inlet w3)), .f 5 1 0 (dlen (d_I64 w4)), .r (.v (.int .i64 v1))] [])), (2, some (.arr 2 (d_Item w1))), (3, some (.arr 3 (d_Chute w2))), (4, some (.arr 2 (d_Inlet w3))), (5, some (.arr 1 (d_I64 w4)))] } : St)) 6 (fun p => p.1.1) ⟨(cntLt 0 a1, 0, x1_Belt, x1_Chutes, x1_Inlets, x1_Plan, x1_Now), rfl, Int.le_refl _, ho1⟩ ((List Item) × (List Chute) × (List Inlet) × (List Int) × Int) (fun ⟨y1_1, y1_2_1, y1_2_2_1, y1_2_2_2_1, y1_2_2_2_2⟩ => ({ sl := [(4, .c (.p 0 5 0 0)), (5, .c (.p 1 5 0 0))], tab := [(0, some (.foc 5 [] [.n 2, .n 3, .n 2, .n 1, .r (.v (.int .i64 0))] [])), (1, some (.foc 5 [] [.f 2 2 0 (dlen (d_Item y1_1)), .f 3 3 0 (dlen (d_Chute y1_2_1)), .f 4 2 0 (dlen (d_Inlet y1_2_2_1)), .f 5 1 0 (dlen (d_I64 y1_2_2_2_1)), .r (.v (.int .i64 y1_2_2_2_2))] [])), (2, some (.arr 2 (d_Item y1_1))), (3, some (.arr 3 (d_Chute y1_2_1))), (4, some (.arr 2 (d_Inlet y1_2_2_1))), (5, some (.arr 1 (d_I64 y1_2_2_2_1)))] } : St)) 6 (fun y => o1 = y) ?_ ?_ ?_
        · refine Wk.of [(0, some 16), (1, some 64), (2, some 48), (3, some 49), (4, some 50), (5, some 51)] rfl rfl ?_ ?_
          · cbv
            all_goals exact ⟨⟨_, rfl, rfl⟩, ⟨_, rfl, rfl⟩, ⟨_, rfl, rfl⟩, ⟨_, rfl, rfl⟩, trivial⟩
          · cbv
            all_goals exact ⟨⟨_, rfl, _, rfl, rfl, rfl, rfl, rfl, rfl, trivial⟩, ⟨_, rfl, _, rfl, rfl, rfl, rfl, rfl, rfl, trivial⟩, ⟨_, rfl, rfl⟩, ⟨_, rfl, rfl⟩, ⟨_, rfl, rfl⟩, ⟨_, rfl, rfl⟩, trivial⟩
        · rintro ⟨⟨n1, v2, w1, w2, w3, w4, v1⟩, hn1, hi1, h_1⟩ hq1
          try dsimp only at hn1 hi1 h_1
          clear hq1
          cbv
          rcases n1 with _ | n1
          · have hb4 : lt v2 a1 = false := ltC_false hg hn1
            rw [I_RunCentre_l1] at h_1
            try rw [← hg] at h_1
            try rw [← ht] at h_1
            try dsimp only at h_1
            rw [hb4]
            cbv
            refine ⟨(w1, w2, w3, w4, v1), Wk.of [(0, some 0), (1, some 1), (2, some 2), (3, some 3), (4, some 4), (5, some 5)] rfl rfl ?_ ?_, (Option.some.inj h_1).symm⟩
            · cbv
              all_goals exact ⟨⟨_, rfl, rfl⟩, ⟨_, rfl, rfl⟩, trivial⟩
            · cbv
              all_goals exact ⟨⟨_, rfl, _, rfl, rfl, rfl, rfl, rfl, rfl, trivial⟩, ⟨_, rfl, _, rfl, rfl, rfl, rfl, rfl, rfl, trivial⟩, ⟨_, rfl, rfl⟩, ⟨_, rfl, rfl⟩, ⟨_, rfl, rfl⟩, ⟨_, rfl, rfl⟩, trivial⟩
          · have hb4 : lt v2 a1 = true := ltC_true hg hn1
            have hl1 := ltC_le hn1
            have hs1 := stepltC hg hn1 hi1 hB1 (by decide)
            rw [I_RunCentre_l1] at h_1
            try rw [← hg] at h_1
            try rw [← ht] at h_1
            try dsimp only at h_1
            rw [hb4]
            cbv
            refine AStep.mk ⟨⟨rfl, (dlen_Item hg ht _)⟩, ⟨⟨rfl, (dlen_Chute hg ht _)⟩, ⟨⟨rfl, (dlen_Inlet hg ht _)⟩, ⟨rfl, (dlen_I64 hg ht _)⟩⟩⟩⟩ ?_
            cbv
            obtain ⟨x4, hx4, h_1⟩ := of_cl h_1
            obtain ⟨x4_Belt, x4_Chutes, x4_Inlets, x4_Plan, x4_Now⟩ := x4
            try dsimp only at h_1
            refine ACallM.mk _ _ _ _ rfl rfl (hF _ _ _ (c_I_tick hg ht hx4)) rfl (Nat.le_of_ble_eq_true rfl) (Nat.le_of_ble_eq_true rfl) ?_
            cbv
            try rw [hg] at h_1
            try rw [ht] at h_1
            refine ⟨⟨(n1, (wrap .i64 (add v2 1)), x4_Belt, x4_Chutes, x4_Inlets, x4_Plan, x4_Now), hs1.1, hs1.2, h_1⟩, Wk.of [(0, some 0), (1, some 1), (2, some 62), (3, some 63), (4, some 64), (5, some 65)] rfl rfl ?_ ?_, Nat.lt_succ_self _⟩
            · cbv
              all_goals exact ⟨⟨_, rfl, rfl⟩, ⟨_, rfl, rfl⟩, ⟨_, rfl, rfl⟩, ⟨_, rfl, rfl⟩, trivial⟩
            · cbv
              all_goals exact ⟨⟨_, rfl, _, rfl, rfl, rfl, rfl, rfl, rfl, trivial⟩, ⟨_, rfl, _, rfl, rfl, rfl, rfl, rfl, rfl, trivial⟩, ⟨_, rfl, rfl⟩, ⟨_, rfl, rfl⟩, ⟨_, rfl, rfl⟩, ⟨_, rfl, rfl⟩, trivial⟩
        · rintro ⟨y1_1, y1_2_1, y1_2_2_1, y1_2_2_2_1, y1_2_2_2_2⟩ hy1
          replace hy1 := hy1.symm
          subst hy1
          try dsimp only [lr, lrL, lrp, lrpL] at h
          cbv
          obtain rfl := Option.some.inj h
          exact ARet.mk ⟨⟨rfl, (dlen_Item hg ht _)⟩, ⟨⟨rfl, (dlen_Chute hg ht _)⟩, ⟨⟨rfl, (dlen_Inlet hg ht _)⟩, ⟨rfl, (dlen_I64 hg ht _)⟩⟩⟩⟩ hX.symm
    | false =>
      rw [br_false hb2] at h
      cbv
      try (rw [hb2]; cbv)
      try (rw [hb2]; cbv)
      try (rw [hb2]; cbv)
      try (rw [hb2]; cbv)
      try (rw [hb2]; cbv)
      obtain rfl := Option.some.inj h
      exact ARet.mk ⟨⟨rfl, (dlen_Item hg ht _)⟩, ⟨⟨rfl, (dlen_Chute hg ht _)⟩, ⟨⟨rfl, (dlen_Inlet hg ht _)⟩, ⟨rfl, (dlen_I64 hg ht _)⟩⟩⟩⟩ hX.symm
  | false =>
    rw [br_false hb1] at h
    cbv
    try (rw [hb1]; cbv)
    try (rw [hb1]; cbv)
    try (rw [hb1]; cbv)
    obtain rfl := Option.some.inj h
    exact ARet.mk ⟨⟨rfl, (dlen_Item hg ht _)⟩, ⟨⟨rfl, (dlen_Chute hg ht _)⟩, ⟨⟨rfl, (dlen_Inlet hg ht _)⟩, ⟨rfl, (dlen_I64 hg ht _)⟩⟩⟩⟩ hX.symm
end Go.Vs
namespace Go.Vs
set_option maxRecDepth 100000
def ir72 : J :=
  .seq (.reg none [⟨(some 2), none, .box (.t 0)⟩,
     ⟨(some 4), none, .alloc [.n 2, .n 3, .n 2, .n 1, .r (.v (.int .i64 0))]⟩] [1, 2, 4])
  (.seq (.reg none [⟨(some 7), none, .ld true 5 (.t 2)⟩,
     ⟨(some 8), none, .call 106 true [(.t 7)]⟩,
     ⟨(some 5), none, .alloc [.n 2, .n 3, .n 2, .n 1, .r (.v (.int .i64 0))]⟩,
     ⟨none, none, .st 5 (.t 5) (.t 8)⟩] [1, 2, 4, 5])
  (.seq (.seq (.reg none [⟨(some 9), none, .ld true 5 (.t 2)⟩,
      ⟨(some 10), none, .call 31 true [(.t 9)]⟩,
      ⟨(some 11), none, .not (.t 10)⟩,
      ⟨(some 12), none, .mv (.t 11)⟩,
      ⟨(some 13), (some (12, false)), .mv (.t 1)⟩,
      ⟨(some 14), (some (12, false)), .call 85 true [(.t 13), (.k (V.i 0)), (.k (V.i 1000))]⟩,
      ⟨(some 15), (some (12, false)), .not (.t 14)⟩,
      ⟨(some 16), none, .pick (.t 12) (.k (V.b true)) (.t 15)⟩,
      ⟨(some 17), none, .mv (.t 16)⟩,
      ⟨(some 18), (some (17, false)), .fa 4 (.t 2)⟩,
      ⟨(some 19), (some (17, false)), .ld false 1 (.t 18)⟩,
      ⟨(some 20), (some (17, false)), .mv (.t 1)⟩,
      ⟨(some 21), (some (17, false)), .bin .add .i (.t 19) (.t 20)⟩,
      ⟨(some 22), (some (17, false)), .bin .gtr .i (.t 21) (.k (V.i 100000))⟩,
      ⟨(some 23), none, .pick (.t 17) (.k (V.b true)) (.t 22)⟩] [1, 4, 5, 23])
   (.cond (.t 23)
    (.seq (.reg none [⟨(some 24), none, .ld true 5 (.t 5)⟩,
        ⟨none, none, .st 5 (.t 4) (.t 24)⟩] [4])
     (.ret))
    (.skip)))
  (.seq (.seq (.reg none [⟨(some 6), none, .mv (.k (V.i 0))⟩] [1, 4, 5, 6])
   (.gh (.bl 0 (.seq (.seq (.reg none [⟨(some 25), none, .mv (.t 6)⟩,
        ⟨(some 26), none, .mv (.t 1)⟩,
        ⟨(some 27), none, .bin .lss .i (.t 25) (.t 26)⟩] [1, 4, 5, 6, 27])
     (.cond (.t 27)
      (.skip)
      (.exit 0)))
    (.seq (.block 1 (.reg none [⟨(some 30), none, .callm 107 (.t 5) []⟩] [1, 4, 5, 6]))
    (.reg none [⟨(some 28), none, .mv (.t 6)⟩,
      ⟨(some 29), none, .bin .add .i (.t 28) (.k (V.i 1))⟩,
      ⟨(some 6), none, .mv (.t 29)⟩] [1, 4, 5, 6]))))))
  (.seq (.reg none [⟨(some 31), none, .ld true 5 (.t 5)⟩,
     ⟨(some 32), none, .call 106 true [(.t 31)]⟩,
     ⟨none, none, .st 5 (.t 4) (.t 32)⟩] [4])
  (.ret)))))
def rv72 : List RV := [.c 4 true 5]
open Go.Proofs Go.IntWalk
set_option linter.unusedVariables false
set_option maxRecDepth 100000
set_option maxHeartbeats 4000000
def S_RunCentre_l1 (g : G) (t : TE) : Nat → List Item → List Chute → List Inlet → List Int → Int → Option ((List Item) × (List Chute) × (List Inlet) × (List Int) × Int)
  | 0, w1, w2, w3, w4, v1 =>
    some (w1, w2, w3, w4, v1)
  | n1 + 1, w1, w2, w3, w4, v1 =>
    cl (S_l7Tick g t (Centre.mk w1 w2 w3 w4 v1)) fun x4 =>
    S_RunCentre_l1 g t n1 x4.Belt x4.Chutes x4.Inlets x4.Plan x4.Now
def S_RunCentre (g : G) (t : TE) (a0 : Centre) (a1 : Int) : Option Centre :=
  cl (S_l7Copy g t a0) fun x1 =>
  cl (S_IsCentre g t a0) fun x2 =>
  br x2
  (
   lP (S_l1In g t a1 0 1000) fun x3 =>
   br x3
   (
    br (g.lt 100000 (g.wrap .i64 (g.add a0.Now a1)))
    (
     some x1)
    (
     gd ((a1 ≤ 4611686018427387904)) <|
     cl (S_RunCentre_l1 g t (cntLt 0 a1) x1.Belt x1.Chutes x1.Inlets x1.Plan x1.Now) fun y1 =>
     cl (S_l7Copy g t (Centre.mk y1.1 y1.2.1 y1.2.2.1 y1.2.2.2.1 y1.2.2.2.2)) fun x5 =>
     some x5))
   (
    some x1))
  (
   some x1)
theorem fit72 : codeFit Try.prog Try.f72.ntmps (Try.f72.body.getD .skip) ir72 = true := by kernel_rfl
theorem c_S_RunCentre {g : G} {t : TE} {a0 : Centre} {a1 : Int} {r : Centre} (hg : g = G.real) (ht : t = TE.real) (h : S_RunCentre g t a0 a1 = some r) : Fn Try.prog 72 [.g (Centre.rs t a0), .c (.v (.int .i64 a1))] (.g (Centre.ds t r)) := by
  obtain ⟨X, hX⟩ := hide (.g (Centre.ds t r) : X)
  rw [← hX]
  refine fn_of (rvs := rv72) (j := ir72) Try.func72 rfl fit72 (Nat.le_of_ble_eq_true rfl) (by kernel_rfl) prog_mixed ?_
  intro g2 F hg2 hF
  obtain rfl : g2 = g := hg2.unique.trans hg.symm
  clear hg2
  obtain ⟨wrap, lt, le, eq, quo, rem, band, bor, bxor, shl, shr, nat, int, add, sub, mul, cat, seq, slt, sub3, byte, llen, nadd, nsub, dlen, dapp, dset, drep, rd, rda, up, rsub, dsub, all, sle, slen, hasI, putI, hasS, putS, imin, imax, fzc⟩ := g2
  obtain ⟨r_Item, d_Item, r_Chute, d_Chute, r_Inlet, d_Inlet, r_I64, d_I64, r_U8, d_U8, d_InletF⟩ := t
  obtain ⟨a0_Belt, a0_Chutes, a0_Inlets, a0_Plan, a0_Now⟩ := a0
  have hfr_Item : ∀ l, freshDss (d_Item l) = true := fresh_Item ht
  have hfr_Chute : ∀ l, freshDss (d_Chute l) = true := fresh_Chute ht
  have hfr_Inlet : ∀ l, freshDss (d_Inlet l) = true := fresh_Inlet ht
  have hfr_I64 : ∀ l, freshDss (d_I64 l) = true := fresh_I64 ht
  unfold S_RunCentre at h
  try dsimp only at h
  cbv
  obtain ⟨x1, hx1, h⟩ := of_cl h
  obtain ⟨x1_Belt, x1_Chutes, x1_Inlets, x1_Plan, x1_Now⟩ := x1
  try dsimp only at h
  refine ACall.mk _ _ rfl (hF _ _ _ (c_S_l7Copy hg ht hx1)) (.inl rfl) (Nat.le_of_ble_eq_true rfl) ?_
  cbv
  obtain ⟨x2, hx2, h⟩ := of_cl h
  try dsimp only at h
  refine ACall.mk _ _ rfl (hF _ _ _ (c_S_IsCentre hg ht hx2)) (.inl rfl) (Nat.le_of_ble_eq_true rfl) ?_
  cbv
  cases hb1 : x2 with
  | true =>
    rw [br_true hb1] at h
    cbv
    try (rw [hb1]; cbv)
    obtain ⟨x3, hx3, h⟩ := of_lP h
    try dsimp only at h
    refine ACall.mk _ _ rfl (hF _ _ _ (c_S_l1In hg ht hx3)) (.inl rfl) (Nat.le_of_ble_eq_true rfl) ?_
    cbv
    try (rw [hb1]; cbv)
    try (rw [hb1]; cbv)
    cases hb2 : x3 with
    | true =>
      rw [br_true hb2] at h
      cbv
      try (rw [hb2]; cbv)
      try (rw [hb2]; cbv)
      try (rw [hb2]; cbv)
      try (rw [hb2]; cbv)
      try (rw [hb2]; cbv)
      cases hb3 : (lt 100000 (wrap .i64 (add a0_Now a1))) with
      | true =>
        rw [br_true hb3] at h
        cbv
        obtain rfl := Option.some.inj h
        exact ARet.mk ⟨⟨rfl, (dlen_Item hg ht _)⟩, ⟨⟨rfl, (dlen_Chute hg ht _)⟩, ⟨⟨rfl, (dlen_Inlet hg ht _)⟩, ⟨rfl, (dlen_I64 hg ht _)⟩⟩⟩⟩ hX.symm
      | false =>
        rw [br_false hb3] at h
        cbv
        refine AGh.fzc 50 2 1 (d_Inlet x1_Inlets) (d_InletF x1_Inlets) rfl (fzc_InletF hg ht _) ?_
        cbv
        refine AGh.nil ?_
        cbv
        obtain ⟨hB1, h⟩ := of_gd h
        obtain ⟨o1, ho1, h⟩ := of_cl h
        try dsimp only at h
        try rw [hg] at ho1
        try rw [ht] at ho1
        refine ABL.mk { p : Nat × Int × (List Item) × (List Chute) × (List Inlet) × (List Int) × Int // p.1 = cntLt p.2.1 a1 ∧ 0 ≤ p.2.1 ∧ S_RunCentre_l1 G.real TE.real p.1 p.2.2.1 p.2.2.2.1 p.2.2.2.2.1 p.2.2.2.2.2.1 p.2.2.2.2.2.2 = some o1 } (fun ⟨⟨n1, v2, w1, w2, w3, w4, v1⟩, _⟩ => ({ sl := [(1, .c (.r (.v (.int .i64 a1)))), (4, .c (.p 0 5 0 0)), (5, .c (.p 1 5 0 0)), (6, .c (.r (.v (.int .i64 v2))))], tab := [(0, some (.foc 5 [] [.n 2, .n 3, .n 2, .n 1, .r (.v (.int .i64 0))] [])), (1, some (.foc 5 [] [.f 2 2 0 (dlen (d_Item w1)), .f 3 3 0 (dlen (d_Chute w2)), .f 4 2 0 (dlen (d_InletF w3)), .f 5 1 0 (dlen (d_I64 w4)), .r (.v (.int .i64 v1))] [])), (2, some (.arr 2 (d_Item w1))), (3, some (.arr 3 (d_Chute w2))), (4, some (.arr 2 (d_InletF w3))), (5, some (.arr 1 (d_I64 w4)))] } : St)) 6 (fun p => p.1.1) ⟨(cntLt 0 a1, 0, x1_Belt, x1_Chutes, x1_Inlets, x1_Plan, x1_Now), rfl, Int.le_refl _, ho1⟩ ((List Item) × (List Chute) × (List Inlet) × (List Int) × Int) (fun ⟨y1_1, y1_2_1, y1_2_2_1, y1_2_2_2_1, y1_2_2_2_2⟩ => ({ sl := [(4, .c (.p 0 5 0 0)), (5, .c (.p 1 5 0 0))], tab := [(0, some (.foc 5 [] [.n 2, .n 3, .n 2, .n 1, .r (.v (.int .i64 0))] [])), (1, some (.foc 5 [] [.f 2 2 0 (dlen (d_Item y1_1)), .f 3 3 0 (dlen (d_Chute y1_2_1)), .f 4 2 0 (dlen (d_InletF y1_2_2_1)), .f 5 1 0 (dlen (d_I64 y1_2_2_2_1)), .r (.v (.int .i64 y1_2_2_2_2))] [])), (2, some (.arr 2 (d_Item y1_1))), (3, some (.arr 3 (d_Chute y1_2_1))), (4, some (.arr 2 (d_InletF y1_2_2_1))), (5, some (.arr 1 (d_I64 y1_2_2_2_1)))] } : St)) 6 (fun y => o1 = y) ?_ ?_ ?_
        · refine Wk.of [(0, some 16), (1, some 64), (2, some 48), (3, some 49), (4, some 50), (5, some 51)] rfl rfl ?_ ?_
          · cbv
            all_goals try rw [show (dlen (d_Inlet x1_Inlets)) = (dlen (d_InletF x1_Inlets)) from ((((dlen_Inlet hg ht _)).trans (by rw [d_len_Inlet ht, d_len_InletF ht]))).trans (dlen_InletF hg ht _).symm]
            all_goals exact ⟨⟨_, rfl, rfl⟩, ⟨_, rfl, rfl⟩, ⟨_, rfl, rfl⟩, ⟨_, rfl, rfl⟩, trivial⟩
          · cbv
            all_goals try rw [show (dlen (d_Inlet x1_Inlets)) = (dlen (d_InletF x1_Inlets)) from ((((dlen_Inlet hg ht _)).trans (by rw [d_len_Inlet ht, d_len_InletF ht]))).trans (dlen_InletF hg ht _).symm]
            all_goals exact ⟨⟨_, rfl, _, rfl, rfl, rfl, rfl, rfl, rfl, trivial⟩, ⟨_, rfl, _, rfl, rfl, rfl, rfl, rfl, rfl, trivial⟩, ⟨_, rfl, rfl⟩, ⟨_, rfl, rfl⟩, ⟨_, rfl, rfl⟩, ⟨_, rfl, rfl⟩, trivial⟩
        · rintro ⟨⟨n1, v2, w1, w2, w3, w4, v1⟩, hn1, hi1, h_1⟩ hq1
          try dsimp only at hn1 hi1 h_1
          clear hq1
          cbv
          rcases n1 with _ | n1
          · have hb4 : lt v2 a1 = false := ltC_false hg hn1
            rw [S_RunCentre_l1] at h_1
            try rw [← hg] at h_1
            try rw [← ht] at h_1
            try dsimp only at h_1
            rw [hb4]
            cbv
            refine ⟨(w1, w2, w3, w4, v1), Wk.of [(0, some 0), (1, some 1), (2, some 2), (3, some 3), (4, some 4), (5, some 5)] rfl rfl ?_ ?_, (Option.some.inj h_1).symm⟩
            · cbv
              all_goals exact ⟨⟨_, rfl, rfl⟩, ⟨_, rfl, rfl⟩, trivial⟩
            · cbv
              all_goals exact ⟨⟨_, rfl, _, rfl, rfl, rfl, rfl, rfl, rfl, trivial⟩, ⟨_, rfl, _, rfl, rfl, rfl, rfl, rfl, rfl, trivial⟩, ⟨_, rfl, rfl⟩, ⟨_, rfl, rfl⟩, ⟨_, rfl, rfl⟩, ⟨_, rfl, rfl⟩, trivial⟩
          · have hb4 : lt v2 a1 = true := ltC_true hg hn1
            have hl1 := ltC_le hn1
            have hs1 := stepltC hg hn1 hi1 hB1 (by decide)
            rw [S_RunCentre_l1] at h_1
            try rw [← hg] at h_1
            try rw [← ht] at h_1
            try dsimp only at h_1
            rw [hb4]
            cbv
            refine AStep.mk ⟨⟨rfl, (dlen_Item hg ht _)⟩, ⟨⟨rfl, (dlen_Chute hg ht _)⟩, ⟨⟨rfl, (dlen_InletF hg ht _)⟩, ⟨rfl, (dlen_I64 hg ht _)⟩⟩⟩⟩ ?_
            cbv
            obtain ⟨x4, hx4, h_1⟩ := of_cl h_1
            obtain ⟨x4_Belt, x4_Chutes, x4_Inlets, x4_Plan, x4_Now⟩ := x4
            try dsimp only at h_1
            refine ACallM.mk _ _ _ _ rfl rfl (hF _ _ _ (c_S_l7Tick hg ht hx4)) rfl (Nat.le_of_ble_eq_true rfl) (Nat.le_of_ble_eq_true rfl) ?_
            cbv
            try rw [hg] at h_1
            try rw [ht] at h_1
            refine ⟨⟨(n1, (wrap .i64 (add v2 1)), x4_Belt, x4_Chutes, x4_Inlets, x4_Plan, x4_Now), hs1.1, hs1.2, h_1⟩, Wk.of [(0, some 0), (1, some 1), (2, some 62), (3, some 63), (4, some 64), (5, some 65)] rfl rfl ?_ ?_, Nat.lt_succ_self _⟩
            · cbv
              all_goals exact ⟨⟨_, rfl, rfl⟩, ⟨_, rfl, rfl⟩, ⟨_, rfl, rfl⟩, ⟨_, rfl, rfl⟩, trivial⟩
            · cbv
              all_goals exact ⟨⟨_, rfl, _, rfl, rfl, rfl, rfl, rfl, rfl, trivial⟩, ⟨_, rfl, _, rfl, rfl, rfl, rfl, rfl, rfl, trivial⟩, ⟨_, rfl, rfl⟩, ⟨_, rfl, rfl⟩, ⟨_, rfl, rfl⟩, ⟨_, rfl, rfl⟩, trivial⟩
        · rintro ⟨y1_1, y1_2_1, y1_2_2_1, y1_2_2_2_1, y1_2_2_2_2⟩ hy1
          replace hy1 := hy1.symm
          subst hy1
          try dsimp only [lr, lrL, lrp, lrpL] at h
          cbv
          refine AStep.mk ⟨(lend_Item ht (dlen_Item hg ht _)), ⟨(lend_Chute ht (dlen_Chute hg ht _)), ⟨(lend_InletF ht (dlen_InletF hg ht _)), (lend_I64 ht (dlen_I64 hg ht _))⟩⟩⟩ ?_
          cbv
          obtain ⟨x5, hx5, h⟩ := of_cl h
          obtain ⟨x5_Belt, x5_Chutes, x5_Inlets, x5_Plan, x5_Now⟩ := x5
          try dsimp only at h
          refine ACall.mk _ _ (by rw [show rd (d_Item y1_1) 0 (dlen (d_Item y1_1)) = r_Item y1_1 from rdw_Item hg ht (dlen_Item hg ht _), show rd (d_Chute y1_2_1) 0 (dlen (d_Chute y1_2_1)) = r_Chute y1_2_1 from rdw_Chute hg ht (dlen_Chute hg ht _), show rd (d_InletF y1_2_2_1) 0 (dlen (d_InletF y1_2_2_1)) = r_Inlet y1_2_2_1 from rdw_InletF hg ht (dlen_InletF hg ht _), show rd (d_I64 y1_2_2_2_1) 0 (dlen (d_I64 y1_2_2_2_1)) = r_I64 y1_2_2_2_1 from rdw_I64 hg ht (dlen_I64 hg ht _)]; try rfl) (hF _ _ _ (c_S_l7Copy hg ht hx5)) (.inr (by simp only [Go.Vs.X.fresh, Go.Vs.X.freshs, freshD, freshDs, Bool.and_self, Centre.ds, hfr_Chute, hfr_I64, hfr_Inlet, hfr_Item])) (Nat.le_of_ble_eq_true rfl) ?_
          cbv
          obtain rfl := Option.some.inj h
          exact ARet.mk ⟨⟨rfl, (dlen_Item hg ht _)⟩, ⟨⟨rfl, (dlen_Chute hg ht _)⟩, ⟨⟨rfl, (dlen_Inlet hg ht _)⟩, ⟨rfl, (dlen_I64 hg ht _)⟩⟩⟩⟩ hX.symm
    | false =>
      rw [br_false hb2] at h
      cbv
      try (rw [hb2]; cbv)
      try (rw [hb2]; cbv)
      try (rw [hb2]; cbv)
      try (rw [hb2]; cbv)
      try (rw [hb2]; cbv)
      obtain rfl := Option.some.inj h
      exact ARet.mk ⟨⟨rfl, (dlen_Item hg ht _)⟩, ⟨⟨rfl, (dlen_Chute hg ht _)⟩, ⟨⟨rfl, (dlen_Inlet hg ht _)⟩, ⟨rfl, (dlen_I64 hg ht _)⟩⟩⟩⟩ hX.symm
  | false =>
    rw [br_false hb1] at h
    cbv
    try (rw [hb1]; cbv)
    try (rw [hb1]; cbv)
    try (rw [hb1]; cbv)
    obtain rfl := Option.some.inj h
    exact ARet.mk ⟨⟨rfl, (dlen_Item hg ht _)⟩, ⟨⟨rfl, (dlen_Chute hg ht _)⟩, ⟨⟨rfl, (dlen_Inlet hg ht _)⟩, ⟨rfl, (dlen_I64 hg ht _)⟩⟩⟩⟩ hX.symm
end Go.Vs
