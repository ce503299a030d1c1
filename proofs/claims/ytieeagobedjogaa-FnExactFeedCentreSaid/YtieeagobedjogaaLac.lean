/- Part of the proofs of this seat's laws: Lac. No condition. -/
import Derived.Test.YtieeagobedjogaaTy
import Derived.Test.YtieeagobedjogaaTIRall
import Derived.Test.YtieeagobedjogaaLab
set_option linter.unusedVariables false
set_option linter.unusedSimpArgs false
set_option linter.unusedSectionVars false
namespace Go.Vs
set_option maxRecDepth 100000
def ir65 : J :=
  .seq (.reg none [⟨(some 4), none, .mv (.k (V.i 0))⟩] [0, 1])
  (.seq (.seq (.reg none [⟨(some 5), none, .mv (.k (V.i 0))⟩] [0, 1, 5])
   (.bl 0 (.seq (.seq (.reg none [⟨(some 6), none, .mv (.t 5)⟩,
        ⟨(some 7), none, .mv (.t 0)⟩,
        ⟨(some 8), none, .len false (.t 7)⟩,
        ⟨(some 9), none, .bin .lss .i (.t 6) (.t 8)⟩] [0, 1, 5, 9])
     (.cond (.t 9)
      (.skip)
      (.exit 0)))
    (.seq (.block 1 (.seq (.reg none [⟨(some 12), none, .mv (.t 0)⟩,
         ⟨(some 13), none, .mv (.t 5)⟩,
         ⟨(some 14), none, .mv (.t 1)⟩,
         ⟨(some 15), none, .ia 2 (.t 12) (.t 13)⟩,
         ⟨(some 16), none, .fa 0 (.t 15)⟩,
         ⟨none, none, .st 1 (.t 16) (.t 14)⟩] [0, 1, 5])
      (.seq (.reg none [⟨(some 17), none, .mv (.t 1)⟩,
         ⟨(some 18), none, .bin .add .i (.t 17) (.k (V.i 1))⟩,
         ⟨(some 1), none, .mv (.t 18)⟩] [0, 1, 5])
      (.seq (.reg none [⟨(some 19), none, .mv (.t 0)⟩,
         ⟨(some 20), none, .mv (.t 5)⟩,
         ⟨(some 21), none, .mv (.t 1)⟩,
         ⟨(some 22), none, .ia 2 (.t 19) (.t 20)⟩,
         ⟨(some 23), none, .fa 1 (.t 22)⟩,
         ⟨none, none, .st 1 (.t 23) (.t 21)⟩] [0, 1, 5])
      (.reg none [⟨(some 24), none, .mv (.t 1)⟩,
        ⟨(some 25), none, .bin .add .i (.t 24) (.k (V.i 1))⟩,
        ⟨(some 1), none, .mv (.t 25)⟩] [0, 1, 5])))))
    (.reg none [⟨(some 10), none, .mv (.t 5)⟩,
      ⟨(some 11), none, .bin .add .i (.t 10) (.k (V.i 1))⟩,
      ⟨(some 5), none, .mv (.t 11)⟩] [0, 1, 5])))))
  (.seq (.reg none [⟨(some 26), none, .mv (.t 1)⟩,
     ⟨(some 4), none, .mv (.t 26)⟩] [4])
  (.ret)))
def rv65 : List RV := [.t 4]
open Go.Proofs Go.IntWalk
set_option linter.unusedVariables false
set_option maxRecDepth 100000
set_option maxHeartbeats 4000000
def L_markItemS_l1 (g : G) (t : TE) : Nat → List Item → Int → Int → Option ((List Item) × Int)
  | 0, _, _, _ => none
  | n1 + 1, w1, v1, v2 =>
    br (g.lt v2 (g.int (g.dlen (t.d_Item w1))))
    (
     gd (((0 : Int) ≤ v2 ∧ v2 < (((g.dlen (t.d_Item w1)) : Nat) : Int))) <|
     gt w1 (g.nat v2) fun x1 =>
     lP (List.set w1 (g.nat v2) (Item.mk v1 x1.Dest)) fun (l1 : List Item) =>
     gd (((0 : Int) ≤ v2 ∧ v2 < (((g.dlen (t.d_Item w1)) : Nat) : Int))) <|
     gt l1 (g.nat v2) fun x2 =>
     lP (List.set l1 (g.nat v2) (Item.mk x2.Id (g.wrap .i64 (g.add v1 1)))) fun (l2 : List Item) =>
     L_markItemS_l1 g t n1 l2 (g.wrap .i64 (g.add (g.wrap .i64 (g.add v1 1)) 1)) (g.wrap .i64 (g.add v2 1)))
    (
     some (w1, v1))
def L_markItemS (g : G) (t : TE) (a0 : List Item) (a1 : Int) : Option (Int × (List Item)) :=
  cl (L_markItemS_l1 g t 1000000000 a0 a1 0) fun y1 =>
  gd ((y1.1.length = a0.length)) <|
  some ((y1.2, y1.1))
theorem fit65 : codeFit Try.prog Try.f65.ntmps (Try.f65.body.getD .skip) ir65 = true := by kernel_rfl
theorem c_L_markItemS {g : G} {t : TE} {a0 : List Item} {a1 : Int} {r : Int × (List Item)} (hg : g = G.real) (ht : t = TE.real) (h : L_markItemS g t a0 a1 = some r) : FnM Try.prog 65 (.m (.o 2 (t.d_Item a0))) [.c (.v (.int .i64 a1))] (.c (.r (.v (.int .i64 r.1)))) (.m (.o 2 (t.d_Item r.2))) := by
  obtain ⟨X, hX⟩ := hide (.c (.r (.v (.int .i64 r.1))) : X)
  obtain ⟨Y, hY⟩ := hide (.m (.o 2 (t.d_Item r.2)) : AM)
  rw [← hX, ← hY]
  refine fnM_of (rvs := rv65) (j := ir65) Try.func65 rfl fit65 (Nat.le_of_ble_eq_true rfl) (by kernel_rfl) prog_mixed ?_
  intro g2 F hg2 hF
  obtain rfl : g2 = g := hg2.unique.trans hg.symm
  clear hg2
  obtain ⟨wrap, lt, le, eq, quo, rem, band, bor, bxor, shl, shr, nat, int, add, sub, mul, cat, seq, slt, sub3, byte, llen, nadd, nsub, dlen, dapp, dset, drep, rd, rda, up, rsub, dsub, all, sle, slen, hasI, putI, hasS, putS, imin, imax, fzc⟩ := g2
  obtain ⟨r_Item, d_Item, r_Chute, d_Chute, r_Inlet, d_Inlet, r_I64, d_I64, r_U8, d_U8⟩ := t
  unfold L_markItemS at h
  try dsimp only at h
  cbv
  obtain ⟨o1, ho1, h⟩ := of_cl h
  try dsimp only at h
  try rw [hg] at ho1
  try rw [ht] at ho1
  refine ABL.mk { p : Nat × (List Item) × Int × Int // L_markItemS_l1 G.real TE.real p.1 p.2.1 p.2.2.1 p.2.2.2 = some o1 } (fun ⟨⟨n1, w1, v1, v2⟩, _⟩ => ({ sl := [(0, .c (.f 0 2 0 (dlen (d_Item w1)))), (1, .c (.r (.v (.int .i64 v1)))), (5, .c (.r (.v (.int .i64 v2))))], tab := [(0, some (.arr 2 (d_Item w1)))] } : St)) 1 (fun p => p.1.1) ⟨(1000000000, a0, a1, 0), ho1⟩ ((List Item) × Int) (fun ⟨y1_1, y1_2⟩ => ({ sl := [(1, .c (.r (.v (.int .i64 y1_2))))], tab := [(0, some (.arr 2 (d_Item y1_1)))] } : St)) 1 (fun y => o1 = y) ?_ ?_ ?_
  · refine Wk.of [(0, some 0)] rfl rfl ?_ ?_
    · cbv
      all_goals exact ⟨⟨_, rfl, rfl⟩, ⟨_, rfl, rfl⟩, ⟨_, rfl, rfl⟩, trivial⟩
    · cbv
      all_goals exact ⟨⟨_, rfl, rfl⟩, trivial⟩
  · rintro ⟨⟨n1, w1, v1, v2⟩, h_1⟩ hq1
    try dsimp only at h_1
    clear hq1
    rcases n1 with _ | n1
    · rw [L_markItemS_l1] at h_1; cases h_1
    · rw [L_markItemS_l1] at h_1
      try rw [← hg] at h_1
      try rw [← ht] at h_1
      try dsimp only at h_1
      cbv
      cases hb1 : (lt v2 (int (dlen (d_Item w1)))) with
      | true =>
        rw [br_true hb1] at h_1
        cbv
        obtain ⟨hc1, h_1⟩ := of_gd h_1
        refine AStep.mk hc1 ?_
        cbv
        obtain ⟨x1, hx1, h_1⟩ := of_gt h_1
        obtain ⟨x1_Id, x1_Dest⟩ := x1
        try dsimp only at h_1
        refine AGet.mk _ (d_get_Item hg ht hx1) ?_
        cbv
        obtain ⟨l1, hl1, h_1⟩ := of_lP h_1
        try dsimp only at h_1
        refine ANew.mk (d_Item l1) _ (by rw [← hl1]; exact dset_Item hg ht _ _ (Item.mk v1 x1_Dest)) rfl ?_
        have hnl1 : (dlen (d_Item w1)) = (d_Item l1).length := (by rw [← hl1, dsetl_Item ht]; exact (dlen_Item hg ht _))
        cbv
        obtain ⟨hc2, h_1⟩ := of_gd h_1
        refine AStep.mk hc2 ?_
        cbv
        obtain ⟨x2, hx2, h_1⟩ := of_gt h_1
        obtain ⟨x2_Id, x2_Dest⟩ := x2
        try dsimp only at h_1
        refine AGet.mk _ (d_get_Item hg ht hx2) ?_
        cbv
        obtain ⟨l2, hl2, h_1⟩ := of_lP h_1
        try dsimp only at h_1
        refine ANew.mk (d_Item l2) _ (by rw [← hl2]; exact dset_Item hg ht _ _ (Item.mk x2_Id (wrap .i64 (add v1 1)))) rfl ?_
        have hnl2 : (dlen (d_Item w1)) = (d_Item l2).length := (by rw [← hl2, dsetl_Item ht]; exact hnl1)
        cbv
        try rw [hg] at h_1
        try rw [ht] at h_1
        refine ⟨⟨(n1, l2, (wrap .i64 (add (wrap .i64 (add v1 1)) 1)), (wrap .i64 (add v2 1))), h_1⟩, Wk.of [(0, some 0)] rfl rfl ?_ ?_, Nat.lt_succ_self _⟩
        · cbv
          all_goals try rw [show (dlen (d_Item w1)) = (dlen (d_Item l2)) from (hnl2).trans (dlen_Item hg ht _).symm]
          all_goals exact ⟨⟨_, rfl, rfl⟩, ⟨_, rfl, rfl⟩, ⟨_, rfl, rfl⟩, trivial⟩
        · cbv
          all_goals try rw [show (dlen (d_Item w1)) = (dlen (d_Item l2)) from (hnl2).trans (dlen_Item hg ht _).symm]
          all_goals exact ⟨⟨_, rfl, rfl⟩, trivial⟩
      | false =>
        rw [br_false hb1] at h_1
        cbv
        refine ⟨(w1, v1), Wk.of [(0, some 0)] rfl rfl ?_ ?_, (Option.some.inj h_1).symm⟩
        · cbv
          all_goals exact ⟨⟨_, rfl, rfl⟩, trivial⟩
        · cbv
          all_goals exact ⟨⟨_, rfl, rfl⟩, trivial⟩
  · rintro ⟨y1_1, y1_2⟩ hy1
    replace hy1 := hy1.symm
    subst hy1
    try dsimp only [lr, lrL, lrp, lrpL] at h
    cbv
    obtain ⟨hc3, h⟩ := of_gd h
    obtain rfl := Option.some.inj h
    exact ARetM.mk ⟨rfl, (lenp_Item ht (dlen_Item hg ht _) hc3)⟩ hX.symm hY.symm
end Go.Vs
namespace Go.Vs
set_option maxRecDepth 100000
def ir97 : J :=
  .seq (.reg none [⟨(some 4), none, .mv (.k (V.i 0))⟩] [0, 1])
  (.seq (.seq (.reg none [⟨(some 5), none, .mv (.k (V.i 0))⟩] [0, 1, 5])
   (.bl 0 (.seq (.seq (.reg none [⟨(some 6), none, .mv (.t 5)⟩,
        ⟨(some 7), none, .mv (.t 0)⟩,
        ⟨(some 8), none, .len false (.t 7)⟩,
        ⟨(some 9), none, .bin .lss .i (.t 6) (.t 8)⟩] [0, 1, 5, 9])
     (.cond (.t 9)
      (.skip)
      (.exit 0)))
    (.seq (.block 1 (.seq (.reg none [⟨(some 12), none, .mv (.t 0)⟩,
         ⟨(some 13), none, .mv (.t 5)⟩,
         ⟨(some 14), none, .mv (.t 1)⟩,
         ⟨(some 15), none, .ia 3 (.t 12) (.t 13)⟩,
         ⟨(some 16), none, .fa 0 (.t 15)⟩,
         ⟨none, none, .st 1 (.t 16) (.t 14)⟩] [0, 1, 5])
      (.seq (.reg none [⟨(some 17), none, .mv (.t 1)⟩,
         ⟨(some 18), none, .bin .add .i (.t 17) (.k (V.i 1))⟩,
         ⟨(some 1), none, .mv (.t 18)⟩] [0, 1, 5])
      (.seq (.reg none [⟨(some 19), none, .mv (.t 0)⟩,
         ⟨(some 20), none, .mv (.t 5)⟩,
         ⟨(some 21), none, .mv (.t 1)⟩,
         ⟨(some 22), none, .ia 3 (.t 19) (.t 20)⟩,
         ⟨(some 23), none, .fa 1 (.t 22)⟩,
         ⟨none, none, .st 1 (.t 23) (.t 21)⟩] [0, 1, 5])
      (.seq (.reg none [⟨(some 24), none, .mv (.t 1)⟩,
         ⟨(some 25), none, .bin .add .i (.t 24) (.k (V.i 1))⟩,
         ⟨(some 1), none, .mv (.t 25)⟩] [0, 1, 5])
      (.gh (.ga (.reg none [⟨(some 26), none, .mv (.t 0)⟩,
         ⟨(some 27), none, .mv (.t 5)⟩,
         ⟨(some 28), none, .ia 3 (.t 26) (.t 27)⟩,
         ⟨(some 29), none, .fa 2 (.t 28)⟩,
         ⟨(some 30), none, .ld false 1 (.t 29)⟩,
         ⟨(some 31), none, .mv (.t 1)⟩,
         ⟨(some 32), none, .callm 65 (.t 30) [(.t 31)]⟩,
         ⟨(some 1), none, .mv (.t 32)⟩] [0, 1, 5]))))))))
    (.reg none [⟨(some 10), none, .mv (.t 5)⟩,
      ⟨(some 11), none, .bin .add .i (.t 10) (.k (V.i 1))⟩,
      ⟨(some 5), none, .mv (.t 11)⟩] [0, 1, 5])))))
  (.seq (.reg none [⟨(some 33), none, .mv (.t 1)⟩,
     ⟨(some 4), none, .mv (.t 33)⟩] [4])
  (.ret)))
def rv97 : List RV := [.t 4]
open Go.Proofs Go.IntWalk
set_option linter.unusedVariables false
set_option maxRecDepth 100000
set_option maxHeartbeats 4000000
def L_markChuteS_l1 (g : G) (t : TE) : Nat → List Chute → Int → Int → Option ((List Chute) × Int)
  | 0, _, _, _ => none
  | n1 + 1, w1, v1, v2 =>
    br (g.lt v2 (g.int (g.dlen (t.d_Chute w1))))
    (
     gd (((0 : Int) ≤ v2 ∧ v2 < (((g.dlen (t.d_Chute w1)) : Nat) : Int))) <|
     gt w1 (g.nat v2) fun x1 =>
     lP (List.set w1 (g.nat v2) (Chute.mk v1 x1.Room x1.Held)) fun (l1 : List Chute) =>
     gd (((0 : Int) ≤ v2 ∧ v2 < (((g.dlen (t.d_Chute w1)) : Nat) : Int))) <|
     gt l1 (g.nat v2) fun x2 =>
     lP (List.set l1 (g.nat v2) (Chute.mk x2.Cell (g.wrap .i64 (g.add v1 1)) x2.Held)) fun (l2 : List Chute) =>
     gt l2 (g.nat v2) fun x3 =>
     gd (((0 : Int) ≤ v2 ∧ v2 < (((g.dlen (t.d_Chute w1)) : Nat) : Int))) <|
     cl (L_markItemS g t x3.Held (g.wrap .i64 (g.add (g.wrap .i64 (g.add v1 1)) 1))) fun x4 =>
     gd ((x4.2.length = x3.Held.length)) <|
     lP (List.set l2 (g.nat v2) (Chute.mk x3.Cell x3.Room x4.2)) fun (l3 : List Chute) =>
     L_markChuteS_l1 g t n1 l3 x4.1 (g.wrap .i64 (g.add v2 1)))
    (
     some (w1, v1))
def L_markChuteS (g : G) (t : TE) (a0 : List Chute) (a1 : Int) : Option (Int × (List Chute)) :=
  cl (L_markChuteS_l1 g t 1000000000 a0 a1 0) fun y1 =>
  gd ((y1.1.length = a0.length)) <|
  some ((y1.2, y1.1))
theorem fit97 : codeFit Try.prog Try.f97.ntmps (Try.f97.body.getD .skip) ir97 = true := by kernel_rfl
theorem c_L_markChuteS {g : G} {t : TE} {a0 : List Chute} {a1 : Int} {r : Int × (List Chute)} (hg : g = G.real) (ht : t = TE.real) (h : L_markChuteS g t a0 a1 = some r) : FnM Try.prog 97 (.m (.o 3 (t.d_Chute a0))) [.c (.v (.int .i64 a1))] (.c (.r (.v (.int .i64 r.1)))) (.m (.o 3 (t.d_Chute r.2))) := by
  obtain ⟨X, hX⟩ := hide (.c (.r (.v (.int .i64 r.1))) : X)
  obtain ⟨Y, hY⟩ := hide (.m (.o 3 (t.d_Chute r.2)) : AM)
  rw [← hX, ← hY]
  refine fnM_of (rvs := rv97) (j := ir97) Try.func97 rfl fit97 (Nat.le_of_ble_eq_true rfl) (by kernel_rfl) prog_mixed ?_
  intro g2 F hg2 hF
  obtain rfl : g2 = g := hg2.unique.trans hg.symm
  clear hg2
  obtain ⟨wrap, lt, le, eq, quo, rem, band, bor, bxor, shl, shr, nat, int, add, sub, mul, cat, seq, slt, sub3, byte, llen, nadd, nsub, dlen, dapp, dset, drep, rd, rda, up, rsub, dsub, all, sle, slen, hasI, putI, hasS, putS, imin, imax, fzc⟩ := g2
  obtain ⟨r_Item, d_Item, r_Chute, d_Chute, r_Inlet, d_Inlet, r_I64, d_I64, r_U8, d_U8⟩ := t
  unfold L_markChuteS at h
  try dsimp only at h
  cbv
  obtain ⟨o1, ho1, h⟩ := of_cl h
  try dsimp only at h
  try rw [hg] at ho1
  try rw [ht] at ho1
  refine ABL.mk { p : Nat × (List Chute) × Int × Int // L_markChuteS_l1 G.real TE.real p.1 p.2.1 p.2.2.1 p.2.2.2 = some o1 } (fun ⟨⟨n1, w1, v1, v2⟩, _⟩ => ({ sl := [(0, .c (.f 0 3 0 (dlen (d_Chute w1)))), (1, .c (.r (.v (.int .i64 v1)))), (5, .c (.r (.v (.int .i64 v2))))], tab := [(0, some (.arr 3 (d_Chute w1)))] } : St)) 1 (fun p => p.1.1) ⟨(1000000000, a0, a1, 0), ho1⟩ ((List Chute) × Int) (fun ⟨y1_1, y1_2⟩ => ({ sl := [(1, .c (.r (.v (.int .i64 y1_2))))], tab := [(0, some (.arr 3 (d_Chute y1_1)))] } : St)) 1 (fun y => o1 = y) ?_ ?_ ?_
  · refine Wk.of [(0, some 0)] rfl rfl ?_ ?_
    · cbv
      all_goals exact ⟨⟨_, rfl, rfl⟩, ⟨_, rfl, rfl⟩, ⟨_, rfl, rfl⟩, trivial⟩
    · cbv
      all_goals exact ⟨⟨_, rfl, rfl⟩, trivial⟩
  · rintro ⟨⟨n1, w1, v1, v2⟩, h_1⟩ hq1
    try dsimp only at h_1
    clear hq1
    rcases n1 with _ | n1
    · rw [L_markChuteS_l1] at h_1; cases h_1
    · rw [L_markChuteS_l1] at h_1
      try rw [← hg] at h_1
      try rw [← ht] at h_1
      try dsimp only at h_1
      cbv
      cases hb1 : (lt v2 (int (dlen (d_Chute w1)))) with
      | true =>
        rw [br_true hb1] at h_1
        cbv
        obtain ⟨hc1, h_1⟩ := of_gd h_1
        refine AStep.mk hc1 ?_
        cbv
        obtain ⟨x1, hx1, h_1⟩ := of_gt h_1
        obtain ⟨x1_Cell, x1_Room, x1_Held⟩ := x1
        try dsimp only at h_1
        refine AGet.mk _ (d_get_Chute hg ht hx1) ?_
        cbv
        obtain ⟨l1, hl1, h_1⟩ := of_lP h_1
        try dsimp only at h_1
        refine ANew.mk (d_Chute l1) _ (by rw [← hl1]; exact dset_Chute hg ht _ _ (Chute.mk v1 x1_Room x1_Held)) rfl ?_
        have hnl1 : (dlen (d_Chute w1)) = (d_Chute l1).length := (by rw [← hl1, dsetl_Chute ht]; exact (dlen_Chute hg ht _))
        cbv
        obtain ⟨hc2, h_1⟩ := of_gd h_1
        refine AStep.mk hc2 ?_
        cbv
        obtain ⟨x2, hx2, h_1⟩ := of_gt h_1
        obtain ⟨x2_Cell, x2_Room, x2_Held⟩ := x2
        try dsimp only at h_1
        refine AGet.mk _ (d_get_Chute hg ht hx2) ?_
        cbv
        obtain ⟨l2, hl2, h_1⟩ := of_lP h_1
        try dsimp only at h_1
        refine ANew.mk (d_Chute l2) _ (by rw [← hl2]; exact dset_Chute hg ht _ _ (Chute.mk x2_Cell (wrap .i64 (add v1 1)) x2_Held)) rfl ?_
        have hnl2 : (dlen (d_Chute w1)) = (d_Chute l2).length := (by rw [← hl2, dsetl_Chute ht]; exact hnl1)
        cbv
        obtain ⟨x3, hx3, h_1⟩ := of_gt h_1
        obtain ⟨x3_Cell, x3_Room, x3_Held⟩ := x3
        try dsimp only at h_1
        refine AGh.opn 0 3 (nat v2) (d_Chute l2) _ rfl (d_get_Chute hg ht hx3) rfl ?_
        cbv
        refine AGh.nil ?_
        cbv
        obtain ⟨hc3, h_1⟩ := of_gd h_1
        refine AStep.mk hc3 ?_
        cbv
        refine AStep.mk rfl ?_
        cbv
        refine AStep.mk ⟨rfl, (dlen_Item hg ht _)⟩ ?_
        cbv
        obtain ⟨x4, hx4, h_1⟩ := of_cl h_1
        obtain ⟨x4_1, x4_2⟩ := x4
        try dsimp only at h_1
        refine ACallM.mk _ _ _ _ rfl rfl (hF _ _ _ (c_L_markItemS hg ht hx4)) rfl (Nat.le_of_ble_eq_true rfl) (Nat.le_of_ble_eq_true rfl) ?_
        cbv
        obtain ⟨hc4, h_1⟩ := of_gd h_1
        obtain ⟨l3, hl3, h_1⟩ := of_lP h_1
        try dsimp only at h_1
        refine AGh.cls 0 3 (nat v2) (d_Chute l2) _ _ _ _ (d_Chute l3) rfl rfl ⟨rfl, (lenp_Item ht (dlen_Item hg ht _) hc4)⟩ (by rw [← hl3]; exact dset_Chute hg ht _ _ (Chute.mk x3_Cell x3_Room x4_2)) ?_
        have hnl3 : (dlen (d_Chute w1)) = (d_Chute l3).length := (by rw [← hl3, dsetl_Chute ht]; exact hnl2)
        cbv
        refine AGh.nil ?_
        cbv
        try rw [hg] at h_1
        try rw [ht] at h_1
        refine ⟨⟨(n1, l3, x4_1, (wrap .i64 (add v2 1))), h_1⟩, Wk.of [(0, some 0)] rfl rfl ?_ ?_, Nat.lt_succ_self _⟩
        · cbv
          all_goals try rw [show (dlen (d_Chute w1)) = (dlen (d_Chute l3)) from (hnl3).trans (dlen_Chute hg ht _).symm]
          all_goals exact ⟨⟨_, rfl, rfl⟩, ⟨_, rfl, rfl⟩, ⟨_, rfl, rfl⟩, trivial⟩
        · cbv
          all_goals try rw [show (dlen (d_Chute w1)) = (dlen (d_Chute l3)) from (hnl3).trans (dlen_Chute hg ht _).symm]
          all_goals exact ⟨⟨_, rfl, rfl⟩, trivial⟩
      | false =>
        rw [br_false hb1] at h_1
        cbv
        refine ⟨(w1, v1), Wk.of [(0, some 0)] rfl rfl ?_ ?_, (Option.some.inj h_1).symm⟩
        · cbv
          all_goals exact ⟨⟨_, rfl, rfl⟩, trivial⟩
        · cbv
          all_goals exact ⟨⟨_, rfl, rfl⟩, trivial⟩
  · rintro ⟨y1_1, y1_2⟩ hy1
    replace hy1 := hy1.symm
    subst hy1
    try dsimp only [lr, lrL, lrp, lrpL] at h
    cbv
    obtain ⟨hc5, h⟩ := of_gd h
    obtain rfl := Option.some.inj h
    exact ARetM.mk ⟨rfl, (lenp_Chute ht (dlen_Chute hg ht _) hc5)⟩ hX.symm hY.symm
end Go.Vs
namespace Go.Vs
set_option maxRecDepth 100000
def ir98 : J :=
  .seq (.reg none [⟨(some 4), none, .mv (.k (V.i 0))⟩] [0, 1])
  (.seq (.seq (.reg none [⟨(some 5), none, .mv (.k (V.i 0))⟩] [0, 1, 5])
   (.bl 0 (.seq (.seq (.reg none [⟨(some 6), none, .mv (.t 5)⟩,
        ⟨(some 7), none, .mv (.t 0)⟩,
        ⟨(some 8), none, .len false (.t 7)⟩,
        ⟨(some 9), none, .bin .lss .i (.t 6) (.t 8)⟩] [0, 1, 5, 9])
     (.cond (.t 9)
      (.skip)
      (.exit 0)))
    (.seq (.block 1 (.seq (.reg none [⟨(some 12), none, .mv (.t 0)⟩,
         ⟨(some 13), none, .mv (.t 5)⟩,
         ⟨(some 14), none, .mv (.t 1)⟩,
         ⟨(some 15), none, .ia 2 (.t 12) (.t 13)⟩,
         ⟨(some 16), none, .fa 0 (.t 15)⟩,
         ⟨none, none, .st 1 (.t 16) (.t 14)⟩] [0, 1, 5])
      (.seq (.reg none [⟨(some 17), none, .mv (.t 1)⟩,
         ⟨(some 18), none, .bin .add .i (.t 17) (.k (V.i 1))⟩,
         ⟨(some 1), none, .mv (.t 18)⟩] [0, 1, 5])
      (.gh (.ga (.reg none [⟨(some 19), none, .mv (.t 0)⟩,
         ⟨(some 20), none, .mv (.t 5)⟩,
         ⟨(some 21), none, .ia 2 (.t 19) (.t 20)⟩,
         ⟨(some 22), none, .fa 1 (.t 21)⟩,
         ⟨(some 23), none, .ld false 1 (.t 22)⟩,
         ⟨(some 24), none, .mv (.t 1)⟩,
         ⟨(some 25), none, .callm 65 (.t 23) [(.t 24)]⟩,
         ⟨(some 1), none, .mv (.t 25)⟩] [0, 1, 5]))))))
    (.reg none [⟨(some 10), none, .mv (.t 5)⟩,
      ⟨(some 11), none, .bin .add .i (.t 10) (.k (V.i 1))⟩,
      ⟨(some 5), none, .mv (.t 11)⟩] [0, 1, 5])))))
  (.seq (.reg none [⟨(some 26), none, .mv (.t 1)⟩,
     ⟨(some 4), none, .mv (.t 26)⟩] [4])
  (.ret)))
def rv98 : List RV := [.t 4]
open Go.Proofs Go.IntWalk
set_option linter.unusedVariables false
set_option maxRecDepth 100000
set_option maxHeartbeats 4000000
def L_markInletS_l1 (g : G) (t : TE) : Nat → List Inlet → Int → Int → Option ((List Inlet) × Int)
  | 0, _, _, _ => none
  | n1 + 1, w1, v1, v2 =>
    br (g.lt v2 (g.int (g.dlen (t.d_Inlet w1))))
    (
     gd (((0 : Int) ≤ v2 ∧ v2 < (((g.dlen (t.d_Inlet w1)) : Nat) : Int))) <|
     gt w1 (g.nat v2) fun x1 =>
     lP (List.set w1 (g.nat v2) (Inlet.mk v1 x1.Wait)) fun (l1 : List Inlet) =>
     gt l1 (g.nat v2) fun x2 =>
     gd (((0 : Int) ≤ v2 ∧ v2 < (((g.dlen (t.d_Inlet w1)) : Nat) : Int))) <|
     cl (L_markItemS g t x2.Wait (g.wrap .i64 (g.add v1 1))) fun x3 =>
     gd ((x3.2.length = x2.Wait.length)) <|
     lP (List.set l1 (g.nat v2) (Inlet.mk x2.Cell x3.2)) fun (l2 : List Inlet) =>
     L_markInletS_l1 g t n1 l2 x3.1 (g.wrap .i64 (g.add v2 1)))
    (
     some (w1, v1))
def L_markInletS (g : G) (t : TE) (a0 : List Inlet) (a1 : Int) : Option (Int × (List Inlet)) :=
  cl (L_markInletS_l1 g t 1000000000 a0 a1 0) fun y1 =>
  gd ((y1.1.length = a0.length)) <|
  some ((y1.2, y1.1))
theorem fit98 : codeFit Try.prog Try.f98.ntmps (Try.f98.body.getD .skip) ir98 = true := by kernel_rfl
theorem c_L_markInletS {g : G} {t : TE} {a0 : List Inlet} {a1 : Int} {r : Int × (List Inlet)} (hg : g = G.real) (ht : t = TE.real) (h : L_markInletS g t a0 a1 = some r) : FnM Try.prog 98 (.m (.o 2 (t.d_Inlet a0))) [.c (.v (.int .i64 a1))] (.c (.r (.v (.int .i64 r.1)))) (.m (.o 2 (t.d_Inlet r.2))) := by
  obtain ⟨X, hX⟩ := hide (.c (.r (.v (.int .i64 r.1))) : X)
  obtain ⟨Y, hY⟩ := hide (.m (.o 2 (t.d_Inlet r.2)) : AM)
  rw [← hX, ← hY]
  refine fnM_of (rvs := rv98) (j := ir98) Try.func98 rfl fit98 (Nat.le_of_ble_eq_true rfl) (by kernel_rfl) prog_mixed ?_
  intro g2 F hg2 hF
  obtain rfl : g2 = g := hg2.unique.trans hg.symm
  clear hg2
  obtain ⟨wrap, lt, le, eq, quo, rem, band, bor, bxor, shl, shr, nat, int, add, sub, mul, cat, seq, slt, sub3, byte, llen, nadd, nsub, dlen, dapp, dset, drep, rd, rda, up, rsub, dsub, all, sle, slen, hasI, putI, hasS, putS, imin, imax, fzc⟩ := g2
  obtain ⟨r_Item, d_Item, r_Chute, d_Chute, r_Inlet, d_Inlet, r_I64, d_I64, r_U8, d_U8⟩ := t
  unfold L_markInletS at h
  try dsimp only at h
  cbv
  obtain ⟨o1, ho1, h⟩ := of_cl h
  try dsimp only at h
  try rw [hg] at ho1
  try rw [ht] at ho1
  refine ABL.mk { p : Nat × (List Inlet) × Int × Int // L_markInletS_l1 G.real TE.real p.1 p.2.1 p.2.2.1 p.2.2.2 = some o1 } (fun ⟨⟨n1, w1, v1, v2⟩, _⟩ => ({ sl := [(0, .c (.f 0 2 0 (dlen (d_Inlet w1)))), (1, .c (.r (.v (.int .i64 v1)))), (5, .c (.r (.v (.int .i64 v2))))], tab := [(0, some (.arr 2 (d_Inlet w1)))] } : St)) 1 (fun p => p.1.1) ⟨(1000000000, a0, a1, 0), ho1⟩ ((List Inlet) × Int) (fun ⟨y1_1, y1_2⟩ => ({ sl := [(1, .c (.r (.v (.int .i64 y1_2))))], tab := [(0, some (.arr 2 (d_Inlet y1_1)))] } : St)) 1 (fun y => o1 = y) ?_ ?_ ?_
  · refine Wk.of [(0, some 0)] rfl rfl ?_ ?_
    · cbv
      all_goals exact ⟨⟨_, rfl, rfl⟩, ⟨_, rfl, rfl⟩, ⟨_, rfl, rfl⟩, trivial⟩
    · cbv
      all_goals exact ⟨⟨_, rfl, rfl⟩, trivial⟩
  · rintro ⟨⟨n1, w1, v1, v2⟩, h_1⟩ hq1
    try dsimp only at h_1
    clear hq1
    rcases n1 with _ | n1
    · rw [L_markInletS_l1] at h_1; cases h_1
    · rw [L_markInletS_l1] at h_1
      try rw [← hg] at h_1
      try rw [← ht] at h_1
      try dsimp only at h_1
      cbv
      cases hb1 : (lt v2 (int (dlen (d_Inlet w1)))) with
      | true =>
        rw [br_true hb1] at h_1
        cbv
        obtain ⟨hc1, h_1⟩ := of_gd h_1
        refine AStep.mk hc1 ?_
        cbv
        obtain ⟨x1, hx1, h_1⟩ := of_gt h_1
        obtain ⟨x1_Cell, x1_Wait⟩ := x1
        try dsimp only at h_1
        refine AGet.mk _ (d_get_Inlet hg ht hx1) ?_
        cbv
        obtain ⟨l1, hl1, h_1⟩ := of_lP h_1
        try dsimp only at h_1
        refine ANew.mk (d_Inlet l1) _ (by rw [← hl1]; exact dset_Inlet hg ht _ _ (Inlet.mk v1 x1_Wait)) rfl ?_
        have hnl1 : (dlen (d_Inlet w1)) = (d_Inlet l1).length := (by rw [← hl1, dsetl_Inlet ht]; exact (dlen_Inlet hg ht _))
        cbv
        obtain ⟨x2, hx2, h_1⟩ := of_gt h_1
        obtain ⟨x2_Cell, x2_Wait⟩ := x2
        try dsimp only at h_1
        refine AGh.opn 0 2 (nat v2) (d_Inlet l1) _ rfl (d_get_Inlet hg ht hx2) rfl ?_
        cbv
        refine AGh.nil ?_
        cbv
        obtain ⟨hc2, h_1⟩ := of_gd h_1
        refine AStep.mk hc2 ?_
        cbv
        refine AStep.mk rfl ?_
        cbv
        refine AStep.mk ⟨rfl, (dlen_Item hg ht _)⟩ ?_
        cbv
        obtain ⟨x3, hx3, h_1⟩ := of_cl h_1
        obtain ⟨x3_1, x3_2⟩ := x3
        try dsimp only at h_1
        refine ACallM.mk _ _ _ _ rfl rfl (hF _ _ _ (c_L_markItemS hg ht hx3)) rfl (Nat.le_of_ble_eq_true rfl) (Nat.le_of_ble_eq_true rfl) ?_
        cbv
        obtain ⟨hc3, h_1⟩ := of_gd h_1
        obtain ⟨l2, hl2, h_1⟩ := of_lP h_1
        try dsimp only at h_1
        refine AGh.cls 0 2 (nat v2) (d_Inlet l1) _ _ _ _ (d_Inlet l2) rfl rfl ⟨rfl, (lenp_Item ht (dlen_Item hg ht _) hc3)⟩ (by rw [← hl2]; exact dset_Inlet hg ht _ _ (Inlet.mk x2_Cell x3_2)) ?_
        have hnl2 : (dlen (d_Inlet w1)) = (d_Inlet l2).length := (by rw [← hl2, dsetl_Inlet ht]; exact hnl1)
        cbv
        refine AGh.nil ?_
        cbv
        try rw [hg] at h_1
        try rw [ht] at h_1
        refine ⟨⟨(n1, l2, x3_1, (wrap .i64 (add v2 1))), h_1⟩, Wk.of [(0, some 0)] rfl rfl ?_ ?_, Nat.lt_succ_self _⟩
        · cbv
          all_goals try rw [show (dlen (d_Inlet w1)) = (dlen (d_Inlet l2)) from (hnl2).trans (dlen_Inlet hg ht _).symm]
          all_goals exact ⟨⟨_, rfl, rfl⟩, ⟨_, rfl, rfl⟩, ⟨_, rfl, rfl⟩, trivial⟩
        · cbv
          all_goals try rw [show (dlen (d_Inlet w1)) = (dlen (d_Inlet l2)) from (hnl2).trans (dlen_Inlet hg ht _).symm]
          all_goals exact ⟨⟨_, rfl, rfl⟩, trivial⟩
      | false =>
        rw [br_false hb1] at h_1
        cbv
        refine ⟨(w1, v1), Wk.of [(0, some 0)] rfl rfl ?_ ?_, (Option.some.inj h_1).symm⟩
        · cbv
          all_goals exact ⟨⟨_, rfl, rfl⟩, trivial⟩
        · cbv
          all_goals exact ⟨⟨_, rfl, rfl⟩, trivial⟩
  · rintro ⟨y1_1, y1_2⟩ hy1
    replace hy1 := hy1.symm
    subst hy1
    try dsimp only [lr, lrL, lrp, lrpL] at h
    cbv
    obtain ⟨hc4, h⟩ := of_gd h
    obtain rfl := Option.some.inj h
    exact ARetM.mk ⟨rfl, (lenp_Inlet ht (dlen_Inlet hg ht _) hc4)⟩ hX.symm hY.symm
end Go.Vs
namespace Go.Vs
set_option maxRecDepth 100000
def ir49 : J :=
  .seq (.reg none [⟨(some 2), none, .box (.t 0)⟩,
     ⟨(some 4), none, .mv (.k (V.i 0))⟩] [1, 2])
  (.seq (.reg none [⟨(some 5), none, .fa 0 (.t 2)⟩,
     ⟨(some 6), none, .ld false 1 (.t 5)⟩,
     ⟨(some 7), none, .mv (.t 1)⟩,
     ⟨(some 8), none, .callm 65 (.t 6) [(.t 7)]⟩,
     ⟨(some 1), none, .mv (.t 8)⟩] [1, 2])
  (.seq (.reg none [⟨(some 9), none, .fa 1 (.t 2)⟩,
     ⟨(some 10), none, .ld false 1 (.t 9)⟩,
     ⟨(some 11), none, .mv (.t 1)⟩,
     ⟨(some 12), none, .callm 97 (.t 10) [(.t 11)]⟩,
     ⟨(some 1), none, .mv (.t 12)⟩] [1, 2])
  (.seq (.reg none [⟨(some 13), none, .fa 2 (.t 2)⟩,
     ⟨(some 14), none, .ld false 1 (.t 13)⟩,
     ⟨(some 15), none, .mv (.t 1)⟩,
     ⟨(some 16), none, .callm 98 (.t 14) [(.t 15)]⟩,
     ⟨(some 1), none, .mv (.t 16)⟩] [1, 2])
  (.seq (.reg none [⟨(some 17), none, .fa 3 (.t 2)⟩,
     ⟨(some 18), none, .ld false 1 (.t 17)⟩,
     ⟨(some 19), none, .mv (.t 1)⟩,
     ⟨(some 20), none, .callm 48 (.t 18) [(.t 19)]⟩,
     ⟨(some 1), none, .mv (.t 20)⟩] [1])
  (.seq (.reg none [⟨(some 21), none, .mv (.t 1)⟩,
     ⟨(some 4), none, .mv (.t 21)⟩] [4])
  (.ret))))))
def rv49 : List RV := [.t 4]
open Go.Proofs Go.IntWalk
set_option linter.unusedVariables false
set_option maxRecDepth 100000
set_option maxHeartbeats 4000000
def L_markCentre (g : G) (t : TE) (a0 : Centre) (a1 : Int) : Option (Int × Centre) :=
  cl (L_markItemS g t a0.Belt a1) fun x1 =>
  gd ((x1.2.length = a0.Belt.length)) <|
  cl (L_markChuteS g t a0.Chutes x1.1) fun x2 =>
  gd ((x2.2.length = a0.Chutes.length)) <|
  cl (L_markInletS g t a0.Inlets x2.1) fun x3 =>
  gd ((x3.2.length = a0.Inlets.length)) <|
  cl (L_markIntS g t a0.Plan x3.1) fun x4 =>
  gd ((x4.2.length = a0.Plan.length)) <|
  some ((x4.1, (Centre.mk x1.2 x2.2 x3.2 x4.2 a0.Now)))
theorem fit49 : codeFit Try.prog Try.f49.ntmps (Try.f49.body.getD .skip) ir49 = true := by kernel_rfl
theorem c_L_markCentre {g : G} {t : TE} {a0 : Centre} {a1 : Int} {r : Int × Centre} (hg : g = G.real) (ht : t = TE.real) (h : L_markCentre g t a0 a1 = some r) : FnM Try.prog 49 (.g (Centre.ds t a0)) [.c (.v (.int .i64 a1))] (.c (.r (.v (.int .i64 r.1)))) (.g (Centre.ds t r.2)) := by
  obtain ⟨X, hX⟩ := hide (.c (.r (.v (.int .i64 r.1))) : X)
  obtain ⟨Y, hY⟩ := hide (.g (Centre.ds t r.2) : AM)
  rw [← hX, ← hY]
  refine fnM_of (rvs := rv49) (j := ir49) Try.func49 rfl fit49 (Nat.le_of_ble_eq_true rfl) (by kernel_rfl) prog_mixed ?_
  intro g2 F hg2 hF
  obtain rfl : g2 = g := hg2.unique.trans hg.symm
  clear hg2
  obtain ⟨wrap, lt, le, eq, quo, rem, band, bor, bxor, shl, shr, nat, int, add, sub, mul, cat, seq, slt, sub3, byte, llen, nadd, nsub, dlen, dapp, dset, drep, rd, rda, up, rsub, dsub, all, sle, slen, hasI, putI, hasS, putS, imin, imax, fzc⟩ := g2
  obtain ⟨r_Item, d_Item, r_Chute, d_Chute, r_Inlet, d_Inlet, r_I64, d_I64, r_U8, d_U8⟩ := t
  obtain ⟨a0_Belt, a0_Chutes, a0_Inlets, a0_Plan, a0_Now⟩ := a0
  unfold L_markCentre at h
  try dsimp only at h
  cbv
  refine AStep.mk ⟨rfl, (dlen_Item hg ht _)⟩ ?_
  cbv
  obtain ⟨x1, hx1, h⟩ := of_cl h
  obtain ⟨x1_1, x1_2⟩ := x1
  try dsimp only at h
  refine ACallM.mk _ _ _ _ rfl rfl (hF _ _ _ (c_L_markItemS hg ht hx1)) rfl (Nat.le_of_ble_eq_true rfl) (Nat.le_of_ble_eq_true rfl) ?_
  cbv
  obtain ⟨hc1, h⟩ := of_gd h
  refine AStep.mk ⟨rfl, (dlen_Chute hg ht _)⟩ ?_
  cbv
  obtain ⟨x2, hx2, h⟩ := of_cl h
  obtain ⟨x2_1, x2_2⟩ := x2
  try dsimp only at h
  refine ACallM.mk _ _ _ _ rfl rfl (hF _ _ _ (c_L_markChuteS hg ht hx2)) rfl (Nat.le_of_ble_eq_true rfl) (Nat.le_of_ble_eq_true rfl) ?_
  cbv
  obtain ⟨hc2, h⟩ := of_gd h
  refine AStep.mk ⟨rfl, (dlen_Inlet hg ht _)⟩ ?_
  cbv
  obtain ⟨x3, hx3, h⟩ := of_cl h
  obtain ⟨x3_1, x3_2⟩ := x3
  try dsimp only at h
  refine ACallM.mk _ _ _ _ rfl rfl (hF _ _ _ (c_L_markInletS hg ht hx3)) rfl (Nat.le_of_ble_eq_true rfl) (Nat.le_of_ble_eq_true rfl) ?_
  cbv
  obtain ⟨hc3, h⟩ := of_gd h
  refine AStep.mk ⟨rfl, (dlen_I64 hg ht _)⟩ ?_
  cbv
  obtain ⟨x4, hx4, h⟩ := of_cl h
  obtain ⟨x4_1, x4_2⟩ := x4
  try dsimp only at h
  refine ACallM.mk _ _ _ _ rfl rfl (hF _ _ _ (c_L_markIntS hg ht hx4)) rfl (Nat.le_of_ble_eq_true rfl) (Nat.le_of_ble_eq_true rfl) ?_
  cbv
  obtain ⟨hc4, h⟩ := of_gd h
  obtain rfl := Option.some.inj h
  exact ARetM.mk ⟨⟨rfl, (lenp_Item ht (dlen_Item hg ht _) hc1)⟩, ⟨⟨rfl, (lenp_Chute ht (dlen_Chute hg ht _) hc2)⟩, ⟨⟨rfl, (lenp_Inlet ht (dlen_Inlet hg ht _) hc3)⟩, ⟨rfl, (lenp_I64 ht (dlen_I64 hg ht _) hc4)⟩⟩⟩⟩ hX.symm hY.symm
end Go.Vs
namespace Go.Vs
set_option maxRecDepth 100000
def ir66 : J :=
  .seq (.reg none [⟨(some 4), none, .mv (.k (V.i 0))⟩] [0, 1])
  (.seq (.seq (.reg none [⟨(some 5), none, .mv (.k (V.i 0))⟩] [0, 1, 5])
   (.bl 0 (.seq (.seq (.reg none [⟨(some 6), none, .mv (.t 5)⟩,
        ⟨(some 7), none, .mv (.t 0)⟩,
        ⟨(some 8), none, .len false (.t 7)⟩,
        ⟨(some 9), none, .bin .lss .i (.t 6) (.t 8)⟩] [0, 1, 5, 9])
     (.cond (.t 9)
      (.skip)
      (.exit 0)))
    (.seq (.block 1 (.seq (.seq (.reg none [⟨(some 12), none, .mv (.t 0)⟩,
          ⟨(some 13), none, .mv (.t 5)⟩,
          ⟨(some 14), none, .ia 2 (.t 12) (.t 13)⟩,
          ⟨(some 15), none, .fa 0 (.t 14)⟩,
          ⟨(some 16), none, .ld false 1 (.t 15)⟩,
          ⟨(some 17), none, .mv (.t 1)⟩,
          ⟨(some 18), none, .bin .neq .i (.t 16) (.t 17)⟩] [0, 1, 5, 18])
       (.cond (.t 18)
        (.seq (.reg none [⟨(some 4), none, .mv (.k (V.i (-1)))⟩] [4])
         (.ret))
        (.skip)))
      (.seq (.reg none [⟨(some 19), none, .mv (.t 1)⟩,
         ⟨(some 20), none, .bin .add .i (.t 19) (.k (V.i 1))⟩,
         ⟨(some 1), none, .mv (.t 20)⟩] [0, 1, 5])
      (.seq (.seq (.reg none [⟨(some 21), none, .mv (.t 0)⟩,
          ⟨(some 22), none, .mv (.t 5)⟩,
          ⟨(some 23), none, .ia 2 (.t 21) (.t 22)⟩,
          ⟨(some 24), none, .fa 1 (.t 23)⟩,
          ⟨(some 25), none, .ld false 1 (.t 24)⟩,
          ⟨(some 26), none, .mv (.t 1)⟩,
          ⟨(some 27), none, .bin .neq .i (.t 25) (.t 26)⟩] [0, 1, 5, 27])
       (.cond (.t 27)
        (.seq (.reg none [⟨(some 4), none, .mv (.k (V.i (-1)))⟩] [4])
         (.ret))
        (.skip)))
      (.reg none [⟨(some 28), none, .mv (.t 1)⟩,
        ⟨(some 29), none, .bin .add .i (.t 28) (.k (V.i 1))⟩,
        ⟨(some 1), none, .mv (.t 29)⟩] [0, 1, 5])))))
    (.reg none [⟨(some 10), none, .mv (.t 5)⟩,
      ⟨(some 11), none, .bin .add .i (.t 10) (.k (V.i 1))⟩,
      ⟨(some 5), none, .mv (.t 11)⟩] [0, 1, 5])))))
  (.seq (.reg none [⟨(some 30), none, .mv (.t 1)⟩,
     ⟨(some 4), none, .mv (.t 30)⟩] [4])
  (.ret)))
def rv66 : List RV := [.t 4]
open Go.Proofs Go.IntWalk
set_option linter.unusedVariables false
set_option maxRecDepth 100000
set_option maxHeartbeats 4000000
def L_heldItemS_l1 (g : G) (t : TE) : List Item → Int → LR Int Int
  | [], v1 =>
    (LR.out v1)
  | z1 :: ls1, v1 =>
    br (g.eq z1.Id v1)
    (
     br (g.eq z1.Dest (g.wrap .i64 (g.add v1 1)))
     (
      L_heldItemS_l1 g t ls1 (g.wrap .i64 (g.add (g.wrap .i64 (g.add v1 1)) 1)))
     (
      (LR.ret (-1))))
    (
     (LR.ret (-1)))
def L_heldItemS (g : G) (t : TE) (a0 : List Item) (a1 : Int) : Int :=
  lP (L_heldItemS_l1 g t a0 a1) fun o1 => lrp o1 fun y1 =>
  y1
theorem fit66 : codeFit Try.prog Try.f66.ntmps (Try.f66.body.getD .skip) ir66 = true := by kernel_rfl
theorem c_L_heldItemS {g : G} {t : TE} {a0 : List Item} {a1 : Int} {r : Int} (hg : g = G.real) (ht : t = TE.real) (h : L_heldItemS g t a0 a1 = r) : Fn Try.prog 66 [.c (.s 2 (t.r_Item a0)), .c (.v (.int .i64 a1))] (.c (.r (.v (.int .i64 r)))) := by
  obtain ⟨X, hX⟩ := hide (.c (.r (.v (.int .i64 r))) : X)
  rw [← hX]
  refine fn_of (rvs := rv66) (j := ir66) Try.func66 rfl fit66 (Nat.le_of_ble_eq_true rfl) (by kernel_rfl) prog_mixed ?_
  intro g2 F hg2 hF
  obtain rfl : g2 = g := hg2.unique.trans hg.symm
  clear hg2
  obtain ⟨wrap, lt, le, eq, quo, rem, band, bor, bxor, shl, shr, nat, int, add, sub, mul, cat, seq, slt, sub3, byte, llen, nadd, nsub, dlen, dapp, dset, drep, rd, rda, up, rsub, dsub, all, sle, slen, hasI, putI, hasS, putS, imin, imax, fzc⟩ := g2
  obtain ⟨r_Item, d_Item, r_Chute, d_Chute, r_Inlet, d_Inlet, r_I64, d_I64, r_U8, d_U8⟩ := t
  unfold L_heldItemS at h
  try dsimp only at h
  cbv
  obtain ⟨o1, ho1, h⟩ := of_lP h
  try dsimp only at h
  try rw [hg] at ho1
  try rw [ht] at ho1
  refine ABL.mk { p : Nat × Int × Int // p.1 ≤ a0.length ∧ p.2.1 = ((p.1 : Nat) : Int) ∧ L_heldItemS_l1 G.real TE.real (List.drop p.1 a0) p.2.2 = o1 } (fun ⟨⟨k1, v2, v1⟩, _⟩ => ({ sl := [(0, .c (.r (.s 2 (r_Item a0)))), (1, .c (.r (.v (.int .i64 v1)))), (5, .c (.r (.v (.int .i64 v2))))], tab := [] } : St)) 0 (fun p => a0.length - p.1.1) ⟨(0, 0, a1), Nat.zero_le _, rfl, ho1⟩ (Int) (fun y1 => ({ sl := [(1, .c (.r (.v (.int .i64 y1))))], tab := [] } : St)) 0 (fun y => o1 = LR.out y) ?_ ?_ ?_
  · refine Wk.of [] rfl rfl ?_ ?_
    · cbv
      all_goals exact ⟨⟨_, rfl, rfl⟩, ⟨_, rfl, rfl⟩, ⟨_, rfl, rfl⟩, trivial⟩
    · cbv
      all_goals exact trivial
  · rintro ⟨⟨k1, v2, v1⟩, hk1, hi1, h_1⟩ hq1
    have hm1 := (hq1.1 0 _ _ rfl)
    try dsimp only at hk1 hi1 h_1
    clear hq1
    cbv
    by_cases hc1_ : k1 < a0.length
    · have hb1 : lt v2 (llen (r_Item a0)) = true := ltL_true_Item hg ht hi1 hc1_
      have hs1 := stepL_Item hg ht hi1 hc1_ hm1
      obtain ⟨z1, hz1⟩ := some_of_lt hc1_
      rw [drop_of_some hz1] at h_1
      rw [L_heldItemS_l1] at h_1
      obtain ⟨z1_Id, z1_Dest⟩ := z1
      try rw [← hg] at h_1
      try rw [← ht] at h_1
      try dsimp only at h_1
      rw [hb1]
      cbv
      refine AStep.mk (nn_L hi1) ?_
      cbv
      refine AGet.mk _ (r_getL_Item hg ht hi1 hz1) ?_
      cbv
      cases hb2 : (eq z1_Id v1) with
      | true =>
        rw [br_true hb2] at h_1
        cbv
        refine AStep.mk (nn_L hi1) ?_
        cbv
        refine AGet.mk _ (r_getL_Item hg ht hi1 hz1) ?_
        cbv
        cases hb3 : (eq z1_Dest (wrap .i64 (add v1 1))) with
        | true =>
          rw [br_true hb3] at h_1
          cbv
          try rw [hg] at h_1
          try rw [ht] at h_1
          refine ⟨⟨(k1 + 1, (wrap .i64 (add v2 1)), (wrap .i64 (add (wrap .i64 (add v1 1)) 1))), hc1_, hs1, h_1⟩, Wk.of [] rfl rfl ?_ ?_, meas_L hc1_⟩
          · cbv
            all_goals exact ⟨⟨_, rfl, rfl⟩, ⟨_, rfl, rfl⟩, ⟨_, rfl, rfl⟩, trivial⟩
          · cbv
            all_goals exact trivial
        | false =>
          rw [br_false hb3] at h_1
          cbv
          subst h_1
          try dsimp only [lr, lrL, lrp, lrpL] at h
          subst h
          exact ARet.mk trivial hX.symm
      | false =>
        rw [br_false hb2] at h_1
        cbv
        subst h_1
        try dsimp only [lr, lrL, lrp, lrpL] at h
        subst h
        exact ARet.mk trivial hX.symm
    · have hb1 : lt v2 (llen (r_Item a0)) = false := ltL_false_Item hg ht hi1 hc1_
      rw [List.drop_of_length_le (Nat.le_of_not_lt hc1_)] at h_1
      rw [L_heldItemS_l1] at h_1
      try rw [← hg] at h_1
      try rw [← ht] at h_1
      try dsimp only at h_1
      rw [hb1]
      cbv
      refine ⟨v1, Wk.of [] rfl rfl ?_ ?_, h_1.symm⟩
      · cbv
        all_goals exact ⟨⟨_, rfl, rfl⟩, trivial⟩
      · cbv
        all_goals exact trivial
  · rintro y1 hy1
    replace hy1 := hy1.symm
    subst hy1
    try dsimp only [lr, lrL, lrp, lrpL] at h
    cbv
    subst h
    exact ARet.mk trivial hX.symm
end Go.Vs
namespace Go.Vs
set_option maxRecDepth 100000
def ir75 : J :=
  .seq (.reg none [⟨(some 4), none, .mv (.k (V.i 0))⟩] [0, 1])
  (.seq (.seq (.reg none [⟨(some 5), none, .mv (.k (V.i 0))⟩] [0, 1, 5])
   (.bl 0 (.seq (.seq (.reg none [⟨(some 6), none, .mv (.t 5)⟩,
        ⟨(some 7), none, .mv (.t 0)⟩,
        ⟨(some 8), none, .len false (.t 7)⟩,
        ⟨(some 9), none, .bin .lss .i (.t 6) (.t 8)⟩] [0, 1, 5, 9])
     (.cond (.t 9)
      (.skip)
      (.exit 0)))
    (.seq (.block 1 (.seq (.seq (.reg none [⟨(some 12), none, .mv (.t 0)⟩,
          ⟨(some 13), none, .mv (.t 5)⟩,
          ⟨(some 14), none, .ia 1 (.t 12) (.t 13)⟩,
          ⟨(some 15), none, .ld false 1 (.t 14)⟩,
          ⟨(some 16), none, .mv (.t 1)⟩,
          ⟨(some 17), none, .bin .neq .i (.t 15) (.t 16)⟩] [0, 1, 5, 17])
       (.cond (.t 17)
        (.seq (.reg none [⟨(some 4), none, .mv (.k (V.i (-1)))⟩] [4])
         (.ret))
        (.skip)))
      (.reg none [⟨(some 18), none, .mv (.t 1)⟩,
        ⟨(some 19), none, .bin .add .i (.t 18) (.k (V.i 1))⟩,
        ⟨(some 1), none, .mv (.t 19)⟩] [0, 1, 5])))
    (.reg none [⟨(some 10), none, .mv (.t 5)⟩,
      ⟨(some 11), none, .bin .add .i (.t 10) (.k (V.i 1))⟩,
      ⟨(some 5), none, .mv (.t 11)⟩] [0, 1, 5])))))
  (.seq (.reg none [⟨(some 20), none, .mv (.t 1)⟩,
     ⟨(some 4), none, .mv (.t 20)⟩] [4])
  (.ret)))
def rv75 : List RV := [.t 4]
open Go.Proofs Go.IntWalk
set_option linter.unusedVariables false
set_option maxRecDepth 100000
set_option maxHeartbeats 4000000
def L_heldIntS_l1 (g : G) (t : TE) : List Int → Int → LR Int Int
  | [], v1 =>
    (LR.out v1)
  | z1 :: ls1, v1 =>
    br (g.eq z1 v1)
    (
     L_heldIntS_l1 g t ls1 (g.wrap .i64 (g.add v1 1)))
    (
     (LR.ret (-1)))
def L_heldIntS (g : G) (t : TE) (a0 : List Int) (a1 : Int) : Int :=
  lP (L_heldIntS_l1 g t a0 a1) fun o1 => lrp o1 fun y1 =>
  y1
theorem fit75 : codeFit Try.prog Try.f75.ntmps (Try.f75.body.getD .skip) ir75 = true := by kernel_rfl
theorem c_L_heldIntS {g : G} {t : TE} {a0 : List Int} {a1 : Int} {r : Int} (hg : g = G.real) (ht : t = TE.real) (h : L_heldIntS g t a0 a1 = r) : Fn Try.prog 75 [.c (.s 1 (t.r_I64 a0)), .c (.v (.int .i64 a1))] (.c (.r (.v (.int .i64 r)))) := by
  obtain ⟨X, hX⟩ := hide (.c (.r (.v (.int .i64 r))) : X)
  rw [← hX]
  refine fn_of (rvs := rv75) (j := ir75) Try.func75 rfl fit75 (Nat.le_of_ble_eq_true rfl) (by kernel_rfl) prog_mixed ?_
  intro g2 F hg2 hF
  obtain rfl : g2 = g := hg2.unique.trans hg.symm
  clear hg2
  obtain ⟨wrap, lt, le, eq, quo, rem, band, bor, bxor, shl, shr, nat, int, add, sub, mul, cat, seq, slt, sub3, byte, llen, nadd, nsub, dlen, dapp, dset, drep, rd, rda, up, rsub, dsub, all, sle, slen, hasI, putI, hasS, putS, imin, imax, fzc⟩ := g2
  obtain ⟨r_Item, d_Item, r_Chute, d_Chute, r_Inlet, d_Inlet, r_I64, d_I64, r_U8, d_U8⟩ := t
  unfold L_heldIntS at h
  try dsimp only at h
  cbv
  obtain ⟨o1, ho1, h⟩ := of_lP h
  try dsimp only at h
  try rw [hg] at ho1
  try rw [ht] at ho1
  refine ABL.mk { p : Nat × Int × Int // p.1 ≤ a0.length ∧ p.2.1 = ((p.1 : Nat) : Int) ∧ L_heldIntS_l1 G.real TE.real (List.drop p.1 a0) p.2.2 = o1 } (fun ⟨⟨k1, v2, v1⟩, _⟩ => ({ sl := [(0, .c (.r (.s 1 (r_I64 a0)))), (1, .c (.r (.v (.int .i64 v1)))), (5, .c (.r (.v (.int .i64 v2))))], tab := [] } : St)) 0 (fun p => a0.length - p.1.1) ⟨(0, 0, a1), Nat.zero_le _, rfl, ho1⟩ (Int) (fun y1 => ({ sl := [(1, .c (.r (.v (.int .i64 y1))))], tab := [] } : St)) 0 (fun y => o1 = LR.out y) ?_ ?_ ?_
  · refine Wk.of [] rfl rfl ?_ ?_
    · cbv
      all_goals exact ⟨⟨_, rfl, rfl⟩, ⟨_, rfl, rfl⟩, ⟨_, rfl, rfl⟩, trivial⟩
    · cbv
      all_goals exact trivial
  · rintro ⟨⟨k1, v2, v1⟩, hk1, hi1, h_1⟩ hq1
    have hm1 := (hq1.1 0 _ _ rfl)
    try dsimp only at hk1 hi1 h_1
    clear hq1
    cbv
    by_cases hc1_ : k1 < a0.length
    · have hb1 : lt v2 (llen (r_I64 a0)) = true := ltL_true_I64 hg ht hi1 hc1_
      have hs1 := stepL_I64 hg ht hi1 hc1_ hm1
      obtain ⟨z1, hz1⟩ := some_of_lt hc1_
      rw [drop_of_some hz1] at h_1
      rw [L_heldIntS_l1] at h_1
      try rw [← hg] at h_1
      try rw [← ht] at h_1
      try dsimp only at h_1
      rw [hb1]
      cbv
      refine AStep.mk (nn_L hi1) ?_
      cbv
      refine AGet.mk _ (r_getL_I64 hg ht hi1 hz1) ?_
      cbv
      cases hb2 : (eq z1 v1) with
      | true =>
        rw [br_true hb2] at h_1
        cbv
        try rw [hg] at h_1
        try rw [ht] at h_1
        refine ⟨⟨(k1 + 1, (wrap .i64 (add v2 1)), (wrap .i64 (add v1 1))), hc1_, hs1, h_1⟩, Wk.of [] rfl rfl ?_ ?_, meas_L hc1_⟩
        · cbv
          all_goals exact ⟨⟨_, rfl, rfl⟩, ⟨_, rfl, rfl⟩, ⟨_, rfl, rfl⟩, trivial⟩
        · cbv
          all_goals exact trivial
      | false =>
        rw [br_false hb2] at h_1
        cbv
        subst h_1
        try dsimp only [lr, lrL, lrp, lrpL] at h
        subst h
        exact ARet.mk trivial hX.symm
    · have hb1 : lt v2 (llen (r_I64 a0)) = false := ltL_false_I64 hg ht hi1 hc1_
      rw [List.drop_of_length_le (Nat.le_of_not_lt hc1_)] at h_1
      rw [L_heldIntS_l1] at h_1
      try rw [← hg] at h_1
      try rw [← ht] at h_1
      try dsimp only at h_1
      rw [hb1]
      cbv
      refine ⟨v1, Wk.of [] rfl rfl ?_ ?_, h_1.symm⟩
      · cbv
        all_goals exact ⟨⟨_, rfl, rfl⟩, trivial⟩
      · cbv
        all_goals exact trivial
  · rintro y1 hy1
    replace hy1 := hy1.symm
    subst hy1
    try dsimp only [lr, lrL, lrp, lrpL] at h
    cbv
    subst h
    exact ARet.mk trivial hX.symm
end Go.Vs
namespace Go.Vs
set_option maxRecDepth 100000
def ir99 : J :=
  .seq (.reg none [⟨(some 4), none, .mv (.k (V.i 0))⟩] [0, 1])
  (.seq (.seq (.reg none [⟨(some 5), none, .mv (.k (V.i 0))⟩] [0, 1, 5])
   (.bl 0 (.seq (.seq (.reg none [⟨(some 6), none, .mv (.t 5)⟩,
        ⟨(some 7), none, .mv (.t 0)⟩,
        ⟨(some 8), none, .len false (.t 7)⟩,
        ⟨(some 9), none, .bin .lss .i (.t 6) (.t 8)⟩] [0, 1, 5, 9])
     (.cond (.t 9)
      (.skip)
      (.exit 0)))
    (.seq (.block 1 (.seq (.seq (.reg none [⟨(some 12), none, .mv (.t 0)⟩,
          ⟨(some 13), none, .mv (.t 5)⟩,
          ⟨(some 14), none, .ia 3 (.t 12) (.t 13)⟩,
          ⟨(some 15), none, .fa 0 (.t 14)⟩,
          ⟨(some 16), none, .ld false 1 (.t 15)⟩,
          ⟨(some 17), none, .mv (.t 1)⟩,
          ⟨(some 18), none, .bin .neq .i (.t 16) (.t 17)⟩] [0, 1, 5, 18])
       (.cond (.t 18)
        (.seq (.reg none [⟨(some 4), none, .mv (.k (V.i (-1)))⟩] [4])
         (.ret))
        (.skip)))
      (.seq (.reg none [⟨(some 19), none, .mv (.t 1)⟩,
         ⟨(some 20), none, .bin .add .i (.t 19) (.k (V.i 1))⟩,
         ⟨(some 1), none, .mv (.t 20)⟩] [0, 1, 5])
      (.seq (.seq (.reg none [⟨(some 21), none, .mv (.t 0)⟩,
          ⟨(some 22), none, .mv (.t 5)⟩,
          ⟨(some 23), none, .ia 3 (.t 21) (.t 22)⟩,
          ⟨(some 24), none, .fa 1 (.t 23)⟩,
          ⟨(some 25), none, .ld false 1 (.t 24)⟩,
          ⟨(some 26), none, .mv (.t 1)⟩,
          ⟨(some 27), none, .bin .neq .i (.t 25) (.t 26)⟩] [0, 1, 5, 27])
       (.cond (.t 27)
        (.seq (.reg none [⟨(some 4), none, .mv (.k (V.i (-1)))⟩] [4])
         (.ret))
        (.skip)))
      (.seq (.reg none [⟨(some 28), none, .mv (.t 1)⟩,
         ⟨(some 29), none, .bin .add .i (.t 28) (.k (V.i 1))⟩,
         ⟨(some 1), none, .mv (.t 29)⟩] [0, 1, 5])
      (.seq (.reg none [⟨(some 30), none, .mv (.t 0)⟩,
         ⟨(some 31), none, .mv (.t 5)⟩,
         ⟨(some 32), none, .ia 3 (.t 30) (.t 31)⟩,
         ⟨(some 33), none, .fa 2 (.t 32)⟩,
         ⟨(some 34), none, .ld false 1 (.t 33)⟩,
         ⟨(some 35), none, .mv (.t 1)⟩,
         ⟨(some 36), none, .call 66 true [(.t 34), (.t 35)]⟩,
         ⟨(some 1), none, .mv (.t 36)⟩] [0, 1, 5])
      (.seq (.reg none [⟨(some 37), none, .mv (.t 1)⟩,
         ⟨(some 38), none, .bin .lss .i (.t 37) (.k (V.i 0))⟩] [0, 1, 5, 38])
      (.cond (.t 38)
       (.seq (.reg none [⟨(some 4), none, .mv (.k (V.i (-1)))⟩] [4])
        (.ret))
       (.skip)))))))))
    (.reg none [⟨(some 10), none, .mv (.t 5)⟩,
      ⟨(some 11), none, .bin .add .i (.t 10) (.k (V.i 1))⟩,
      ⟨(some 5), none, .mv (.t 11)⟩] [0, 1, 5])))))
  (.seq (.reg none [⟨(some 39), none, .mv (.t 1)⟩,
     ⟨(some 4), none, .mv (.t 39)⟩] [4])
  (.ret)))
def rv99 : List RV := [.t 4]
open Go.Proofs Go.IntWalk
set_option linter.unusedVariables false
set_option maxRecDepth 100000
set_option maxHeartbeats 4000000
def L_heldChuteS_l1 (g : G) (t : TE) : List Chute → Int → LR Int Int
  | [], v1 =>
    (LR.out v1)
  | z1 :: ls1, v1 =>
    br (g.eq z1.Cell v1)
    (
     br (g.eq z1.Room (g.wrap .i64 (g.add v1 1)))
     (
      lP (L_heldItemS g t z1.Held (g.wrap .i64 (g.add (g.wrap .i64 (g.add v1 1)) 1))) fun x1 =>
      br (g.lt x1 0)
      (
       (LR.ret (-1)))
      (
       L_heldChuteS_l1 g t ls1 x1))
     (
      (LR.ret (-1))))
    (
     (LR.ret (-1)))
def L_heldChuteS (g : G) (t : TE) (a0 : List Chute) (a1 : Int) : Int :=
  lP (L_heldChuteS_l1 g t a0 a1) fun o1 => lrp o1 fun y1 =>
  y1
theorem fit99 : codeFit Try.prog Try.f99.ntmps (Try.f99.body.getD .skip) ir99 = true := by kernel_rfl
theorem c_L_heldChuteS {g : G} {t : TE} {a0 : List Chute} {a1 : Int} {r : Int} (hg : g = G.real) (ht : t = TE.real) (h : L_heldChuteS g t a0 a1 = r) : Fn Try.prog 99 [.c (.s 3 (t.r_Chute a0)), .c (.v (.int .i64 a1))] (.c (.r (.v (.int .i64 r)))) := by
  obtain ⟨X, hX⟩ := hide (.c (.r (.v (.int .i64 r))) : X)
  rw [← hX]
  refine fn_of (rvs := rv99) (j := ir99) Try.func99 rfl fit99 (Nat.le_of_ble_eq_true rfl) (by kernel_rfl) prog_mixed ?_
  intro g2 F hg2 hF
  obtain rfl : g2 = g := hg2.unique.trans hg.symm
  clear hg2
  obtain ⟨wrap, lt, le, eq, quo, rem, band, bor, bxor, shl, shr, nat, int, add, sub, mul, cat, seq, slt, sub3, byte, llen, nadd, nsub, dlen, dapp, dset, drep, rd, rda, up, rsub, dsub, all, sle, slen, hasI, putI, hasS, putS, imin, imax, fzc⟩ := g2
  obtain ⟨r_Item, d_Item, r_Chute, d_Chute, r_Inlet, d_Inlet, r_I64, d_I64, r_U8, d_U8⟩ := t
  unfold L_heldChuteS at h
  try dsimp only at h
  cbv
  obtain ⟨o1, ho1, h⟩ := of_lP h
  try dsimp only at h
  try rw [hg] at ho1
  try rw [ht] at ho1
  refine ABL.mk { p : Nat × Int × Int // p.1 ≤ a0.length ∧ p.2.1 = ((p.1 : Nat) : Int) ∧ L_heldChuteS_l1 G.real TE.real (List.drop p.1 a0) p.2.2 = o1 } (fun ⟨⟨k1, v2, v1⟩, _⟩ => ({ sl := [(0, .c (.r (.s 3 (r_Chute a0)))), (1, .c (.r (.v (.int .i64 v1)))), (5, .c (.r (.v (.int .i64 v2))))], tab := [] } : St)) 0 (fun p => a0.length - p.1.1) ⟨(0, 0, a1), Nat.zero_le _, rfl, ho1⟩ (Int) (fun y1 => ({ sl := [(1, .c (.r (.v (.int .i64 y1))))], tab := [] } : St)) 0 (fun y => o1 = LR.out y) ?_ ?_ ?_
  · refine Wk.of [] rfl rfl ?_ ?_
    · cbv
      all_goals exact ⟨⟨_, rfl, rfl⟩, ⟨_, rfl, rfl⟩, ⟨_, rfl, rfl⟩, trivial⟩
    · cbv
      all_goals exact trivial
  · rintro ⟨⟨k1, v2, v1⟩, hk1, hi1, h_1⟩ hq1
    have hm1 := (hq1.1 0 _ _ rfl)
    try dsimp only at hk1 hi1 h_1
    clear hq1
    cbv
    by_cases hc1_ : k1 < a0.length
    · have hb1 : lt v2 (llen (r_Chute a0)) = true := ltL_true_Chute hg ht hi1 hc1_
      have hs1 := stepL_Chute hg ht hi1 hc1_ hm1
      obtain ⟨z1, hz1⟩ := some_of_lt hc1_
      rw [drop_of_some hz1] at h_1
      rw [L_heldChuteS_l1] at h_1
      obtain ⟨z1_Cell, z1_Room, z1_Held⟩ := z1
      try rw [← hg] at h_1
      try rw [← ht] at h_1
      try dsimp only at h_1
      rw [hb1]
      cbv
      refine AStep.mk (nn_L hi1) ?_
      cbv
      refine AGet.mk _ (r_getL_Chute hg ht hi1 hz1) ?_
      cbv
      cases hb2 : (eq z1_Cell v1) with
      | true =>
        rw [br_true hb2] at h_1
        cbv
        refine AStep.mk (nn_L hi1) ?_
        cbv
        refine AGet.mk _ (r_getL_Chute hg ht hi1 hz1) ?_
        cbv
        cases hb3 : (eq z1_Room (wrap .i64 (add v1 1))) with
        | true =>
          rw [br_true hb3] at h_1
          cbv
          refine AStep.mk (nn_L hi1) ?_
          cbv
          refine AGet.mk _ (r_getL_Chute hg ht hi1 hz1) ?_
          cbv
          obtain ⟨x1, hx1, h_1⟩ := of_lP h_1
          try dsimp only at h_1
          refine ACall.mk _ _ rfl (hF _ _ _ (c_L_heldItemS hg ht hx1)) (.inl rfl) (Nat.le_of_ble_eq_true rfl) ?_
          cbv
          cases hb4 : (lt x1 0) with
          | true =>
            rw [br_true hb4] at h_1
            cbv
            subst h_1
            try dsimp only [lr, lrL, lrp, lrpL] at h
            subst h
            exact ARet.mk trivial hX.symm
          | false =>
            rw [br_false hb4] at h_1
            cbv
            try rw [hg] at h_1
            try rw [ht] at h_1
            refine ⟨⟨(k1 + 1, (wrap .i64 (add v2 1)), x1), hc1_, hs1, h_1⟩, Wk.of [] rfl rfl ?_ ?_, meas_L hc1_⟩
            · cbv
              all_goals exact ⟨⟨_, rfl, rfl⟩, ⟨_, rfl, rfl⟩, ⟨_, rfl, rfl⟩, trivial⟩
            · cbv
              all_goals exact trivial
        | false =>
          rw [br_false hb3] at h_1
          cbv
          subst h_1
          try dsimp only [lr, lrL, lrp, lrpL] at h
          subst h
          exact ARet.mk trivial hX.symm
      | false =>
        rw [br_false hb2] at h_1
        cbv
        subst h_1
        try dsimp only [lr, lrL, lrp, lrpL] at h
        subst h
        exact ARet.mk trivial hX.symm
    · have hb1 : lt v2 (llen (r_Chute a0)) = false := ltL_false_Chute hg ht hi1 hc1_
      rw [List.drop_of_length_le (Nat.le_of_not_lt hc1_)] at h_1
      rw [L_heldChuteS_l1] at h_1
      try rw [← hg] at h_1
      try rw [← ht] at h_1
      try dsimp only at h_1
      rw [hb1]
      cbv
      refine ⟨v1, Wk.of [] rfl rfl ?_ ?_, h_1.symm⟩
      · cbv
        all_goals exact ⟨⟨_, rfl, rfl⟩, trivial⟩
      · cbv
        all_goals exact trivial
  · rintro y1 hy1
    replace hy1 := hy1.symm
    subst hy1
    try dsimp only [lr, lrL, lrp, lrpL] at h
    cbv
    subst h
    exact ARet.mk trivial hX.symm
end Go.Vs
namespace Go.Vs
set_option maxRecDepth 100000
def ir100 : J :=
  .seq (.reg none [⟨(some 4), none, .mv (.k (V.i 0))⟩] [0, 1])
  (.seq (.seq (.reg none [⟨(some 5), none, .mv (.k (V.i 0))⟩] [0, 1, 5])
   (.bl 0 (.seq (.seq (.reg none [⟨(some 6), none, .mv (.t 5)⟩,
        ⟨(some 7), none, .mv (.t 0)⟩,
        ⟨(some 8), none, .len false (.t 7)⟩,
        ⟨(some 9), none, .bin .lss .i (.t 6) (.t 8)⟩] [0, 1, 5, 9])
     (.cond (.t 9)
      (.skip)
      (.exit 0)))
    (.seq (.block 1 (.seq (.seq (.reg none [⟨(some 12), none, .mv (.t 0)⟩,
          ⟨(some 13), none, .mv (.t 5)⟩,
          ⟨(some 14), none, .ia 2 (.t 12) (.t 13)⟩,
          ⟨(some 15), none, .fa 0 (.t 14)⟩,
          ⟨(some 16), none, .ld false 1 (.t 15)⟩,
          ⟨(some 17), none, .mv (.t 1)⟩,
          ⟨(some 18), none, .bin .neq .i (.t 16) (.t 17)⟩] [0, 1, 5, 18])
       (.cond (.t 18)
        (.seq (.reg none [⟨(some 4), none, .mv (.k (V.i (-1)))⟩] [4])
         (.ret))
        (.skip)))
      (.seq (.reg none [⟨(some 19), none, .mv (.t 1)⟩,
         ⟨(some 20), none, .bin .add .i (.t 19) (.k (V.i 1))⟩,
         ⟨(some 1), none, .mv (.t 20)⟩] [0, 1, 5])
      (.seq (.reg none [⟨(some 21), none, .mv (.t 0)⟩,
         ⟨(some 22), none, .mv (.t 5)⟩,
         ⟨(some 23), none, .ia 2 (.t 21) (.t 22)⟩,
         ⟨(some 24), none, .fa 1 (.t 23)⟩,
         ⟨(some 25), none, .ld false 1 (.t 24)⟩,
         ⟨(some 26), none, .mv (.t 1)⟩,
         ⟨(some 27), none, .call 66 true [(.t 25), (.t 26)]⟩,
         ⟨(some 1), none, .mv (.t 27)⟩] [0, 1, 5])
      (.seq (.reg none [⟨(some 28), none, .mv (.t 1)⟩,
         ⟨(some 29), none, .bin .lss .i (.t 28) (.k (V.i 0))⟩] [0, 1, 5, 29])
      (.cond (.t 29)
       (.seq (.reg none [⟨(some 4), none, .mv (.k (V.i (-1)))⟩] [4])
        (.ret))
       (.skip)))))))
    (.reg none [⟨(some 10), none, .mv (.t 5)⟩,
      ⟨(some 11), none, .bin .add .i (.t 10) (.k (V.i 1))⟩,
      ⟨(some 5), none, .mv (.t 11)⟩] [0, 1, 5])))))
  (.seq (.reg none [⟨(some 30), none, .mv (.t 1)⟩,
     ⟨(some 4), none, .mv (.t 30)⟩] [4])
  (.ret)))
def rv100 : List RV := [.t 4]
open Go.Proofs Go.IntWalk
set_option linter.unusedVariables false
set_option maxRecDepth 100000
set_option maxHeartbeats 4000000
def L_heldInletS_l1 (g : G) (t : TE) : List Inlet → Int → LR Int Int
  | [], v1 =>
    (LR.out v1)
  | z1 :: ls1, v1 =>
    br (g.eq z1.Cell v1)
    (
     lP (L_heldItemS g t z1.Wait (g.wrap .i64 (g.add v1 1))) fun x1 =>
     br (g.lt x1 0)
     (
      (LR.ret (-1)))
     (
      L_heldInletS_l1 g t ls1 x1))
    (
     (LR.ret (-1)))
def L_heldInletS (g : G) (t : TE) (a0 : List Inlet) (a1 : Int) : Int :=
  lP (L_heldInletS_l1 g t a0 a1) fun o1 => lrp o1 fun y1 =>
  y1
theorem fit100 : codeFit Try.prog Try.f100.ntmps (Try.f100.body.getD .skip) ir100 = true := by kernel_rfl
theorem c_L_heldInletS {g : G} {t : TE} {a0 : List Inlet} {a1 : Int} {r : Int} (hg : g = G.real) (ht : t = TE.real) (h : L_heldInletS g t a0 a1 = r) : Fn Try.prog 100 [.c (.s 2 (t.r_Inlet a0)), .c (.v (.int .i64 a1))] (.c (.r (.v (.int .i64 r)))) := by
  obtain ⟨X, hX⟩ := hide (.c (.r (.v (.int .i64 r))) : X)
  rw [← hX]
  refine fn_of (rvs := rv100) (j := ir100) Try.func100 rfl fit100 (Nat.le_of_ble_eq_true rfl) (by kernel_rfl) prog_mixed ?_
  intro g2 F hg2 hF
  obtain rfl : g2 = g := hg2.unique.trans hg.symm
  clear hg2
  obtain ⟨wrap, lt, le, eq, quo, rem, band, bor, bxor, shl, shr, nat, int, add, sub, mul, cat, seq, slt, sub3, byte, llen, nadd, nsub, dlen, dapp, dset, drep, rd, rda, up, rsub, dsub, all, sle, slen, hasI, putI, hasS, putS, imin, imax, fzc⟩ := g2
  obtain ⟨r_Item, d_Item, r_Chute, d_Chute, r_Inlet, d_Inlet, r_I64, d_I64, r_U8, d_U8⟩ := t
  unfold L_heldInletS at h
  try dsimp only at h
  cbv
  obtain ⟨o1, ho1, h⟩ := of_lP h
  try dsimp only at h
  try rw [hg] at ho1
  try rw [ht] at ho1
  refine ABL.mk { p : Nat × Int × Int // p.1 ≤ a0.length ∧ p.2.1 = ((p.1 : Nat) : Int) ∧ L_heldInletS_l1 G.real TE.real (List.drop p.1 a0) p.2.2 = o1 } (fun ⟨⟨k1, v2, v1⟩, _⟩ => ({ sl := [(0, .c (.r (.s 2 (r_Inlet a0)))), (1, .c (.r (.v (.int .i64 v1)))), (5, .c (.r (.v (.int .i64 v2))))], tab := [] } : St)) 0 (fun p => a0.length - p.1.1) ⟨(0, 0, a1), Nat.zero_le _, rfl, ho1⟩ (Int) (fun y1 => ({ sl := [(1, .c (.r (.v (.int .i64 y1))))], tab := [] } : St)) 0 (fun y => o1 = LR.out y) ?_ ?_ ?_
  · refine Wk.of [] rfl rfl ?_ ?_
    · cbv
      all_goals exact ⟨⟨_, rfl, rfl⟩, ⟨_, rfl, rfl⟩, ⟨_, rfl, rfl⟩, trivial⟩
    · cbv
      all_goals exact trivial
  · rintro ⟨⟨k1, v2, v1⟩, hk1, hi1, h_1⟩ hq1
    have hm1 := (hq1.1 0 _ _ rfl)
    try dsimp only at hk1 hi1 h_1
    clear hq1
    cbv
    by_cases hc1_ : k1 < a0.length
    · have hb1 : lt v2 (llen (r_Inlet a0)) = true := ltL_true_Inlet hg ht hi1 hc1_
      have hs1 := stepL_Inlet hg ht hi1 hc1_ hm1
      obtain ⟨z1, hz1⟩ := some_of_lt hc1_
      rw [drop_of_some hz1] at h_1
      rw [L_heldInletS_l1] at h_1
      obtain ⟨z1_Cell, z1_Wait⟩ := z1
      try rw [← hg] at h_1
      try rw [← ht] at h_1
      try dsimp only at h_1
      rw [hb1]
      cbv
      refine AStep.mk (nn_L hi1) ?_
      cbv
      refine AGet.mk _ (r_getL_Inlet hg ht hi1 hz1) ?_
      cbv
      cases hb2 : (eq z1_Cell v1) with
      | true =>
        rw [br_true hb2] at h_1
        cbv
        refine AStep.mk (nn_L hi1) ?_
        cbv
        refine AGet.mk _ (r_getL_Inlet hg ht hi1 hz1) ?_
        cbv
        obtain ⟨x1, hx1, h_1⟩ := of_lP h_1
        try dsimp only at h_1
        refine ACall.mk _ _ rfl (hF _ _ _ (c_L_heldItemS hg ht hx1)) (.inl rfl) (Nat.le_of_ble_eq_true rfl) ?_
        cbv
        cases hb3 : (lt x1 0) with
        | true =>
          rw [br_true hb3] at h_1
          cbv
          subst h_1
          try dsimp only [lr, lrL, lrp, lrpL] at h
          subst h
          exact ARet.mk trivial hX.symm
        | false =>
          rw [br_false hb3] at h_1
          cbv
          try rw [hg] at h_1
          try rw [ht] at h_1
          refine ⟨⟨(k1 + 1, (wrap .i64 (add v2 1)), x1), hc1_, hs1, h_1⟩, Wk.of [] rfl rfl ?_ ?_, meas_L hc1_⟩
          · cbv
            all_goals exact ⟨⟨_, rfl, rfl⟩, ⟨_, rfl, rfl⟩, ⟨_, rfl, rfl⟩, trivial⟩
          · cbv
            all_goals exact trivial
      | false =>
        rw [br_false hb2] at h_1
        cbv
        subst h_1
        try dsimp only [lr, lrL, lrp, lrpL] at h
        subst h
        exact ARet.mk trivial hX.symm
    · have hb1 : lt v2 (llen (r_Inlet a0)) = false := ltL_false_Inlet hg ht hi1 hc1_
      rw [List.drop_of_length_le (Nat.le_of_not_lt hc1_)] at h_1
      rw [L_heldInletS_l1] at h_1
      try rw [← hg] at h_1
      try rw [← ht] at h_1
      try dsimp only at h_1
      rw [hb1]
      cbv
      refine ⟨v1, Wk.of [] rfl rfl ?_ ?_, h_1.symm⟩
      · cbv
        all_goals exact ⟨⟨_, rfl, rfl⟩, trivial⟩
      · cbv
        all_goals exact trivial
  · rintro y1 hy1
    replace hy1 := hy1.symm
    subst hy1
    try dsimp only [lr, lrL, lrp, lrpL] at h
    cbv
    subst h
    exact ARet.mk trivial hX.symm
end Go.Vs
namespace Go.Vs
set_option maxRecDepth 100000
def ir50 : J :=
  .seq (.reg none [⟨(some 2), none, .box (.t 0)⟩,
     ⟨(some 4), none, .mv (.k (V.i 0))⟩] [1, 2])
  (.seq (.reg none [⟨(some 5), none, .fa 0 (.t 2)⟩,
     ⟨(some 6), none, .ld false 1 (.t 5)⟩,
     ⟨(some 7), none, .mv (.t 1)⟩,
     ⟨(some 8), none, .call 66 true [(.t 6), (.t 7)]⟩,
     ⟨(some 1), none, .mv (.t 8)⟩] [1, 2])
  (.seq (.seq (.reg none [⟨(some 9), none, .mv (.t 1)⟩,
      ⟨(some 10), none, .bin .lss .i (.t 9) (.k (V.i 0))⟩] [1, 2, 10])
   (.cond (.t 10)
    (.seq (.reg none [⟨(some 4), none, .mv (.k (V.i (-1)))⟩] [4])
     (.ret))
    (.skip)))
  (.seq (.reg none [⟨(some 11), none, .fa 1 (.t 2)⟩,
     ⟨(some 12), none, .ld false 1 (.t 11)⟩,
     ⟨(some 13), none, .mv (.t 1)⟩,
     ⟨(some 14), none, .call 99 true [(.t 12), (.t 13)]⟩,
     ⟨(some 1), none, .mv (.t 14)⟩] [1, 2])
  (.seq (.seq (.reg none [⟨(some 15), none, .mv (.t 1)⟩,
      ⟨(some 16), none, .bin .lss .i (.t 15) (.k (V.i 0))⟩] [1, 2, 16])
   (.cond (.t 16)
    (.seq (.reg none [⟨(some 4), none, .mv (.k (V.i (-1)))⟩] [4])
     (.ret))
    (.skip)))
  (.seq (.reg none [⟨(some 17), none, .fa 2 (.t 2)⟩,
     ⟨(some 18), none, .ld false 1 (.t 17)⟩,
     ⟨(some 19), none, .mv (.t 1)⟩,
     ⟨(some 20), none, .call 100 true [(.t 18), (.t 19)]⟩,
     ⟨(some 1), none, .mv (.t 20)⟩] [1, 2])
  (.seq (.seq (.reg none [⟨(some 21), none, .mv (.t 1)⟩,
      ⟨(some 22), none, .bin .lss .i (.t 21) (.k (V.i 0))⟩] [1, 2, 22])
   (.cond (.t 22)
    (.seq (.reg none [⟨(some 4), none, .mv (.k (V.i (-1)))⟩] [4])
     (.ret))
    (.skip)))
  (.seq (.reg none [⟨(some 23), none, .fa 3 (.t 2)⟩,
     ⟨(some 24), none, .ld false 1 (.t 23)⟩,
     ⟨(some 25), none, .mv (.t 1)⟩,
     ⟨(some 26), none, .call 75 true [(.t 24), (.t 25)]⟩,
     ⟨(some 1), none, .mv (.t 26)⟩] [1])
  (.seq (.seq (.reg none [⟨(some 27), none, .mv (.t 1)⟩,
      ⟨(some 28), none, .bin .lss .i (.t 27) (.k (V.i 0))⟩] [1, 28])
   (.cond (.t 28)
    (.seq (.reg none [⟨(some 4), none, .mv (.k (V.i (-1)))⟩] [4])
     (.ret))
    (.skip)))
  (.seq (.reg none [⟨(some 29), none, .mv (.t 1)⟩,
     ⟨(some 4), none, .mv (.t 29)⟩] [4])
  (.ret))))))))))
def rv50 : List RV := [.t 4]
open Go.Proofs Go.IntWalk
set_option linter.unusedVariables false
set_option maxRecDepth 100000
set_option maxHeartbeats 4000000
def L_heldCentre (g : G) (t : TE) (a0 : Centre) (a1 : Int) : Int :=
  lP (L_heldItemS g t a0.Belt a1) fun x1 =>
  br (g.lt x1 0)
  (
   (-1))
  (
   lP (L_heldChuteS g t a0.Chutes x1) fun x2 =>
   br (g.lt x2 0)
   (
    (-1))
   (
    lP (L_heldInletS g t a0.Inlets x2) fun x3 =>
    br (g.lt x3 0)
    (
     (-1))
    (
     lP (L_heldIntS g t a0.Plan x3) fun x4 =>
     br (g.lt x4 0)
     (
      (-1))
     (
      x4))))
theorem fit50 : codeFit Try.prog Try.f50.ntmps (Try.f50.body.getD .skip) ir50 = true := by kernel_rfl
theorem c_L_heldCentre {g : G} {t : TE} {a0 : Centre} {a1 : Int} {r : Int} (hg : g = G.real) (ht : t = TE.real) (h : L_heldCentre g t a0 a1 = r) : Fn Try.prog 50 [.g (Centre.rs t a0), .c (.v (.int .i64 a1))] (.c (.r (.v (.int .i64 r)))) := by
  obtain ⟨X, hX⟩ := hide (.c (.r (.v (.int .i64 r))) : X)
  rw [← hX]
  refine fn_of (rvs := rv50) (j := ir50) Try.func50 rfl fit50 (Nat.le_of_ble_eq_true rfl) (by kernel_rfl) prog_mixed ?_
  intro g2 F hg2 hF
  obtain rfl : g2 = g := hg2.unique.trans hg.symm
  clear hg2
  obtain ⟨wrap, lt, le, eq, quo, rem, band, bor, bxor, shl, shr, nat, int, add, sub, mul, cat, seq, slt, sub3, byte, llen, nadd, nsub, dlen, dapp, dset, drep, rd, rda, up, rsub, dsub, all, sle, slen, hasI, putI, hasS, putS, imin, imax, fzc⟩ := g2
  obtain ⟨r_Item, d_Item, r_Chute, d_Chute, r_Inlet, d_Inlet, r_I64, d_I64, r_U8, d_U8⟩ := t
  obtain ⟨a0_Belt, a0_Chutes, a0_Inlets, a0_Plan, a0_Now⟩ := a0
  unfold L_heldCentre at h
  try dsimp only at h
  cbv
  obtain ⟨x1, hx1, h⟩ := of_lP h
  try dsimp only at h
  refine ACall.mk _ _ rfl (hF _ _ _ (c_L_heldItemS hg ht hx1)) (.inl rfl) (Nat.le_of_ble_eq_true rfl) ?_
  cbv
  cases hb1 : (lt x1 0) with
  | true =>
    rw [br_true hb1] at h
    cbv
    subst h
    exact ARet.mk trivial hX.symm
  | false =>
    rw [br_false hb1] at h
    cbv
    obtain ⟨x2, hx2, h⟩ := of_lP h
    try dsimp only at h
    refine ACall.mk _ _ rfl (hF _ _ _ (c_L_heldChuteS hg ht hx2)) (.inl rfl) (Nat.le_of_ble_eq_true rfl) ?_
    cbv
    cases hb2 : (lt x2 0) with
    | true =>
      rw [br_true hb2] at h
      cbv
      subst h
      exact ARet.mk trivial hX.symm
    | false =>
      rw [br_false hb2] at h
      cbv
      obtain ⟨x3, hx3, h⟩ := of_lP h
      try dsimp only at h
      refine ACall.mk _ _ rfl (hF _ _ _ (c_L_heldInletS hg ht hx3)) (.inl rfl) (Nat.le_of_ble_eq_true rfl) ?_
      cbv
      cases hb3 : (lt x3 0) with
      | true =>
        rw [br_true hb3] at h
        cbv
        subst h
        exact ARet.mk trivial hX.symm
      | false =>
        rw [br_false hb3] at h
        cbv
        obtain ⟨x4, hx4, h⟩ := of_lP h
        try dsimp only at h
        refine ACall.mk _ _ rfl (hF _ _ _ (c_L_heldIntS hg ht hx4)) (.inl rfl) (Nat.le_of_ble_eq_true rfl) ?_
        cbv
        cases hb4 : (lt x4 0) with
        | true =>
          rw [br_true hb4] at h
          cbv
          subst h
          exact ARet.mk trivial hX.symm
        | false =>
          rw [br_false hb4] at h
          cbv
          subst h
          exact ARet.mk trivial hX.symm
end Go.Vs
namespace Go.Vs
set_option maxRecDepth 100000
def ir33 : J :=
  .seq (.reg none [⟨(some 2), none, .mv (.k (V.b false))⟩] [0])
  (.seq (.reg none [⟨(some 3), none, .mv (.t 0)⟩,
     ⟨(some 4), none, .len false (.t 3)⟩,
     ⟨(some 5), none, .bin .gtr .i (.t 4) (.k (V.i 4096))⟩,
     ⟨(some 2), none, .mv (.t 5)⟩] [2])
  (.ret))
def rv33 : List RV := [.t 2]
open Go.Proofs Go.IntWalk
set_option linter.unusedVariables false
set_option maxRecDepth 100000
set_option maxHeartbeats 4000000
def L_big (g : G) (t : TE) (a0 : List Int) : Bool :=
  (g.lt 4096 (g.llen (t.r_U8 a0)))
theorem fit33 : codeFit Try.prog Try.f33.ntmps (Try.f33.body.getD .skip) ir33 = true := by kernel_rfl
theorem c_L_big {g : G} {t : TE} {a0 : List Int} {r : Bool} (hg : g = G.real) (ht : t = TE.real) (h : L_big g t a0 = r) : Fn Try.prog 33 [.c (.s 1 (t.r_U8 a0))] (.c (.r (.v (.bool r)))) := by
  obtain ⟨X, hX⟩ := hide (.c (.r (.v (.bool r))) : X)
  rw [← hX]
  refine fn_of (rvs := rv33) (j := ir33) Try.func33 rfl fit33 (Nat.le_of_ble_eq_true rfl) (by kernel_rfl) prog_mixed ?_
  intro g2 F hg2 hF
  obtain rfl : g2 = g := hg2.unique.trans hg.symm
  clear hg2
  obtain ⟨wrap, lt, le, eq, quo, rem, band, bor, bxor, shl, shr, nat, int, add, sub, mul, cat, seq, slt, sub3, byte, llen, nadd, nsub, dlen, dapp, dset, drep, rd, rda, up, rsub, dsub, all, sle, slen, hasI, putI, hasS, putS, imin, imax, fzc⟩ := g2
  obtain ⟨r_Item, d_Item, r_Chute, d_Chute, r_Inlet, d_Inlet, r_I64, d_I64, r_U8, d_U8⟩ := t
  unfold L_big at h
  try dsimp only at h
  cbv
  subst h
  exact ARet.mk trivial hX.symm
end Go.Vs
namespace Go.Vs
set_option maxRecDepth 100000
def ir27 : J :=
  .seq (.reg none [⟨(some 1), none, .box (.t 0)⟩,
     ⟨(some 2), none, .mv (.k (V.i 0))⟩] [1])
  (.seq (.reg none [⟨(some 3), none, .mv (.k (V.i 0))⟩] [1, 3])
  (.seq (.seq (.reg none [⟨(some 6), none, .fa 2 (.t 1)⟩,
      ⟨(some 7), none, .ld false 1 (.t 6)⟩,
      ⟨(some 8), none, .len false (.t 7)⟩,
      ⟨(some 9), none, .mv (.k (V.i 0))⟩] [3, 7, 8, 9])
   (.bl 0 (.seq (.reg none [⟨(some 10), none, .bin .lss .i (.t 9) (.t 8)⟩] [3, 7, 8, 9, 10])
    (.seq (.cond (.t 10)
      (.skip)
      (.exit 0))
    (.seq (.block 1 (.seq (.reg none [⟨(some 11), none, .ia 2 (.t 7) (.t 9)⟩,
         ⟨(some 12), none, .ld true 2 (.t 11)⟩,
         ⟨(some 5), none, .alloc [.r (.v (.int .i64 0)), .n 2]⟩,
         ⟨none, none, .st 2 (.t 5) (.t 12)⟩] [3, 5, 7, 8, 9])
      (.reg none [⟨(some 13), none, .mv (.t 3)⟩,
        ⟨(some 14), none, .fa 1 (.t 5)⟩,
        ⟨(some 15), none, .ld false 1 (.t 14)⟩,
        ⟨(some 16), none, .len false (.t 15)⟩,
        ⟨(some 17), none, .bin .add .i (.t 13) (.t 16)⟩,
        ⟨(some 3), none, .mv (.t 17)⟩] [3, 7, 8, 9])))
    (.reg none [⟨(some 18), none, .bin .add .i (.t 9) (.k (V.i 1))⟩,
      ⟨(some 9), none, .mv (.t 18)⟩] [3, 7, 8, 9]))))))
  (.seq (.reg none [⟨(some 19), none, .mv (.t 3)⟩,
     ⟨(some 2), none, .mv (.t 19)⟩] [2])
  (.ret))))
def rv27 : List RV := [.t 2]
open Go.Proofs Go.IntWalk
set_option linter.unusedVariables false
set_option maxRecDepth 100000
set_option maxHeartbeats 4000000
def I_CountWait_l1 (g : G) (t : TE) : List Inlet → Int → Int
  | [], v1 =>
    v1
  | z1 :: ls1, v1 =>
    I_CountWait_l1 g t ls1 (g.wrap .i64 (g.add v1 (g.llen (t.r_Item z1.Wait))))
def I_CountWait (g : G) (t : TE) (a0 : Centre) : Int :=
  lP (I_CountWait_l1 g t a0.Inlets 0) fun y1 =>
  y1
theorem fit27 : codeFit Try.prog Try.f27.ntmps (Try.f27.body.getD .skip) ir27 = true := by kernel_rfl
theorem c_I_CountWait {g : G} {t : TE} {a0 : Centre} {r : Int} (hg : g = G.real) (ht : t = TE.real) (h : I_CountWait g t a0 = r) : Fn Try.prog 27 [.g (Centre.rs t a0)] (.c (.r (.v (.int .i64 r)))) := by
  obtain ⟨X, hX⟩ := hide (.c (.r (.v (.int .i64 r))) : X)
  rw [← hX]
  refine fn_of (rvs := rv27) (j := ir27) Try.func27 rfl fit27 (Nat.le_of_ble_eq_true rfl) (by kernel_rfl) prog_mixed ?_
  intro g2 F hg2 hF
  obtain rfl : g2 = g := hg2.unique.trans hg.symm
  clear hg2
  obtain ⟨wrap, lt, le, eq, quo, rem, band, bor, bxor, shl, shr, nat, int, add, sub, mul, cat, seq, slt, sub3, byte, llen, nadd, nsub, dlen, dapp, dset, drep, rd, rda, up, rsub, dsub, all, sle, slen, hasI, putI, hasS, putS, imin, imax, fzc⟩ := g2
  obtain ⟨r_Item, d_Item, r_Chute, d_Chute, r_Inlet, d_Inlet, r_I64, d_I64, r_U8, d_U8⟩ := t
  obtain ⟨a0_Belt, a0_Chutes, a0_Inlets, a0_Plan, a0_Now⟩ := a0
  unfold I_CountWait at h
  try dsimp only at h
  cbv
  obtain ⟨o1, ho1, h⟩ := of_lP h
  try dsimp only at h
  try rw [hg] at ho1
  try rw [ht] at ho1
  refine ABL.mk { p : Nat × Int × Int // p.1 ≤ a0_Inlets.length ∧ p.2.1 = ((p.1 : Nat) : Int) ∧ I_CountWait_l1 G.real TE.real (List.drop p.1 a0_Inlets) p.2.2 = o1 } (fun ⟨⟨k1, v2, v1⟩, _⟩ => ({ sl := [(3, .c (.r (.v (.int .i64 v1)))), (7, .c (.r (.s 2 (r_Inlet a0_Inlets)))), (8, .c (.r (.v (.int .i64 (llen (r_Inlet a0_Inlets)))))), (9, .c (.r (.v (.int .i64 v2))))], tab := [] } : St)) 0 (fun p => a0_Inlets.length - p.1.1) ⟨(0, 0, 0), Nat.zero_le _, rfl, ho1⟩ (Int) (fun y1 => ({ sl := [(3, .c (.r (.v (.int .i64 y1))))], tab := [] } : St)) 0 (fun y => o1 = y) ?_ ?_ ?_
  · refine Wk.of [] rfl rfl ?_ ?_
    · cbv
      all_goals exact ⟨⟨_, rfl, rfl⟩, ⟨_, rfl, rfl⟩, ⟨_, rfl, rfl⟩, ⟨_, rfl, rfl⟩, trivial⟩
    · cbv
      all_goals exact trivial
  · rintro ⟨⟨k1, v2, v1⟩, hk1, hi1, h_1⟩ hq1
    have hm1 := (hq1.1 7 _ _ rfl)
    try dsimp only at hk1 hi1 h_1
    clear hq1
    cbv
    by_cases hc1_ : k1 < a0_Inlets.length
    · have hb1 : lt v2 (llen (r_Inlet a0_Inlets)) = true := ltL_true_Inlet hg ht hi1 hc1_
      have hs1 := stepL_Inlet hg ht hi1 hc1_ hm1
      obtain ⟨z1, hz1⟩ := some_of_lt hc1_
      rw [drop_of_some hz1] at h_1
      rw [I_CountWait_l1] at h_1
      obtain ⟨z1_Cell, z1_Wait⟩ := z1
      try rw [← hg] at h_1
      try rw [← ht] at h_1
      try dsimp only at h_1
      rw [hb1]
      cbv
      refine AStep.mk (nn_L hi1) ?_
      cbv
      refine AGet.mk _ (r_getL_Inlet hg ht hi1 hz1) ?_
      cbv
      try rw [hg] at h_1
      try rw [ht] at h_1
      refine ⟨⟨(k1 + 1, (wrap .i64 (add v2 1)), (wrap .i64 (add v1 (llen (r_Item z1_Wait))))), hc1_, hs1, h_1⟩, Wk.of [] rfl rfl ?_ ?_, meas_L hc1_⟩
      · cbv
        all_goals exact ⟨⟨_, rfl, rfl⟩, ⟨_, rfl, rfl⟩, ⟨_, rfl, rfl⟩, ⟨_, rfl, rfl⟩, trivial⟩
      · cbv
        all_goals exact trivial
    · have hb1 : lt v2 (llen (r_Inlet a0_Inlets)) = false := ltL_false_Inlet hg ht hi1 hc1_
      rw [List.drop_of_length_le (Nat.le_of_not_lt hc1_)] at h_1
      rw [I_CountWait_l1] at h_1
      try rw [← hg] at h_1
      try rw [← ht] at h_1
      try dsimp only at h_1
      rw [hb1]
      cbv
      refine ⟨v1, Wk.of [] rfl rfl ?_ ?_, h_1.symm⟩
      · cbv
        all_goals exact ⟨⟨_, rfl, rfl⟩, trivial⟩
      · cbv
        all_goals exact trivial
  · rintro y1 hy1
    replace hy1 := hy1.symm
    subst hy1
    try dsimp only [lr, lrL, lrp, lrpL] at h
    cbv
    subst h
    exact ARet.mk trivial hX.symm
end Go.Vs
namespace Go.Vs
set_option maxRecDepth 100000
def ir30 : J :=
  .seq (.reg none [⟨(some 1), none, .box (.t 0)⟩,
     ⟨(some 2), none, .mv (.k (V.i 0))⟩] [1])
  (.seq (.reg none [⟨(some 3), none, .mv (.k (V.i 0))⟩] [1, 3])
  (.seq (.seq (.reg none [⟨(some 6), none, .fa 0 (.t 1)⟩,
      ⟨(some 7), none, .ld false 1 (.t 6)⟩,
      ⟨(some 8), none, .len false (.t 7)⟩,
      ⟨(some 9), none, .mv (.k (V.i 0))⟩] [3, 7, 8, 9])
   (.bl 0 (.seq (.reg none [⟨(some 10), none, .bin .lss .i (.t 9) (.t 8)⟩] [3, 7, 8, 9, 10])
    (.seq (.cond (.t 10)
      (.skip)
      (.exit 0))
    (.seq (.block 1 (.seq (.reg none [⟨(some 11), none, .ia 2 (.t 7) (.t 9)⟩,
         ⟨(some 12), none, .ld true 2 (.t 11)⟩,
         ⟨(some 5), none, .alloc [.r (.v (.int .i64 0)), .r (.v (.int .i64 0))]⟩,
         ⟨none, none, .st 2 (.t 5) (.t 12)⟩] [3, 5, 7, 8, 9])
      (.seq (.reg none [⟨(some 13), none, .fa 0 (.t 5)⟩,
         ⟨(some 14), none, .ld false 1 (.t 13)⟩,
         ⟨(some 15), none, .bin .neq .i (.t 14) (.k (V.i 0))⟩] [3, 7, 8, 9, 15])
      (.cond (.t 15)
       (.reg none [⟨(some 16), none, .mv (.t 3)⟩,
          ⟨(some 17), none, .bin .add .i (.t 16) (.k (V.i 1))⟩,
          ⟨(some 3), none, .mv (.t 17)⟩] [3, 7, 8, 9])
       (.skip)))))
    (.reg none [⟨(some 18), none, .bin .add .i (.t 9) (.k (V.i 1))⟩,
      ⟨(some 9), none, .mv (.t 18)⟩] [3, 7, 8, 9]))))))
  (.seq (.reg none [⟨(some 19), none, .mv (.t 3)⟩,
     ⟨(some 2), none, .mv (.t 19)⟩] [2])
  (.ret))))
def rv30 : List RV := [.t 2]
open Go.Proofs Go.IntWalk
set_option linter.unusedVariables false
set_option maxRecDepth 100000
set_option maxHeartbeats 4000000
def I_CountBelt_l1 (g : G) (t : TE) : List Item → Int → Int
  | [], v1 =>
    v1
  | z1 :: ls1, v1 =>
    br (g.eq z1.Id 0)
    (
     I_CountBelt_l1 g t ls1 v1)
    (
     I_CountBelt_l1 g t ls1 (g.wrap .i64 (g.add v1 1)))
def I_CountBelt (g : G) (t : TE) (a0 : Centre) : Int :=
  lP (I_CountBelt_l1 g t a0.Belt 0) fun y1 =>
  y1
theorem fit30 : codeFit Try.prog Try.f30.ntmps (Try.f30.body.getD .skip) ir30 = true := by kernel_rfl
theorem c_I_CountBelt {g : G} {t : TE} {a0 : Centre} {r : Int} (hg : g = G.real) (ht : t = TE.real) (h : I_CountBelt g t a0 = r) : Fn Try.prog 30 [.g (Centre.rs t a0)] (.c (.r (.v (.int .i64 r)))) := by
  obtain ⟨X, hX⟩ := hide (.c (.r (.v (.int .i64 r))) : X)
  rw [← hX]
  refine fn_of (rvs := rv30) (j := ir30) Try.func30 rfl fit30 (Nat.le_of_ble_eq_true rfl) (by kernel_rfl) prog_mixed ?_
  intro g2 F hg2 hF
  obtain rfl : g2 = g := hg2.unique.trans hg.symm
  clear hg2
  obtain ⟨wrap, lt, le, eq, quo, rem, band, bor, bxor, shl, shr, nat, int, add, sub, mul, cat, seq, slt, sub3, byte, llen, nadd, nsub, dlen, dapp, dset, drep, rd, rda, up, rsub, dsub, all, sle, slen, hasI, putI, hasS, putS, imin, imax, fzc⟩ := g2
  obtain ⟨r_Item, d_Item, r_Chute, d_Chute, r_Inlet, d_Inlet, r_I64, d_I64, r_U8, d_U8⟩ := t
  obtain ⟨a0_Belt, a0_Chutes, a0_Inlets, a0_Plan, a0_Now⟩ := a0
  unfold I_CountBelt at h
  try dsimp only at h
  cbv
  obtain ⟨o1, ho1, h⟩ := of_lP h
  try dsimp only at h
  try rw [hg] at ho1
  try rw [ht] at ho1
  refine ABL.mk { p : Nat × Int × Int // p.1 ≤ a0_Belt.length ∧ p.2.1 = ((p.1 : Nat) : Int) ∧ I_CountBelt_l1 G.real TE.real (List.drop p.1 a0_Belt) p.2.2 = o1 } (fun ⟨⟨k1, v2, v1⟩, _⟩ => ({ sl := [(3, .c (.r (.v (.int .i64 v1)))), (7, .c (.r (.s 2 (r_Item a0_Belt)))), (8, .c (.r (.v (.int .i64 (llen (r_Item a0_Belt)))))), (9, .c (.r (.v (.int .i64 v2))))], tab := [] } : St)) 0 (fun p => a0_Belt.length - p.1.1) ⟨(0, 0, 0), Nat.zero_le _, rfl, ho1⟩ (Int) (fun y1 => ({ sl := [(3, .c (.r (.v (.int .i64 y1))))], tab := [] } : St)) 0 (fun y => o1 = y) ?_ ?_ ?_
  · refine Wk.of [] rfl rfl ?_ ?_
    · cbv
      all_goals exact ⟨⟨_, rfl, rfl⟩, ⟨_, rfl, rfl⟩, ⟨_, rfl, rfl⟩, ⟨_, rfl, rfl⟩, trivial⟩
    · cbv
      all_goals exact trivial
  · rintro ⟨⟨k1, v2, v1⟩, hk1, hi1, h_1⟩ hq1
    have hm1 := (hq1.1 7 _ _ rfl)
    try dsimp only at hk1 hi1 h_1
    clear hq1
    cbv
    by_cases hc1_ : k1 < a0_Belt.length
    · have hb1 : lt v2 (llen (r_Item a0_Belt)) = true := ltL_true_Item hg ht hi1 hc1_
      have hs1 := stepL_Item hg ht hi1 hc1_ hm1
      obtain ⟨z1, hz1⟩ := some_of_lt hc1_
      rw [drop_of_some hz1] at h_1
      rw [I_CountBelt_l1] at h_1
      obtain ⟨z1_Id, z1_Dest⟩ := z1
      try rw [← hg] at h_1
      try rw [← ht] at h_1
      try dsimp only at h_1
      rw [hb1]
      cbv
      refine AStep.mk (nn_L hi1) ?_
      cbv
      refine AGet.mk _ (r_getL_Item hg ht hi1 hz1) ?_
      cbv
      cases hb2 : (eq z1_Id 0) with
      | true =>
        rw [br_true hb2] at h_1
        cbv
        try rw [hg] at h_1
        try rw [ht] at h_1
        refine ⟨⟨(k1 + 1, (wrap .i64 (add v2 1)), v1), hc1_, hs1, h_1⟩, Wk.of [] rfl rfl ?_ ?_, meas_L hc1_⟩
        · cbv
          all_goals exact ⟨⟨_, rfl, rfl⟩, ⟨_, rfl, rfl⟩, ⟨_, rfl, rfl⟩, ⟨_, rfl, rfl⟩, trivial⟩
        · cbv
          all_goals exact trivial
      | false =>
        rw [br_false hb2] at h_1
        cbv
        try rw [hg] at h_1
        try rw [ht] at h_1
        refine ⟨⟨(k1 + 1, (wrap .i64 (add v2 1)), (wrap .i64 (add v1 1))), hc1_, hs1, h_1⟩, Wk.of [] rfl rfl ?_ ?_, meas_L hc1_⟩
        · cbv
          all_goals exact ⟨⟨_, rfl, rfl⟩, ⟨_, rfl, rfl⟩, ⟨_, rfl, rfl⟩, ⟨_, rfl, rfl⟩, trivial⟩
        · cbv
          all_goals exact trivial
    · have hb1 : lt v2 (llen (r_Item a0_Belt)) = false := ltL_false_Item hg ht hi1 hc1_
      rw [List.drop_of_length_le (Nat.le_of_not_lt hc1_)] at h_1
      rw [I_CountBelt_l1] at h_1
      try rw [← hg] at h_1
      try rw [← ht] at h_1
      try dsimp only at h_1
      rw [hb1]
      cbv
      refine ⟨v1, Wk.of [] rfl rfl ?_ ?_, h_1.symm⟩
      · cbv
        all_goals exact ⟨⟨_, rfl, rfl⟩, trivial⟩
      · cbv
        all_goals exact trivial
  · rintro y1 hy1
    replace hy1 := hy1.symm
    subst hy1
    try dsimp only [lr, lrL, lrp, lrpL] at h
    cbv
    subst h
    exact ARet.mk trivial hX.symm
end Go.Vs
namespace Go.Vs
set_option maxRecDepth 100000
def ir25 : J :=
  .seq (.reg none [⟨(some 1), none, .box (.t 0)⟩,
     ⟨(some 2), none, .mv (.k (V.i 0))⟩] [1])
  (.seq (.reg none [⟨(some 3), none, .mv (.k (V.i 0))⟩] [1, 3])
  (.seq (.seq (.reg none [⟨(some 4), none, .mv (.k (V.i 0))⟩] [1, 3, 4])
   (.bl 0 (.seq (.seq (.reg none [⟨(some 5), none, .mv (.t 4)⟩,
        ⟨(some 6), none, .fa 2 (.t 1)⟩,
        ⟨(some 7), none, .ld false 1 (.t 6)⟩,
        ⟨(some 8), none, .len false (.t 7)⟩,
        ⟨(some 9), none, .bin .lss .i (.t 5) (.t 8)⟩] [1, 3, 4, 9])
     (.cond (.t 9)
      (.skip)
      (.exit 0)))
    (.seq (.block 1 (.reg none [⟨(some 12), none, .mv (.t 3)⟩,
        ⟨(some 13), none, .fa 2 (.t 1)⟩,
        ⟨(some 14), none, .ld false 1 (.t 13)⟩,
        ⟨(some 15), none, .mv (.t 4)⟩,
        ⟨(some 16), none, .ia 2 (.t 14) (.t 15)⟩,
        ⟨(some 17), none, .fa 1 (.t 16)⟩,
        ⟨(some 18), none, .ld false 1 (.t 17)⟩,
        ⟨(some 19), none, .len false (.t 18)⟩,
        ⟨(some 20), none, .bin .add .i (.t 12) (.t 19)⟩,
        ⟨(some 3), none, .mv (.t 20)⟩] [1, 3, 4]))
    (.reg none [⟨(some 10), none, .mv (.t 4)⟩,
      ⟨(some 11), none, .bin .add .i (.t 10) (.k (V.i 1))⟩,
      ⟨(some 4), none, .mv (.t 11)⟩] [1, 3, 4])))))
  (.seq (.reg none [⟨(some 21), none, .mv (.t 3)⟩,
     ⟨(some 2), none, .mv (.t 21)⟩] [2])
  (.ret))))
def rv25 : List RV := [.t 2]
open Go.Proofs Go.IntWalk
set_option linter.unusedVariables false
set_option maxRecDepth 100000
set_option maxHeartbeats 4000000
def S_CountWait_l1 (g : G) (t : TE) : List Inlet → Int → Int
  | [], v1 =>
    v1
  | z1 :: ls1, v1 =>
    S_CountWait_l1 g t ls1 (g.wrap .i64 (g.add v1 (g.llen (t.r_Item z1.Wait))))
def S_CountWait (g : G) (t : TE) (a0 : Centre) : Int :=
  lP (S_CountWait_l1 g t a0.Inlets 0) fun y1 =>
  y1
theorem fit25 : codeFit Try.prog Try.f25.ntmps (Try.f25.body.getD .skip) ir25 = true := by kernel_rfl
theorem c_S_CountWait {g : G} {t : TE} {a0 : Centre} {r : Int} (hg : g = G.real) (ht : t = TE.real) (h : S_CountWait g t a0 = r) : Fn Try.prog 25 [.g (Centre.rs t a0)] (.c (.r (.v (.int .i64 r)))) := by
  obtain ⟨X, hX⟩ := hide (.c (.r (.v (.int .i64 r))) : X)
  rw [← hX]
  refine fn_of (rvs := rv25) (j := ir25) Try.func25 rfl fit25 (Nat.le_of_ble_eq_true rfl) (by kernel_rfl) prog_mixed ?_
  intro g2 F hg2 hF
  obtain rfl : g2 = g := hg2.unique.trans hg.symm
  clear hg2
  obtain ⟨wrap, lt, le, eq, quo, rem, band, bor, bxor, shl, shr, nat, int, add, sub, mul, cat, seq, slt, sub3, byte, llen, nadd, nsub, dlen, dapp, dset, drep, rd, rda, up, rsub, dsub, all, sle, slen, hasI, putI, hasS, putS, imin, imax, fzc⟩ := g2
  obtain ⟨r_Item, d_Item, r_Chute, d_Chute, r_Inlet, d_Inlet, r_I64, d_I64, r_U8, d_U8⟩ := t
  obtain ⟨a0_Belt, a0_Chutes, a0_Inlets, a0_Plan, a0_Now⟩ := a0
  unfold S_CountWait at h
  try dsimp only at h
  cbv
  obtain ⟨o1, ho1, h⟩ := of_lP h
  try dsimp only at h
  try rw [hg] at ho1
  try rw [ht] at ho1
  refine ABL.mk { p : Nat × Int × Int // p.1 ≤ a0_Inlets.length ∧ p.2.1 = ((p.1 : Nat) : Int) ∧ S_CountWait_l1 G.real TE.real (List.drop p.1 a0_Inlets) p.2.2 = o1 } (fun ⟨⟨k1, v2, v1⟩, _⟩ => ({ sl := [(1, .c (.p 0 5 0 0)), (3, .c (.r (.v (.int .i64 v1)))), (4, .c (.r (.v (.int .i64 v2))))], tab := [(0, some (.foc 5 [] [.r (.s 2 (r_Item a0_Belt)), .r (.s 3 (r_Chute a0_Chutes)), .r (.s 2 (r_Inlet a0_Inlets)), .r (.s 1 (r_I64 a0_Plan)), .r (.v (.int .i64 a0_Now))] []))] } : St)) 1 (fun p => a0_Inlets.length - p.1.1) ⟨(0, 0, 0), Nat.zero_le _, rfl, ho1⟩ (Int) (fun y1 => ({ sl := [(3, .c (.r (.v (.int .i64 y1))))], tab := [] } : St)) 0 (fun y => o1 = y) ?_ ?_ ?_
  · refine Wk.of [(0, some 0)] rfl rfl ?_ ?_
    · cbv
      all_goals exact ⟨⟨_, rfl, rfl⟩, ⟨_, rfl, rfl⟩, ⟨_, rfl, rfl⟩, trivial⟩
    · cbv
      all_goals exact ⟨⟨_, rfl, _, rfl, rfl, rfl, rfl, rfl, rfl, trivial⟩, trivial⟩
  · rintro ⟨⟨k1, v2, v1⟩, hk1, hi1, h_1⟩ hq1
    have hm1 := (hq1.2.2.1 0 _ _ _ _ 2 _ _ rfl rfl)
    try dsimp only at hk1 hi1 h_1
    clear hq1
    cbv
    by_cases hc1_ : k1 < a0_Inlets.length
    · have hb1 : lt v2 (llen (r_Inlet a0_Inlets)) = true := ltL_true_Inlet hg ht hi1 hc1_
      have hs1 := stepL_Inlet hg ht hi1 hc1_ hm1
      obtain ⟨z1, hz1⟩ := some_of_lt hc1_
      rw [drop_of_some hz1] at h_1
      rw [S_CountWait_l1] at h_1
      obtain ⟨z1_Cell, z1_Wait⟩ := z1
      try rw [← hg] at h_1
      try rw [← ht] at h_1
      try dsimp only at h_1
      rw [hb1]
      cbv
      refine AStep.mk (nn_L hi1) ?_
      cbv
      refine AGet.mk _ (r_getL_Inlet hg ht hi1 hz1) ?_
      cbv
      try rw [hg] at h_1
      try rw [ht] at h_1
      refine ⟨⟨(k1 + 1, (wrap .i64 (add v2 1)), (wrap .i64 (add v1 (llen (r_Item z1_Wait))))), hc1_, hs1, h_1⟩, Wk.of [(0, some 0)] rfl rfl ?_ ?_, meas_L hc1_⟩
      · cbv
        all_goals exact ⟨⟨_, rfl, rfl⟩, ⟨_, rfl, rfl⟩, ⟨_, rfl, rfl⟩, trivial⟩
      · cbv
        all_goals exact ⟨⟨_, rfl, _, rfl, rfl, rfl, rfl, rfl, rfl, trivial⟩, trivial⟩
    · have hb1 : lt v2 (llen (r_Inlet a0_Inlets)) = false := ltL_false_Inlet hg ht hi1 hc1_
      rw [List.drop_of_length_le (Nat.le_of_not_lt hc1_)] at h_1
      rw [S_CountWait_l1] at h_1
      try rw [← hg] at h_1
      try rw [← ht] at h_1
      try dsimp only at h_1
      rw [hb1]
      cbv
      refine ⟨v1, Wk.of [] rfl rfl ?_ ?_, h_1.symm⟩
      · cbv
        all_goals exact ⟨⟨_, rfl, rfl⟩, trivial⟩
      · cbv
        all_goals exact trivial
  · rintro y1 hy1
    replace hy1 := hy1.symm
    subst hy1
    try dsimp only [lr, lrL, lrp, lrpL] at h
    cbv
    subst h
    exact ARet.mk trivial hX.symm
end Go.Vs
namespace Go.Vs
set_option maxRecDepth 100000
def ir29 : J :=
  .seq (.reg none [⟨(some 1), none, .box (.t 0)⟩,
     ⟨(some 2), none, .mv (.k (V.i 0))⟩] [1])
  (.seq (.reg none [⟨(some 3), none, .mv (.k (V.i 0))⟩] [1, 3])
  (.seq (.seq (.reg none [⟨(some 4), none, .mv (.k (V.i 0))⟩] [1, 3, 4])
   (.bl 0 (.seq (.seq (.reg none [⟨(some 5), none, .mv (.t 4)⟩,
        ⟨(some 6), none, .fa 0 (.t 1)⟩,
        ⟨(some 7), none, .ld false 1 (.t 6)⟩,
        ⟨(some 8), none, .len false (.t 7)⟩,
        ⟨(some 9), none, .bin .lss .i (.t 5) (.t 8)⟩] [1, 3, 4, 9])
     (.cond (.t 9)
      (.skip)
      (.exit 0)))
    (.seq (.block 1 (.seq (.reg none [⟨(some 12), none, .fa 0 (.t 1)⟩,
         ⟨(some 13), none, .ld false 1 (.t 12)⟩,
         ⟨(some 14), none, .mv (.t 4)⟩,
         ⟨(some 15), none, .ia 2 (.t 13) (.t 14)⟩,
         ⟨(some 16), none, .fa 0 (.t 15)⟩,
         ⟨(some 17), none, .ld false 1 (.t 16)⟩,
         ⟨(some 18), none, .bin .neq .i (.t 17) (.k (V.i 0))⟩] [1, 3, 4, 18])
      (.cond (.t 18)
       (.reg none [⟨(some 19), none, .mv (.t 3)⟩,
          ⟨(some 20), none, .bin .add .i (.t 19) (.k (V.i 1))⟩,
          ⟨(some 3), none, .mv (.t 20)⟩] [1, 3, 4])
       (.skip))))
    (.reg none [⟨(some 10), none, .mv (.t 4)⟩,
      ⟨(some 11), none, .bin .add .i (.t 10) (.k (V.i 1))⟩,
      ⟨(some 4), none, .mv (.t 11)⟩] [1, 3, 4])))))
  (.seq (.reg none [⟨(some 21), none, .mv (.t 3)⟩,
     ⟨(some 2), none, .mv (.t 21)⟩] [2])
  (.ret))))
def rv29 : List RV := [.t 2]
open Go.Proofs Go.IntWalk
set_option linter.unusedVariables false
set_option maxRecDepth 100000
set_option maxHeartbeats 4000000
def S_CountBelt_l1 (g : G) (t : TE) : List Item → Int → Int
  | [], v1 =>
    v1
  | z1 :: ls1, v1 =>
    br (g.eq z1.Id 0)
    (
     S_CountBelt_l1 g t ls1 v1)
    (
     S_CountBelt_l1 g t ls1 (g.wrap .i64 (g.add v1 1)))
def S_CountBelt (g : G) (t : TE) (a0 : Centre) : Int :=
  lP (S_CountBelt_l1 g t a0.Belt 0) fun y1 =>
  y1
theorem fit29 : codeFit Try.prog Try.f29.ntmps (Try.f29.body.getD .skip) ir29 = true := by kernel_rfl
theorem c_S_CountBelt {g : G} {t : TE} {a0 : Centre} {r : Int} (hg : g = G.real) (ht : t = TE.real) (h : S_CountBelt g t a0 = r) : Fn Try.prog 29 [.g (Centre.rs t a0)] (.c (.r (.v (.int .i64 r)))) := by
  obtain ⟨X, hX⟩ := hide (.c (.r (.v (.int .i64 r))) : X)
  rw [← hX]
  refine fn_of (rvs := rv29) (j := ir29) Try.func29 rfl fit29 (Nat.le_of_ble_eq_true rfl) (by kernel_rfl) prog_mixed ?_
  intro g2 F hg2 hF
  obtain rfl : g2 = g := hg2.unique.trans hg.symm
  clear hg2
  obtain ⟨wrap, lt, le, eq, quo, rem, band, bor, bxor, shl, shr, nat, int, add, sub, mul, cat, seq, slt, sub3, byte, llen, nadd, nsub, dlen, dapp, dset, drep, rd, rda, up, rsub, dsub, all, sle, slen, hasI, putI, hasS, putS, imin, imax, fzc⟩ := g2
  obtain ⟨r_Item, d_Item, r_Chute, d_Chute, r_Inlet, d_Inlet, r_I64, d_I64, r_U8, d_U8⟩ := t
  obtain ⟨a0_Belt, a0_Chutes, a0_Inlets, a0_Plan, a0_Now⟩ := a0
  unfold S_CountBelt at h
  try dsimp only at h
  cbv
  obtain ⟨o1, ho1, h⟩ := of_lP h
  try dsimp only at h
  try rw [hg] at ho1
  try rw [ht] at ho1
  refine ABL.mk { p : Nat × Int × Int // p.1 ≤ a0_Belt.length ∧ p.2.1 = ((p.1 : Nat) : Int) ∧ S_CountBelt_l1 G.real TE.real (List.drop p.1 a0_Belt) p.2.2 = o1 } (fun ⟨⟨k1, v2, v1⟩, _⟩ => ({ sl := [(1, .c (.p 0 5 0 0)), (3, .c (.r (.v (.int .i64 v1)))), (4, .c (.r (.v (.int .i64 v2))))], tab := [(0, some (.foc 5 [] [.r (.s 2 (r_Item a0_Belt)), .r (.s 3 (r_Chute a0_Chutes)), .r (.s 2 (r_Inlet a0_Inlets)), .r (.s 1 (r_I64 a0_Plan)), .r (.v (.int .i64 a0_Now))] []))] } : St)) 1 (fun p => a0_Belt.length - p.1.1) ⟨(0, 0, 0), Nat.zero_le _, rfl, ho1⟩ (Int) (fun y1 => ({ sl := [(3, .c (.r (.v (.int .i64 y1))))], tab := [] } : St)) 0 (fun y => o1 = y) ?_ ?_ ?_
  · refine Wk.of [(0, some 0)] rfl rfl ?_ ?_
    · cbv
      all_goals exact ⟨⟨_, rfl, rfl⟩, ⟨_, rfl, rfl⟩, ⟨_, rfl, rfl⟩, trivial⟩
    · cbv
      all_goals exact ⟨⟨_, rfl, _, rfl, rfl, rfl, rfl, rfl, rfl, trivial⟩, trivial⟩
  · rintro ⟨⟨k1, v2, v1⟩, hk1, hi1, h_1⟩ hq1
    have hm1 := (hq1.2.2.1 0 _ _ _ _ 0 _ _ rfl rfl)
    try dsimp only at hk1 hi1 h_1
    clear hq1
    cbv
    by_cases hc1_ : k1 < a0_Belt.length
    · have hb1 : lt v2 (llen (r_Item a0_Belt)) = true := ltL_true_Item hg ht hi1 hc1_
      have hs1 := stepL_Item hg ht hi1 hc1_ hm1
      obtain ⟨z1, hz1⟩ := some_of_lt hc1_
      rw [drop_of_some hz1] at h_1
      rw [S_CountBelt_l1] at h_1
      obtain ⟨z1_Id, z1_Dest⟩ := z1
      try rw [← hg] at h_1
      try rw [← ht] at h_1
      try dsimp only at h_1
      rw [hb1]
      cbv
      refine AStep.mk (nn_L hi1) ?_
      cbv
      refine AGet.mk _ (r_getL_Item hg ht hi1 hz1) ?_
      cbv
      cases hb2 : (eq z1_Id 0) with
      | true =>
        rw [br_true hb2] at h_1
        cbv
        try rw [hg] at h_1
        try rw [ht] at h_1
        refine ⟨⟨(k1 + 1, (wrap .i64 (add v2 1)), v1), hc1_, hs1, h_1⟩, Wk.of [(0, some 0)] rfl rfl ?_ ?_, meas_L hc1_⟩
        · cbv
          all_goals exact ⟨⟨_, rfl, rfl⟩, ⟨_, rfl, rfl⟩, ⟨_, rfl, rfl⟩, trivial⟩
        · cbv
          all_goals exact ⟨⟨_, rfl, _, rfl, rfl, rfl, rfl, rfl, rfl, trivial⟩, trivial⟩
      | false =>
        rw [br_false hb2] at h_1
        cbv
        try rw [hg] at h_1
        try rw [ht] at h_1
        refine ⟨⟨(k1 + 1, (wrap .i64 (add v2 1)), (wrap .i64 (add v1 1))), hc1_, hs1, h_1⟩, Wk.of [(0, some 0)] rfl rfl ?_ ?_, meas_L hc1_⟩
        · cbv
          all_goals exact ⟨⟨_, rfl, rfl⟩, ⟨_, rfl, rfl⟩, ⟨_, rfl, rfl⟩, trivial⟩
        · cbv
          all_goals exact ⟨⟨_, rfl, _, rfl, rfl, rfl, rfl, rfl, rfl, trivial⟩, trivial⟩
    · have hb1 : lt v2 (llen (r_Item a0_Belt)) = false := ltL_false_Item hg ht hi1 hc1_
      rw [List.drop_of_length_le (Nat.le_of_not_lt hc1_)] at h_1
      rw [S_CountBelt_l1] at h_1
      try rw [← hg] at h_1
      try rw [← ht] at h_1
      try dsimp only at h_1
      rw [hb1]
      cbv
      refine ⟨v1, Wk.of [] rfl rfl ?_ ?_, h_1.symm⟩
      · cbv
        all_goals exact ⟨⟨_, rfl, rfl⟩, trivial⟩
      · cbv
        all_goals exact trivial
  · rintro y1 hy1
    replace hy1 := hy1.symm
    subst hy1
    try dsimp only [lr, lrL, lrp, lrpL] at h
    cbv
    subst h
    exact ARet.mk trivial hX.symm
end Go.Vs
namespace Go.Vs
set_option maxRecDepth 100000
def ir109 : J :=
  .seq (.reg none [⟨(some 2), none, .mv (.k (.c (.n 2)))⟩] [0])
  (.seq (.reg none [⟨(some 3), none, .bsl 2 []⟩,
     ⟨(some 4), none, .mv (.t 0)⟩,
     ⟨(some 5), none, .app 2 16 false (.t 3) (.t 4)⟩,
     ⟨(some 2), none, .mv (.t 5)⟩] [2])
  (.ret))
def rv109 : List RV := [.t 2]
open Go.Proofs Go.IntWalk
set_option linter.unusedVariables false
set_option maxRecDepth 100000
set_option maxHeartbeats 4000000
def I_copyItems (g : G) (t : TE) (a0 : List Item) : Option (List Item) :=
  lP ([]) fun (l1 : List Item) =>
  gd (((l1.length + a0.length) * 16 ≤ 70368744177664)) <|
  lP (l1 ++ a0) fun (l2 : List Item) =>
  some l2
theorem fit109 : codeFit Try.prog Try.f109.ntmps (Try.f109.body.getD .skip) ir109 = true := by kernel_rfl
theorem c_I_copyItems {g : G} {t : TE} {a0 : List Item} {r : List Item} (hg : g = G.real) (ht : t = TE.real) (h : I_copyItems g t a0 = some r) : Fn Try.prog 109 [.c (.s 2 (t.r_Item a0))] (.c (.o 2 (t.d_Item r))) := by
  obtain ⟨X, hX⟩ := hide (.c (.o 2 (t.d_Item r)) : X)
  rw [← hX]
  refine fn_of (rvs := rv109) (j := ir109) Try.func109 rfl fit109 (Nat.le_of_ble_eq_true rfl) (by kernel_rfl) prog_mixed ?_
  intro g2 F hg2 hF
  obtain rfl : g2 = g := hg2.unique.trans hg.symm
  clear hg2
  obtain ⟨wrap, lt, le, eq, quo, rem, band, bor, bxor, shl, shr, nat, int, add, sub, mul, cat, seq, slt, sub3, byte, llen, nadd, nsub, dlen, dapp, dset, drep, rd, rda, up, rsub, dsub, all, sle, slen, hasI, putI, hasS, putS, imin, imax, fzc⟩ := g2
  obtain ⟨r_Item, d_Item, r_Chute, d_Chute, r_Inlet, d_Inlet, r_I64, d_I64, r_U8, d_U8⟩ := t
  unfold I_copyItems at h
  try dsimp only at h
  cbv
  obtain ⟨l1, hl1, h⟩ := of_lP h
  try dsimp only at h
  refine ANew.mk (d_Item l1) (dlen (d_Item l1)) (by rw [← hl1]; exact lit_Item hg ht []) (by rw [← hl1]; exact litn_Item hg ht []) ?_
  cbv
  obtain ⟨hc1, h⟩ := of_gd h
  refine AStep.mk (app_ok_Item hg ht (dlen_Item hg ht _) (up_Item hg ht _) hc1) ?_
  cbv
  obtain ⟨l2, hl2, h⟩ := of_lP h
  try dsimp only at h
  refine ANew.mk (d_Item l2) (dlen (d_Item l2)) (by rw [← hl2]; exact app_Item hg ht (dlen_Item hg ht _) (up_Item hg ht _)) (by rw [← hl2]; exact appl_Item hg ht (dlen_Item hg ht _) (up_Item hg ht _)) ?_
  cbv
  obtain rfl := Option.some.inj h
  exact ARet.mk ⟨rfl, (dlen_Item hg ht _)⟩ hX.symm
end Go.Vs
namespace Go.Vs
set_option maxRecDepth 100000
def ir94 : J :=
  .seq (.reg none [⟨(some 1), none, .box (.t 0)⟩,
     ⟨(some 2), none, .alloc [.n 2, .n 3, .n 2, .n 1, .r (.v (.int .i64 0))]⟩] [1, 2])
  (.seq (.reg (some [[], [0], [0, 1], [], [], [4], [0, 1, 2, 3, 4, 5], [], [7], [0, 1, 2, 3, 4, 5, 6, 7, 8], [], [0, 1, 2, 3, 4, 5, 6, 7, 8, 9, 10]]) [⟨(some 8), none, .fa 0 (.t 1)⟩,
     ⟨(some 9), none, .ld false 1 (.t 8)⟩,
     ⟨(some 10), none, .call 109 true [(.t 9)]⟩,
     ⟨(some 11), none, .bsl 1 []⟩,
     ⟨(some 12), none, .fa 3 (.t 1)⟩,
     ⟨(some 13), none, .ld false 1 (.t 12)⟩,
     ⟨(some 14), none, .app 1 8 false (.t 11) (.t 13)⟩,
     ⟨(some 15), none, .fa 4 (.t 1)⟩,
     ⟨(some 16), none, .ld false 1 (.t 15)⟩,
     ⟨(some 17), none, .bld [.n 2, .n 3, .n 2, .n 1, .r (.v (.int .i64 0))] [(0, 1, (.t 10)), (3, 1, (.t 14)), (4, 1, (.t 16))]⟩,
     ⟨(some 3), none, .alloc [.n 2, .n 3, .n 2, .n 1, .r (.v (.int .i64 0))]⟩,
     ⟨none, none, .st 5 (.t 3) (.t 17)⟩] [1, 2, 3])
  (.seq (.seq (.reg none [⟨(some 18), none, .fa 1 (.t 1)⟩,
      ⟨(some 19), none, .ld false 1 (.t 18)⟩,
      ⟨(some 20), none, .len false (.t 19)⟩,
      ⟨(some 21), none, .mv (.k (V.i 0))⟩] [1, 2, 3, 19, 20, 21])
   (.bl 0 (.seq (.reg none [⟨(some 22), none, .bin .lss .i (.t 21) (.t 20)⟩] [1, 2, 3, 19, 20, 21, 22])
    (.seq (.cond (.t 22)
      (.skip)
      (.exit 0))
    (.seq (.block 1 (.seq (.reg none [⟨(some 23), none, .ia 3 (.t 19) (.t 21)⟩,
         ⟨(some 24), none, .ld true 3 (.t 23)⟩,
         ⟨(some 5), none, .alloc [.r (.v (.int .i64 0)), .r (.v (.int .i64 0)), .n 2]⟩,
         ⟨none, none, .st 3 (.t 5) (.t 24)⟩] [1, 2, 3, 5, 19, 20, 21])
      (.reg (some [[], [0], [], [2], [], [4], [], [6], [6, 7], [2, 3, 4, 5, 6, 7, 8], [2, 3, 4, 5, 6, 7, 8, 9], [0, 1, 2, 3, 4, 5, 6, 7, 8, 9, 10], [0, 1, 2, 3, 4, 5, 6, 7, 8, 9, 10, 11], [0, 1, 2, 3, 4, 5, 6, 7, 8, 9, 10, 11, 12]]) [⟨(some 25), none, .fa 1 (.t 3)⟩,
        ⟨(some 26), none, .ld false 1 (.t 25)⟩,
        ⟨(some 27), none, .fa 0 (.t 5)⟩,
        ⟨(some 28), none, .ld false 1 (.t 27)⟩,
        ⟨(some 29), none, .fa 1 (.t 5)⟩,
        ⟨(some 30), none, .ld false 1 (.t 29)⟩,
        ⟨(some 31), none, .fa 2 (.t 5)⟩,
        ⟨(some 32), none, .ld false 1 (.t 31)⟩,
        ⟨(some 33), none, .call 109 true [(.t 32)]⟩,
        ⟨(some 34), none, .bld [.r (.v (.int .i64 0)), .r (.v (.int .i64 0)), .n 2] [(0, 1, (.t 28)), (1, 1, (.t 30)), (2, 1, (.t 33))]⟩,
        ⟨(some 35), none, .bsl 3 [(.t 34)]⟩,
        ⟨(some 36), none, .app 3 40 true (.t 26) (.t 35)⟩,
        ⟨(some 37), none, .fa 1 (.t 3)⟩,
        ⟨none, none, .st 1 (.t 37) (.t 36)⟩] [1, 2, 3, 19, 20, 21])))
    (.reg none [⟨(some 38), none, .bin .add .i (.t 21) (.k (V.i 1))⟩,
      ⟨(some 21), none, .mv (.t 38)⟩] [1, 2, 3, 19, 20, 21]))))))
  (.seq (.seq (.reg none [⟨(some 39), none, .fa 2 (.t 1)⟩,
      ⟨(some 40), none, .ld false 1 (.t 39)⟩,
      ⟨(some 41), none, .len false (.t 40)⟩,
      ⟨(some 42), none, .mv (.k (V.i 0))⟩] [2, 3, 40, 41, 42])
   (.bl 2 (.seq (.reg none [⟨(some 43), none, .bin .lss .i (.t 42) (.t 41)⟩] [2, 3, 40, 41, 42, 43])
    (.seq (.cond (.t 43)
      (.skip)
      (.exit 2))
    (.seq (.block 3 (.seq (.reg none [⟨(some 44), none, .ia 2 (.t 40) (.t 42)⟩,
         ⟨(some 45), none, .ld true 2 (.t 44)⟩,
         ⟨(some 7), none, .alloc [.r (.v (.int .i64 0)), .n 2]⟩,
         ⟨none, none, .st 2 (.t 7) (.t 45)⟩] [2, 3, 7, 40, 41, 42])
      (.reg (some [[], [0], [], [2], [], [4], [4, 5], [2, 3, 4, 5, 6], [2, 3, 4, 5, 6, 7], [0, 1, 2, 3, 4, 5, 6, 7, 8], [0, 1, 2, 3, 4, 5, 6, 7, 8, 9], [0, 1, 2, 3, 4, 5, 6, 7, 8, 9, 10]]) [⟨(some 46), none, .fa 2 (.t 3)⟩,
        ⟨(some 47), none, .ld false 1 (.t 46)⟩,
        ⟨(some 48), none, .fa 0 (.t 7)⟩,
        ⟨(some 49), none, .ld false 1 (.t 48)⟩,
        ⟨(some 50), none, .fa 1 (.t 7)⟩,
        ⟨(some 51), none, .ld false 1 (.t 50)⟩,
        ⟨(some 52), none, .call 109 true [(.t 51)]⟩,
        ⟨(some 53), none, .bld [.r (.v (.int .i64 0)), .n 2] [(0, 1, (.t 49)), (1, 1, (.t 52))]⟩,
        ⟨(some 54), none, .bsl 2 [(.t 53)]⟩,
        ⟨(some 55), none, .app 2 32 true (.t 47) (.t 54)⟩,
        ⟨(some 56), none, .fa 2 (.t 3)⟩,
        ⟨none, none, .st 1 (.t 56) (.t 55)⟩] [2, 3, 40, 41, 42])))
    (.reg none [⟨(some 57), none, .bin .add .i (.t 42) (.k (V.i 1))⟩,
      ⟨(some 42), none, .mv (.t 57)⟩] [2, 3, 40, 41, 42]))))))
  (.seq (.reg none [⟨(some 58), none, .ld true 5 (.t 3)⟩,
     ⟨none, none, .st 5 (.t 2) (.t 58)⟩] [2])
  (.ret)))))
def rv94 : List RV := [.c 2 true 5]
open Go.Proofs Go.IntWalk
set_option linter.unusedVariables false
set_option maxRecDepth 100000
set_option maxHeartbeats 4000000
def I_copyCentre_l2 (g : G) (t : TE) : List Inlet → List Inlet → Option (List Inlet)
  | [], w2 =>
    some w2
  | z2 :: ls2, w2 =>
    cl (I_copyItems g t z2.Wait) fun x3 =>
    lP ([(Inlet.mk z2.Cell x3)]) fun (l5 : List Inlet) =>
    gd (((w2.length + l5.length) * 32 ≤ 70368744177664)) <|
    lP (w2 ++ l5) fun (l6 : List Inlet) =>
    I_copyCentre_l2 g t ls2 l6
def I_copyCentre_l1 (g : G) (t : TE) : List Chute → List Chute → Option (List Chute)
  | [], w1 =>
    some w1
  | z1 :: ls1, w1 =>
    cl (I_copyItems g t z1.Held) fun x2 =>
    lP ([(Chute.mk z1.Cell z1.Room x2)]) fun (l3 : List Chute) =>
    gd (((w1.length + l3.length) * 40 ≤ 70368744177664)) <|
    lP (w1 ++ l3) fun (l4 : List Chute) =>
    I_copyCentre_l1 g t ls1 l4
def I_copyCentre (g : G) (t : TE) (a0 : Centre) : Option Centre :=
  cl (I_copyItems g t a0.Belt) fun x1 =>
  lP ([]) fun (l1 : List Int) =>
  gd (((l1.length + a0.Plan.length) * 8 ≤ 70368744177664)) <|
  lP (l1 ++ a0.Plan) fun (l2 : List Int) =>
  cl (I_copyCentre_l1 g t a0.Chutes []) fun y1 =>
  cl (I_copyCentre_l2 g t a0.Inlets []) fun y2 =>
  some (Centre.mk x1 y1 y2 l2 a0.Now)
theorem fit94 : codeFit Try.prog Try.f94.ntmps (Try.f94.body.getD .skip) ir94 = true := by kernel_rfl
theorem c_I_copyCentre {g : G} {t : TE} {a0 : Centre} {r : Centre} (hg : g = G.real) (ht : t = TE.real) (h : I_copyCentre g t a0 = some r) : Fn Try.prog 94 [.g (Centre.rs t a0)] (.g (Centre.ds t r)) := by
  obtain ⟨X, hX⟩ := hide (.g (Centre.ds t r) : X)
  rw [← hX]
  refine fn_of (rvs := rv94) (j := ir94) Try.func94 rfl fit94 (Nat.le_of_ble_eq_true rfl) (by kernel_rfl) prog_mixed ?_
  intro g2 F hg2 hF
  obtain rfl : g2 = g := hg2.unique.trans hg.symm
  clear hg2
  obtain ⟨wrap, lt, le, eq, quo, rem, band, bor, bxor, shl, shr, nat, int, add, sub, mul, cat, seq, slt, sub3, byte, llen, nadd, nsub, dlen, dapp, dset, drep, rd, rda, up, rsub, dsub, all, sle, slen, hasI, putI, hasS, putS, imin, imax, fzc⟩ := g2
  obtain ⟨r_Item, d_Item, r_Chute, d_Chute, r_Inlet, d_Inlet, r_I64, d_I64, r_U8, d_U8⟩ := t
  obtain ⟨a0_Belt, a0_Chutes, a0_Inlets, a0_Plan, a0_Now⟩ := a0
  have hnil_Item : d_Item [] = [] := d_nil_Item ht
  have hnil_Chute : d_Chute [] = [] := d_nil_Chute ht
  have hnil_Inlet : d_Inlet [] = [] := d_nil_Inlet ht
  have hnil_I64 : d_I64 [] = [] := d_nil_I64 ht
  have hnil_U8 : d_U8 [] = [] := d_nil_U8 ht
  unfold I_copyCentre at h
  try dsimp only at h
  cbv
  obtain ⟨x1, hx1, h⟩ := of_cl h
  try dsimp only at h
  refine ACall.mk _ _ rfl (hF _ _ _ (c_I_copyItems hg ht hx1)) (.inl rfl) (Nat.le_of_ble_eq_true rfl) ?_
  cbv
  obtain ⟨l1, hl1, h⟩ := of_lP h
  try dsimp only at h
  refine ANew.mk (d_I64 l1) (dlen (d_I64 l1)) (by rw [← hl1]; exact lit_I64 hg ht []) (by rw [← hl1]; exact litn_I64 hg ht []) ?_
  cbv
  obtain ⟨hc3, h⟩ := of_gd h
  refine AStep.mk (app_ok_I64 hg ht (dlen_I64 hg ht _) (up_I64 hg ht _) hc3) ?_
  cbv
  obtain ⟨l2, hl2, h⟩ := of_lP h
  try dsimp only at h
  refine ANew.mk (d_I64 l2) (dlen (d_I64 l2)) (by rw [← hl2]; exact app_I64 hg ht (dlen_I64 hg ht _) (up_I64 hg ht _)) (by rw [← hl2]; exact appl_I64 hg ht (dlen_I64 hg ht _) (up_I64 hg ht _)) ?_
  cbv
  obtain ⟨o1, ho1, h⟩ := of_cl h
  try dsimp only at h
  try rw [hg] at ho1
  try rw [ht] at ho1
  refine ABL.mk { p : Nat × Int × List Chute // p.1 ≤ a0_Chutes.length ∧ p.2.1 = ((p.1 : Nat) : Int) ∧ I_copyCentre_l1 G.real TE.real (List.drop p.1 a0_Chutes) p.2.2 = some o1 } (fun ⟨⟨k1, v1, w1⟩, _⟩ => ({ sl := [(1, .c (.p 0 5 0 0)), (2, .c (.p 1 5 0 0)), (3, .c (.p 2 5 0 0)), (19, .c (.r (.s 3 (r_Chute a0_Chutes)))), (20, .c (.r (.v (.int .i64 (llen (r_Chute a0_Chutes)))))), (21, .c (.r (.v (.int .i64 v1))))], tab := [(0, some (.foc 5 [] [.r (.s 2 (r_Item a0_Belt)), .r (.s 3 (r_Chute a0_Chutes)), .r (.s 2 (r_Inlet a0_Inlets)), .r (.s 1 (r_I64 a0_Plan)), .r (.v (.int .i64 a0_Now))] [])), (1, some (.foc 5 [] [.n 2, .n 3, .n 2, .n 1, .r (.v (.int .i64 0))] [])), (2, some (.foc 5 [] [.f 3 2 0 (dlen (d_Item x1)), .f 4 3 0 (dlen (d_Chute w1)), .n 2, .f 5 1 0 (dlen (d_I64 l2)), .r (.v (.int .i64 a0_Now))] [])), (3, some (.arr 2 (d_Item x1))), (4, some (.arr 3 (d_Chute w1))), (5, some (.arr 1 (d_I64 l2)))] } : St)) 6 (fun p => a0_Chutes.length - p.1.1) ⟨(0, 0, []), Nat.zero_le _, rfl, ho1⟩ (List Chute) (fun y1 => ({ sl := [(1, .c (.p 0 5 0 0)), (2, .c (.p 1 5 0 0)), (3, .c (.p 2 5 0 0))], tab := [(0, some (.foc 5 [] [.r (.s 2 (r_Item a0_Belt)), .r (.s 3 (r_Chute a0_Chutes)), .r (.s 2 (r_Inlet a0_Inlets)), .r (.s 1 (r_I64 a0_Plan)), .r (.v (.int .i64 a0_Now))] [])), (1, some (.foc 5 [] [.n 2, .n 3, .n 2, .n 1, .r (.v (.int .i64 0))] [])), (2, some (.foc 5 [] [.f 3 2 0 (dlen (d_Item x1)), .f 4 3 0 (dlen (d_Chute y1)), .n 2, .f 5 1 0 (dlen (d_I64 l2)), .r (.v (.int .i64 a0_Now))] [])), (3, some (.arr 2 (d_Item x1))), (4, some (.arr 3 (d_Chute y1))), (5, some (.arr 1 (d_I64 l2)))] } : St)) 6 (fun y => o1 = y) ?_ ?_ ?_
  · refine Wk.of [(0, some 0), (1, some 16), (2, some 192), (3, some 64), (4, none), (5, some 128)] rfl rfl ?_ ?_
    · cbv
      all_goals try rw [show dlen (d_Chute []) = 0 from dlen_nil_Chute hg ht]
      all_goals try rw [hnil_Chute]
      all_goals exact ⟨⟨_, rfl, rfl⟩, ⟨_, rfl, rfl⟩, ⟨_, rfl, rfl⟩, ⟨_, rfl, rfl⟩, ⟨_, rfl, rfl⟩, ⟨_, rfl, rfl⟩, trivial⟩
    · cbv
      all_goals try rw [show dlen (d_Chute []) = 0 from dlen_nil_Chute hg ht]
      all_goals try rw [hnil_Chute]
      all_goals exact ⟨⟨_, rfl, _, rfl, rfl, rfl, rfl, rfl, rfl, trivial⟩, ⟨_, rfl, _, rfl, rfl, rfl, rfl, rfl, rfl, trivial⟩, ⟨_, rfl, _, rfl, rfl, ⟨⟨_, rfl⟩, rfl, rfl⟩, rfl, rfl, rfl, trivial⟩, ⟨_, rfl, rfl⟩, ⟨_, rfl⟩, ⟨_, rfl, rfl⟩, trivial⟩
  · rintro ⟨⟨k1, v1, w1⟩, hk1, hi1, h_1⟩ hq1
    have hm1 := (hq1.1 19 _ _ rfl)
    try dsimp only at hk1 hi1 h_1
    clear hq1
    cbv
    by_cases hc1_ : k1 < a0_Chutes.length
    · have hb1 : lt v1 (llen (r_Chute a0_Chutes)) = true := ltL_true_Chute hg ht hi1 hc1_
      have hs1 := stepL_Chute hg ht hi1 hc1_ hm1
      obtain ⟨z1, hz1⟩ := some_of_lt hc1_
      rw [drop_of_some hz1] at h_1
      rw [I_copyCentre_l1] at h_1
      obtain ⟨z1_Cell, z1_Room, z1_Held⟩ := z1
      try rw [← hg] at h_1
      try rw [← ht] at h_1
      try dsimp only at h_1
      rw [hb1]
      cbv
      refine AStep.mk (nn_L hi1) ?_
      cbv
      refine AGet.mk _ (r_getL_Chute hg ht hi1 hz1) ?_
      cbv
      obtain ⟨x2, hx2, h_1⟩ := of_cl h_1
      try dsimp only at h_1
      refine ACall.mk _ _ rfl (hF _ _ _ (c_I_copyItems hg ht hx2)) (.inl rfl) (Nat.le_of_ble_eq_true rfl) ?_
      cbv
      refine AStep.mk ⟨rfl, (dlen_Item hg ht _)⟩ ?_
      cbv
      obtain ⟨l3, hl3, h_1⟩ := of_lP h_1
      try dsimp only at h_1
      refine ANew.mk (d_Chute l3) (dlen (d_Chute l3)) (by rw [← hl3]; have e := lit_Chute hg ht [(Chute.mk z1_Cell z1_Room x2)]; dsimp only [List.map, Chute.ds] at e; (try simp only [hnil_Item, hnil_Chute, hnil_Inlet, hnil_I64, hnil_U8] at e); exact e) (by rw [← hl3]; exact litn_Chute hg ht [(Chute.mk z1_Cell z1_Room x2)]) ?_
      cbv
      obtain ⟨hc1, h_1⟩ := of_gd h_1
      refine AStep.mk ⟨⟨rfl, (dlen_Chute hg ht _)⟩, (app_ok_Chute hg ht (dlen_Chute hg ht _) rfl hc1)⟩ ?_
      cbv
      obtain ⟨l4, hl4, h_1⟩ := of_lP h_1
      try dsimp only at h_1
      refine ANew.mk (d_Chute l4) (dlen (d_Chute l4)) (by rw [← hl4]; exact app_Chute hg ht (dlen_Chute hg ht _) rfl) (by rw [← hl4]; exact appl_Chute hg ht (dlen_Chute hg ht _) rfl) ?_
      cbv
      try rw [hg] at h_1
      try rw [ht] at h_1
      refine ⟨⟨(k1 + 1, (wrap .i64 (add v1 1)), l4), hc1_, hs1, h_1⟩, Wk.of [(0, some 0), (1, some 1), (2, some 2), (3, some 3), (4, some 262), (5, some 5)] rfl rfl ?_ ?_, meas_L hc1_⟩
      · cbv
        all_goals exact ⟨⟨_, rfl, rfl⟩, ⟨_, rfl, rfl⟩, ⟨_, rfl, rfl⟩, ⟨_, rfl, rfl⟩, ⟨_, rfl, rfl⟩, ⟨_, rfl, rfl⟩, trivial⟩
      · cbv
        all_goals exact ⟨⟨_, rfl, _, rfl, rfl, rfl, rfl, rfl, rfl, trivial⟩, ⟨_, rfl, _, rfl, rfl, rfl, rfl, rfl, rfl, trivial⟩, ⟨_, rfl, _, rfl, rfl, rfl, rfl, rfl, rfl, trivial⟩, ⟨_, rfl, rfl⟩, ⟨_, rfl, rfl⟩, ⟨_, rfl, rfl⟩, trivial⟩
    · have hb1 : lt v1 (llen (r_Chute a0_Chutes)) = false := ltL_false_Chute hg ht hi1 hc1_
      rw [List.drop_of_length_le (Nat.le_of_not_lt hc1_)] at h_1
      rw [I_copyCentre_l1] at h_1
      try rw [← hg] at h_1
      try rw [← ht] at h_1
      try dsimp only at h_1
      rw [hb1]
      cbv
      refine ⟨w1, Wk.of [(0, some 0), (1, some 1), (2, some 2), (3, some 3), (4, some 4), (5, some 5)] rfl rfl ?_ ?_, (Option.some.inj h_1).symm⟩
      · cbv
        all_goals exact ⟨⟨_, rfl, rfl⟩, ⟨_, rfl, rfl⟩, ⟨_, rfl, rfl⟩, trivial⟩
      · cbv
        all_goals exact ⟨⟨_, rfl, _, rfl, rfl, rfl, rfl, rfl, rfl, trivial⟩, ⟨_, rfl, _, rfl, rfl, rfl, rfl, rfl, rfl, trivial⟩, ⟨_, rfl, _, rfl, rfl, rfl, rfl, rfl, rfl, trivial⟩, ⟨_, rfl, rfl⟩, ⟨_, rfl, rfl⟩, ⟨_, rfl, rfl⟩, trivial⟩
  · rintro y1 hy1
    replace hy1 := hy1.symm
    subst hy1
    try dsimp only [lr, lrL, lrp, lrpL] at h
    cbv
    obtain ⟨o2, ho2, h⟩ := of_cl h
    try dsimp only at h
    try rw [hg] at ho2
    try rw [ht] at ho2
    refine ABL.mk { p : Nat × Int × List Inlet // p.1 ≤ a0_Inlets.length ∧ p.2.1 = ((p.1 : Nat) : Int) ∧ I_copyCentre_l2 G.real TE.real (List.drop p.1 a0_Inlets) p.2.2 = some o2 } (fun ⟨⟨k2, v2, w2⟩, _⟩ => ({ sl := [(2, .c (.p 0 5 0 0)), (3, .c (.p 1 5 0 0)), (40, .c (.r (.s 2 (r_Inlet a0_Inlets)))), (41, .c (.r (.v (.int .i64 (llen (r_Inlet a0_Inlets)))))), (42, .c (.r (.v (.int .i64 v2))))], tab := [(0, some (.foc 5 [] [.n 2, .n 3, .n 2, .n 1, .r (.v (.int .i64 0))] [])), (1, some (.foc 5 [] [.f 2 2 0 (dlen (d_Item x1)), .f 3 3 0 (dlen (d_Chute y1)), .f 4 2 0 (dlen (d_Inlet w2)), .f 5 1 0 (dlen (d_I64 l2)), .r (.v (.int .i64 a0_Now))] [])), (2, some (.arr 2 (d_Item x1))), (3, some (.arr 3 (d_Chute y1))), (4, some (.arr 2 (d_Inlet w2))), (5, some (.arr 1 (d_I64 l2)))] } : St)) 6 (fun p => a0_Inlets.length - p.1.1) ⟨(0, 0, []), Nat.zero_le _, rfl, ho2⟩ (List Inlet) (fun y2 => ({ sl := [(2, .c (.p 0 5 0 0)), (3, .c (.p 1 5 0 0))], tab := [(0, some (.foc 5 [] [.n 2, .n 3, .n 2, .n 1, .r (.v (.int .i64 0))] [])), (1, some (.foc 5 [] [.f 2 2 0 (dlen (d_Item x1)), .f 3 3 0 (dlen (d_Chute y1)), .f 4 2 0 (dlen (d_Inlet y2)), .f 5 1 0 (dlen (d_I64 l2)), .r (.v (.int .i64 a0_Now))] [])), (2, some (.arr 2 (d_Item x1))), (3, some (.arr 3 (d_Chute y1))), (4, some (.arr 2 (d_Inlet y2))), (5, some (.arr 1 (d_I64 l2)))] } : St)) 6 (fun y => o2 = y) ?_ ?_ ?_
    · refine Wk.of [(0, some 1), (1, some 2), (2, some 3), (3, some 4), (4, none), (5, some 5)] rfl rfl ?_ ?_
      · cbv
        all_goals try rw [show dlen (d_Inlet []) = 0 from dlen_nil_Inlet hg ht]
        all_goals try rw [hnil_Inlet]
        all_goals exact ⟨⟨_, rfl, rfl⟩, ⟨_, rfl, rfl⟩, ⟨_, rfl, rfl⟩, ⟨_, rfl, rfl⟩, ⟨_, rfl, rfl⟩, trivial⟩
      · cbv
        all_goals try rw [show dlen (d_Inlet []) = 0 from dlen_nil_Inlet hg ht]
        all_goals try rw [hnil_Inlet]
        all_goals exact ⟨⟨_, rfl, _, rfl, rfl, rfl, rfl, rfl, rfl, trivial⟩, ⟨_, rfl, _, rfl, rfl, rfl, ⟨⟨_, rfl⟩, rfl, rfl⟩, rfl, rfl, trivial⟩, ⟨_, rfl, rfl⟩, ⟨_, rfl, rfl⟩, ⟨_, rfl⟩, ⟨_, rfl, rfl⟩, trivial⟩
    · rintro ⟨⟨k2, v2, w2⟩, hk2, hi2, h_2⟩ hq2
      have hm2 := (hq2.1 40 _ _ rfl)
      try dsimp only at hk2 hi2 h_2
      clear hq2
      cbv
      by_cases hc2_ : k2 < a0_Inlets.length
      · have hb2 : lt v2 (llen (r_Inlet a0_Inlets)) = true := ltL_true_Inlet hg ht hi2 hc2_
        have hs2 := stepL_Inlet hg ht hi2 hc2_ hm2
        obtain ⟨z2, hz2⟩ := some_of_lt hc2_
        rw [drop_of_some hz2] at h_2
        rw [I_copyCentre_l2] at h_2
        obtain ⟨z2_Cell, z2_Wait⟩ := z2
        try rw [← hg] at h_2
        try rw [← ht] at h_2
        try dsimp only at h_2
        rw [hb2]
        cbv
        refine AStep.mk (nn_L hi2) ?_
        cbv
        refine AGet.mk _ (r_getL_Inlet hg ht hi2 hz2) ?_
        cbv
        obtain ⟨x3, hx3, h_2⟩ := of_cl h_2
        try dsimp only at h_2
        refine ACall.mk _ _ rfl (hF _ _ _ (c_I_copyItems hg ht hx3)) (.inl rfl) (Nat.le_of_ble_eq_true rfl) ?_
        cbv
        refine AStep.mk ⟨rfl, (dlen_Item hg ht _)⟩ ?_
        cbv
        obtain ⟨l5, hl5, h_2⟩ := of_lP h_2
        try dsimp only at h_2
        refine ANew.mk (d_Inlet l5) (dlen (d_Inlet l5)) (by rw [← hl5]; have e := lit_Inlet hg ht [(Inlet.mk z2_Cell x3)]; dsimp only [List.map, Inlet.ds] at e; (try simp only [hnil_Item, hnil_Chute, hnil_Inlet, hnil_I64, hnil_U8] at e); exact e) (by rw [← hl5]; exact litn_Inlet hg ht [(Inlet.mk z2_Cell x3)]) ?_
        cbv
        obtain ⟨hc2, h_2⟩ := of_gd h_2
        refine AStep.mk ⟨⟨rfl, (dlen_Inlet hg ht _)⟩, (app_ok_Inlet hg ht (dlen_Inlet hg ht _) rfl hc2)⟩ ?_
        cbv
        obtain ⟨l6, hl6, h_2⟩ := of_lP h_2
        try dsimp only at h_2
        refine ANew.mk (d_Inlet l6) (dlen (d_Inlet l6)) (by rw [← hl6]; exact app_Inlet hg ht (dlen_Inlet hg ht _) rfl) (by rw [← hl6]; exact appl_Inlet hg ht (dlen_Inlet hg ht _) rfl) ?_
        cbv
        try rw [hg] at h_2
        try rw [ht] at h_2
        refine ⟨⟨(k2 + 1, (wrap .i64 (add v2 1)), l6), hc2_, hs2, h_2⟩, Wk.of [(0, some 0), (1, some 1), (2, some 2), (3, some 3), (4, some 230), (5, some 5)] rfl rfl ?_ ?_, meas_L hc2_⟩
        · cbv
          all_goals exact ⟨⟨_, rfl, rfl⟩, ⟨_, rfl, rfl⟩, ⟨_, rfl, rfl⟩, ⟨_, rfl, rfl⟩, ⟨_, rfl, rfl⟩, trivial⟩
        · cbv
          all_goals exact ⟨⟨_, rfl, _, rfl, rfl, rfl, rfl, rfl, rfl, trivial⟩, ⟨_, rfl, _, rfl, rfl, rfl, rfl, rfl, rfl, trivial⟩, ⟨_, rfl, rfl⟩, ⟨_, rfl, rfl⟩, ⟨_, rfl, rfl⟩, ⟨_, rfl, rfl⟩, trivial⟩
      · have hb2 : lt v2 (llen (r_Inlet a0_Inlets)) = false := ltL_false_Inlet hg ht hi2 hc2_
        rw [List.drop_of_length_le (Nat.le_of_not_lt hc2_)] at h_2
        rw [I_copyCentre_l2] at h_2
        try rw [← hg] at h_2
        try rw [← ht] at h_2
        try dsimp only at h_2
        rw [hb2]
        cbv
        refine ⟨w2, Wk.of [(0, some 0), (1, some 1), (2, some 2), (3, some 3), (4, some 4), (5, some 5)] rfl rfl ?_ ?_, (Option.some.inj h_2).symm⟩
        · cbv
          all_goals exact ⟨⟨_, rfl, rfl⟩, ⟨_, rfl, rfl⟩, trivial⟩
        · cbv
          all_goals exact ⟨⟨_, rfl, _, rfl, rfl, rfl, rfl, rfl, rfl, trivial⟩, ⟨_, rfl, _, rfl, rfl, rfl, rfl, rfl, rfl, trivial⟩, ⟨_, rfl, rfl⟩, ⟨_, rfl, rfl⟩, ⟨_, rfl, rfl⟩, ⟨_, rfl, rfl⟩, trivial⟩
    · rintro y2 hy2
      replace hy2 := hy2.symm
      subst hy2
      try dsimp only [lr, lrL, lrp, lrpL] at h
      cbv
      obtain rfl := Option.some.inj h
      exact ARet.mk ⟨⟨rfl, (dlen_Item hg ht _)⟩, ⟨⟨rfl, (dlen_Chute hg ht _)⟩, ⟨⟨rfl, (dlen_Inlet hg ht _)⟩, ⟨rfl, (dlen_I64 hg ht _)⟩⟩⟩⟩ hX.symm
end Go.Vs
namespace Go.Vs
set_option maxRecDepth 100000
def ir108 : J :=
  .seq (.reg none [⟨(some 2), none, .mv (.k (.c (.n 2)))⟩] [0])
  (.seq (.reg none [⟨(some 3), none, .bsl 2 []⟩,
     ⟨(some 4), none, .mv (.t 0)⟩,
     ⟨(some 5), none, .app 2 16 false (.t 3) (.t 4)⟩,
     ⟨(some 2), none, .mv (.t 5)⟩] [2])
  (.ret))
def rv108 : List RV := [.t 2]
open Go.Proofs Go.IntWalk
set_option linter.unusedVariables false
set_option maxRecDepth 100000
set_option maxHeartbeats 4000000
def S_l7Items (g : G) (t : TE) (a0 : List Item) : Option (List Item) :=
  lP ([]) fun (l1 : List Item) =>
  gd (((l1.length + a0.length) * 16 ≤ 70368744177664)) <|
  lP (l1 ++ a0) fun (l2 : List Item) =>
  some l2
theorem fit108 : codeFit Try.prog Try.f108.ntmps (Try.f108.body.getD .skip) ir108 = true := by kernel_rfl
theorem c_S_l7Items {g : G} {t : TE} {a0 : List Item} {r : List Item} (hg : g = G.real) (ht : t = TE.real) (h : S_l7Items g t a0 = some r) : Fn Try.prog 108 [.c (.s 2 (t.r_Item a0))] (.c (.o 2 (t.d_Item r))) := by
  obtain ⟨X, hX⟩ := hide (.c (.o 2 (t.d_Item r)) : X)
  rw [← hX]
  refine fn_of (rvs := rv108) (j := ir108) Try.func108 rfl fit108 (Nat.le_of_ble_eq_true rfl) (by kernel_rfl) prog_mixed ?_
  intro g2 F hg2 hF
  obtain rfl : g2 = g := hg2.unique.trans hg.symm
  clear hg2
  obtain ⟨wrap, lt, le, eq, quo, rem, band, bor, bxor, shl, shr, nat, int, add, sub, mul, cat, seq, slt, sub3, byte, llen, nadd, nsub, dlen, dapp, dset, drep, rd, rda, up, rsub, dsub, all, sle, slen, hasI, putI, hasS, putS, imin, imax, fzc⟩ := g2
  obtain ⟨r_Item, d_Item, r_Chute, d_Chute, r_Inlet, d_Inlet, r_I64, d_I64, r_U8, d_U8⟩ := t
  unfold S_l7Items at h
  try dsimp only at h
  cbv
  obtain ⟨l1, hl1, h⟩ := of_lP h
  try dsimp only at h
  refine ANew.mk (d_Item l1) (dlen (d_Item l1)) (by rw [← hl1]; exact lit_Item hg ht []) (by rw [← hl1]; exact litn_Item hg ht []) ?_
  cbv
  obtain ⟨hc1, h⟩ := of_gd h
  refine AStep.mk (app_ok_Item hg ht (dlen_Item hg ht _) (up_Item hg ht _) hc1) ?_
  cbv
  obtain ⟨l2, hl2, h⟩ := of_lP h
  try dsimp only at h
  refine ANew.mk (d_Item l2) (dlen (d_Item l2)) (by rw [← hl2]; exact app_Item hg ht (dlen_Item hg ht _) (up_Item hg ht _)) (by rw [← hl2]; exact appl_Item hg ht (dlen_Item hg ht _) (up_Item hg ht _)) ?_
  cbv
  obtain rfl := Option.some.inj h
  exact ARet.mk ⟨rfl, (dlen_Item hg ht _)⟩ hX.symm
end Go.Vs
namespace Go.Vs
set_option maxRecDepth 100000
def ir106 : J :=
  .seq (.reg none [⟨(some 1), none, .box (.t 0)⟩,
     ⟨(some 2), none, .alloc [.n 2, .n 3, .n 2, .n 1, .r (.v (.int .i64 0))]⟩] [1, 2])
  (.seq (.reg (some [[], [0], [0, 1], [], [3], [0, 1, 2, 3, 4], [], [6], [0, 1, 2, 3, 4, 5, 6, 7], [], [0, 1, 2, 3, 4, 5, 6, 7, 8, 9]]) [⟨(some 6), none, .fa 0 (.t 1)⟩,
     ⟨(some 7), none, .ld false 1 (.t 6)⟩,
     ⟨(some 8), none, .call 108 true [(.t 7)]⟩,
     ⟨(some 9), none, .fa 3 (.t 1)⟩,
     ⟨(some 10), none, .ld false 1 (.t 9)⟩,
     ⟨(some 11), none, .call 96 true [(.t 10)]⟩,
     ⟨(some 12), none, .fa 4 (.t 1)⟩,
     ⟨(some 13), none, .ld false 1 (.t 12)⟩,
     ⟨(some 14), none, .bld [.n 2, .n 3, .n 2, .n 1, .r (.v (.int .i64 0))] [(0, 1, (.t 8)), (3, 1, (.t 11)), (4, 1, (.t 13))]⟩,
     ⟨(some 3), none, .alloc [.n 2, .n 3, .n 2, .n 1, .r (.v (.int .i64 0))]⟩,
     ⟨none, none, .st 5 (.t 3) (.t 14)⟩] [1, 2, 3])
  (.seq (.seq (.reg none [⟨(some 4), none, .mv (.k (V.i 0))⟩] [1, 2, 3, 4])
   (.bl 0 (.seq (.seq (.reg none [⟨(some 15), none, .mv (.t 4)⟩,
        ⟨(some 16), none, .fa 1 (.t 1)⟩,
        ⟨(some 17), none, .ld false 1 (.t 16)⟩,
        ⟨(some 18), none, .len false (.t 17)⟩,
        ⟨(some 19), none, .bin .lss .i (.t 15) (.t 18)⟩] [1, 2, 3, 4, 19])
     (.cond (.t 19)
      (.skip)
      (.exit 0)))
    (.seq (.block 1 (.reg (some [[], [0], [], [2], [], [2, 3, 4], [2, 3, 4, 5], [2, 3, 4, 5, 6], [], [8], [], [8, 9, 10], [8, 9, 10, 11], [8, 9, 10, 11, 12], [], [14], [], [14, 15, 16], [14, 15, 16, 17], [14, 15, 16, 17, 18], [14, 15, 16, 17, 18, 19], [2, 3, 4, 5, 6, 7, 8, 9, 10, 11, 12, 13, 14, 15, 16, 17, 18, 19, 20], [2, 3, 4, 5, 6, 7, 8, 9, 10, 11, 12, 13, 14, 15, 16, 17, 18, 19, 20, 21], [0, 1, 2, 3, 4, 5, 6, 7, 8, 9, 10, 11, 12, 13, 14, 15, 16, 17, 18, 19, 20, 21, 22], [0, 1, 2, 3, 4, 5, 6, 7, 8, 9, 10, 11, 12, 13, 14, 15, 16, 17, 18, 19, 20, 21, 22, 23], [0, 1, 2, 3, 4, 5, 6, 7, 8, 9, 10, 11, 12, 13, 14, 15, 16, 17, 18, 19, 20, 21, 22, 23, 24]]) [⟨(some 22), none, .fa 1 (.t 3)⟩,
        ⟨(some 23), none, .ld false 1 (.t 22)⟩,
        ⟨(some 24), none, .fa 1 (.t 1)⟩,
        ⟨(some 25), none, .ld false 1 (.t 24)⟩,
        ⟨(some 26), none, .mv (.t 4)⟩,
        ⟨(some 27), none, .ia 3 (.t 25) (.t 26)⟩,
        ⟨(some 28), none, .fa 0 (.t 27)⟩,
        ⟨(some 29), none, .ld false 1 (.t 28)⟩,
        ⟨(some 30), none, .fa 1 (.t 1)⟩,
        ⟨(some 31), none, .ld false 1 (.t 30)⟩,
        ⟨(some 32), none, .mv (.t 4)⟩,
        ⟨(some 33), none, .ia 3 (.t 31) (.t 32)⟩,
        ⟨(some 34), none, .fa 1 (.t 33)⟩,
        ⟨(some 35), none, .ld false 1 (.t 34)⟩,
        ⟨(some 36), none, .fa 1 (.t 1)⟩,
        ⟨(some 37), none, .ld false 1 (.t 36)⟩,
        ⟨(some 38), none, .mv (.t 4)⟩,
        ⟨(some 39), none, .ia 3 (.t 37) (.t 38)⟩,
        ⟨(some 40), none, .fa 2 (.t 39)⟩,
        ⟨(some 41), none, .ld false 1 (.t 40)⟩,
        ⟨(some 42), none, .call 108 true [(.t 41)]⟩,
        ⟨(some 43), none, .bld [.r (.v (.int .i64 0)), .r (.v (.int .i64 0)), .n 2] [(0, 1, (.t 29)), (1, 1, (.t 35)), (2, 1, (.t 42))]⟩,
        ⟨(some 44), none, .bsl 3 [(.t 43)]⟩,
        ⟨(some 45), none, .app 3 40 true (.t 23) (.t 44)⟩,
        ⟨(some 46), none, .fa 1 (.t 3)⟩,
        ⟨none, none, .st 1 (.t 46) (.t 45)⟩] [1, 2, 3, 4]))
    (.reg none [⟨(some 20), none, .mv (.t 4)⟩,
      ⟨(some 21), none, .bin .add .i (.t 20) (.k (V.i 1))⟩,
      ⟨(some 4), none, .mv (.t 21)⟩] [1, 2, 3, 4])))))
  (.seq (.seq (.reg none [⟨(some 5), none, .mv (.k (V.i 0))⟩] [1, 2, 3, 5])
   (.bl 2 (.seq (.seq (.reg none [⟨(some 47), none, .mv (.t 5)⟩,
        ⟨(some 48), none, .fa 2 (.t 1)⟩,
        ⟨(some 49), none, .ld false 1 (.t 48)⟩,
        ⟨(some 50), none, .len false (.t 49)⟩,
        ⟨(some 51), none, .bin .lss .i (.t 47) (.t 50)⟩] [1, 2, 3, 5, 51])
     (.cond (.t 51)
      (.skip)
      (.exit 2)))
    (.seq (.block 3 (.reg (some [[], [0], [], [2], [], [2, 3, 4], [2, 3, 4, 5], [2, 3, 4, 5, 6], [], [8], [], [8, 9, 10], [8, 9, 10, 11], [8, 9, 10, 11, 12], [8, 9, 10, 11, 12, 13], [2, 3, 4, 5, 6, 7, 8, 9, 10, 11, 12, 13, 14], [2, 3, 4, 5, 6, 7, 8, 9, 10, 11, 12, 13, 14, 15], [0, 1, 2, 3, 4, 5, 6, 7, 8, 9, 10, 11, 12, 13, 14, 15, 16], [0, 1, 2, 3, 4, 5, 6, 7, 8, 9, 10, 11, 12, 13, 14, 15, 16, 17], [0, 1, 2, 3, 4, 5, 6, 7, 8, 9, 10, 11, 12, 13, 14, 15, 16, 17, 18]]) [⟨(some 54), none, .fa 2 (.t 3)⟩,
        ⟨(some 55), none, .ld false 1 (.t 54)⟩,
        ⟨(some 56), none, .fa 2 (.t 1)⟩,
        ⟨(some 57), none, .ld false 1 (.t 56)⟩,
        ⟨(some 58), none, .mv (.t 5)⟩,
        ⟨(some 59), none, .ia 2 (.t 57) (.t 58)⟩,
        ⟨(some 60), none, .fa 0 (.t 59)⟩,
        ⟨(some 61), none, .ld false 1 (.t 60)⟩,
        ⟨(some 62), none, .fa 2 (.t 1)⟩,
        ⟨(some 63), none, .ld false 1 (.t 62)⟩,
        ⟨(some 64), none, .mv (.t 5)⟩,
        ⟨(some 65), none, .ia 2 (.t 63) (.t 64)⟩,
        ⟨(some 66), none, .fa 1 (.t 65)⟩,
        ⟨(some 67), none, .ld false 1 (.t 66)⟩,
        ⟨(some 68), none, .call 108 true [(.t 67)]⟩,
        ⟨(some 69), none, .bld [.r (.v (.int .i64 0)), .n 2] [(0, 1, (.t 61)), (1, 1, (.t 68))]⟩,
        ⟨(some 70), none, .bsl 2 [(.t 69)]⟩,
        ⟨(some 71), none, .app 2 32 true (.t 55) (.t 70)⟩,
        ⟨(some 72), none, .fa 2 (.t 3)⟩,
        ⟨none, none, .st 1 (.t 72) (.t 71)⟩] [1, 2, 3, 5]))
    (.reg none [⟨(some 52), none, .mv (.t 5)⟩,
      ⟨(some 53), none, .bin .add .i (.t 52) (.k (V.i 1))⟩,
      ⟨(some 5), none, .mv (.t 53)⟩] [1, 2, 3, 5])))))
  (.seq (.reg none [⟨(some 73), none, .ld true 5 (.t 3)⟩,
     ⟨none, none, .st 5 (.t 2) (.t 73)⟩] [2])
  (.ret)))))
def rv106 : List RV := [.c 2 true 5]
open Go.Proofs Go.IntWalk
set_option linter.unusedVariables false
set_option maxRecDepth 100000
set_option maxHeartbeats 4000000
def S_l7Copy_l2 (g : G) (t : TE) : List Inlet → List Inlet → Option (List Inlet)
  | [], w2 =>
    some w2
  | z2 :: ls2, w2 =>
    cl (S_l7Items g t z2.Wait) fun x4 =>
    lP ([(Inlet.mk z2.Cell x4)]) fun (l3 : List Inlet) =>
    gd (((w2.length + l3.length) * 32 ≤ 70368744177664)) <|
    lP (w2 ++ l3) fun (l4 : List Inlet) =>
    S_l7Copy_l2 g t ls2 l4
def S_l7Copy_l1 (g : G) (t : TE) : List Chute → List Chute → Option (List Chute)
  | [], w1 =>
    some w1
  | z1 :: ls1, w1 =>
    cl (S_l7Items g t z1.Held) fun x3 =>
    lP ([(Chute.mk z1.Cell z1.Room x3)]) fun (l1 : List Chute) =>
    gd (((w1.length + l1.length) * 40 ≤ 70368744177664)) <|
    lP (w1 ++ l1) fun (l2 : List Chute) =>
    S_l7Copy_l1 g t ls1 l2
def S_l7Copy (g : G) (t : TE) (a0 : Centre) : Option Centre :=
  cl (S_l7Items g t a0.Belt) fun x1 =>
  cl (S_l1Ints g t a0.Plan) fun x2 =>
  cl (S_l7Copy_l1 g t a0.Chutes []) fun y1 =>
  cl (S_l7Copy_l2 g t a0.Inlets []) fun y2 =>
  some (Centre.mk x1 y1 y2 x2 a0.Now)
theorem fit106 : codeFit Try.prog Try.f106.ntmps (Try.f106.body.getD .skip) ir106 = true := by kernel_rfl
theorem c_S_l7Copy {g : G} {t : TE} {a0 : Centre} {r : Centre} (hg : g = G.real) (ht : t = TE.real) (h : S_l7Copy g t a0 = some r) : Fn Try.prog 106 [.g (Centre.rs t a0)] (.g (Centre.ds t r)) := by
  obtain ⟨X, hX⟩ := hide (.g (Centre.ds t r) : X)
  rw [← hX]
  refine fn_of (rvs := rv106) (j := ir106) Try.func106 rfl fit106 (Nat.le_of_ble_eq_true rfl) (by kernel_rfl) prog_mixed ?_
  intro g2 F hg2 hF
  obtain rfl : g2 = g := hg2.unique.trans hg.symm
  clear hg2
  obtain ⟨wrap, lt, le, eq, quo, rem, band, bor, bxor, shl, shr, nat, int, add, sub, mul, cat, seq, slt, sub3, byte, llen, nadd, nsub, dlen, dapp, dset, drep, rd, rda, up, rsub, dsub, all, sle, slen, hasI, putI, hasS, putS, imin, imax, fzc⟩ := g2
  obtain ⟨r_Item, d_Item, r_Chute, d_Chute, r_Inlet, d_Inlet, r_I64, d_I64, r_U8, d_U8⟩ := t
  obtain ⟨a0_Belt, a0_Chutes, a0_Inlets, a0_Plan, a0_Now⟩ := a0
  have hnil_Item : d_Item [] = [] := d_nil_Item ht
  have hnil_Chute : d_Chute [] = [] := d_nil_Chute ht
  have hnil_Inlet : d_Inlet [] = [] := d_nil_Inlet ht
  have hnil_I64 : d_I64 [] = [] := d_nil_I64 ht
  have hnil_U8 : d_U8 [] = [] := d_nil_U8 ht
  unfold S_l7Copy at h
  try dsimp only at h
  cbv
  obtain ⟨x1, hx1, h⟩ := of_cl h
  try dsimp only at h
  refine ACall.mk _ _ rfl (hF _ _ _ (c_S_l7Items hg ht hx1)) (.inl rfl) (Nat.le_of_ble_eq_true rfl) ?_
  cbv
  obtain ⟨x2, hx2, h⟩ := of_cl h
  try dsimp only at h
  refine ACall.mk _ _ rfl (hF _ _ _ (c_S_l1Ints hg ht hx2)) (.inl rfl) (Nat.le_of_ble_eq_true rfl) ?_
  cbv
  obtain ⟨o1, ho1, h⟩ := of_cl h
  try dsimp only at h
  try rw [hg] at ho1
  try rw [ht] at ho1
  refine ABL.mk { p : Nat × Int × List Chute // p.1 ≤ a0_Chutes.length ∧ p.2.1 = ((p.1 : Nat) : Int) ∧ S_l7Copy_l1 G.real TE.real (List.drop p.1 a0_Chutes) p.2.2 = some o1 } (fun ⟨⟨k1, v1, w1⟩, _⟩ => ({ sl := [(1, .c (.p 0 5 0 0)), (2, .c (.p 1 5 0 0)), (3, .c (.p 2 5 0 0)), (4, .c (.r (.v (.int .i64 v1))))], tab := [(0, some (.foc 5 [] [.r (.s 2 (r_Item a0_Belt)), .r (.s 3 (r_Chute a0_Chutes)), .r (.s 2 (r_Inlet a0_Inlets)), .r (.s 1 (r_I64 a0_Plan)), .r (.v (.int .i64 a0_Now))] [])), (1, some (.foc 5 [] [.n 2, .n 3, .n 2, .n 1, .r (.v (.int .i64 0))] [])), (2, some (.foc 5 [] [.f 3 2 0 (dlen (d_Item x1)), .f 4 3 0 (dlen (d_Chute w1)), .n 2, .f 5 1 0 (dlen (d_I64 x2)), .r (.v (.int .i64 a0_Now))] [])), (3, some (.arr 2 (d_Item x1))), (4, some (.arr 3 (d_Chute w1))), (5, some (.arr 1 (d_I64 x2)))] } : St)) 6 (fun p => a0_Chutes.length - p.1.1) ⟨(0, 0, []), Nat.zero_le _, rfl, ho1⟩ (List Chute) (fun y1 => ({ sl := [(1, .c (.p 0 5 0 0)), (2, .c (.p 1 5 0 0)), (3, .c (.p 2 5 0 0))], tab := [(0, some (.foc 5 [] [.r (.s 2 (r_Item a0_Belt)), .r (.s 3 (r_Chute a0_Chutes)), .r (.s 2 (r_Inlet a0_Inlets)), .r (.s 1 (r_I64 a0_Plan)), .r (.v (.int .i64 a0_Now))] [])), (1, some (.foc 5 [] [.n 2, .n 3, .n 2, .n 1, .r (.v (.int .i64 0))] [])), (2, some (.foc 5 [] [.f 3 2 0 (dlen (d_Item x1)), .f 4 3 0 (dlen (d_Chute y1)), .n 2, .f 5 1 0 (dlen (d_I64 x2)), .r (.v (.int .i64 a0_Now))] [])), (3, some (.arr 2 (d_Item x1))), (4, some (.arr 3 (d_Chute y1))), (5, some (.arr 1 (d_I64 x2)))] } : St)) 6 (fun y => o1 = y) ?_ ?_ ?_
  · refine Wk.of [(0, some 0), (1, some 16), (2, some 176), (3, some 64), (4, none), (5, some 112)] rfl rfl ?_ ?_
    · cbv
      all_goals try rw [show dlen (d_Chute []) = 0 from dlen_nil_Chute hg ht]
      all_goals try rw [hnil_Chute]
      all_goals exact ⟨⟨_, rfl, rfl⟩, ⟨_, rfl, rfl⟩, ⟨_, rfl, rfl⟩, ⟨_, rfl, rfl⟩, trivial⟩
    · cbv
      all_goals try rw [show dlen (d_Chute []) = 0 from dlen_nil_Chute hg ht]
      all_goals try rw [hnil_Chute]
      all_goals exact ⟨⟨_, rfl, _, rfl, rfl, rfl, rfl, rfl, rfl, trivial⟩, ⟨_, rfl, _, rfl, rfl, rfl, rfl, rfl, rfl, trivial⟩, ⟨_, rfl, _, rfl, rfl, ⟨⟨_, rfl⟩, rfl, rfl⟩, rfl, rfl, rfl, trivial⟩, ⟨_, rfl, rfl⟩, ⟨_, rfl⟩, ⟨_, rfl, rfl⟩, trivial⟩
  · rintro ⟨⟨k1, v1, w1⟩, hk1, hi1, h_1⟩ hq1
    have hm1 := (hq1.2.2.1 0 _ _ _ _ 1 _ _ rfl rfl)
    try dsimp only at hk1 hi1 h_1
    clear hq1
    cbv
    by_cases hc1_ : k1 < a0_Chutes.length
    · have hb1 : lt v1 (llen (r_Chute a0_Chutes)) = true := ltL_true_Chute hg ht hi1 hc1_
      have hs1 := stepL_Chute hg ht hi1 hc1_ hm1
      obtain ⟨z1, hz1⟩ := some_of_lt hc1_
      rw [drop_of_some hz1] at h_1
      rw [S_l7Copy_l1] at h_1
      obtain ⟨z1_Cell, z1_Room, z1_Held⟩ := z1
      try rw [← hg] at h_1
      try rw [← ht] at h_1
      try dsimp only at h_1
      rw [hb1]
      cbv
      refine AStep.mk (nn_L hi1) ?_
      cbv
      refine AGet.mk _ (r_getL_Chute hg ht hi1 hz1) ?_
      cbv
      refine AStep.mk (nn_L hi1) ?_
      cbv
      refine AGet.mk _ (r_getL_Chute hg ht hi1 hz1) ?_
      cbv
      refine AStep.mk (nn_L hi1) ?_
      cbv
      refine AGet.mk _ (r_getL_Chute hg ht hi1 hz1) ?_
      cbv
      obtain ⟨x3, hx3, h_1⟩ := of_cl h_1
      try dsimp only at h_1
      refine ACall.mk _ _ rfl (hF _ _ _ (c_S_l7Items hg ht hx3)) (.inl rfl) (Nat.le_of_ble_eq_true rfl) ?_
      cbv
      refine AStep.mk ⟨rfl, (dlen_Item hg ht _)⟩ ?_
      cbv
      obtain ⟨l1, hl1, h_1⟩ := of_lP h_1
      try dsimp only at h_1
      refine ANew.mk (d_Chute l1) (dlen (d_Chute l1)) (by rw [← hl1]; have e := lit_Chute hg ht [(Chute.mk z1_Cell z1_Room x3)]; dsimp only [List.map, Chute.ds] at e; (try simp only [hnil_Item, hnil_Chute, hnil_Inlet, hnil_I64, hnil_U8] at e); exact e) (by rw [← hl1]; exact litn_Chute hg ht [(Chute.mk z1_Cell z1_Room x3)]) ?_
      cbv
      obtain ⟨hc1, h_1⟩ := of_gd h_1
      refine AStep.mk ⟨⟨rfl, (dlen_Chute hg ht _)⟩, (app_ok_Chute hg ht (dlen_Chute hg ht _) rfl hc1)⟩ ?_
      cbv
      obtain ⟨l2, hl2, h_1⟩ := of_lP h_1
      try dsimp only at h_1
      refine ANew.mk (d_Chute l2) (dlen (d_Chute l2)) (by rw [← hl2]; exact app_Chute hg ht (dlen_Chute hg ht _) rfl) (by rw [← hl2]; exact appl_Chute hg ht (dlen_Chute hg ht _) rfl) ?_
      cbv
      try rw [hg] at h_1
      try rw [ht] at h_1
      refine ⟨⟨(k1 + 1, (wrap .i64 (add v1 1)), l2), hc1_, hs1, h_1⟩, Wk.of [(0, some 0), (1, some 1), (2, some 2), (3, some 3), (4, some 454), (5, some 5)] rfl rfl ?_ ?_, meas_L hc1_⟩
      · cbv
        all_goals exact ⟨⟨_, rfl, rfl⟩, ⟨_, rfl, rfl⟩, ⟨_, rfl, rfl⟩, ⟨_, rfl, rfl⟩, trivial⟩
      · cbv
        all_goals exact ⟨⟨_, rfl, _, rfl, rfl, rfl, rfl, rfl, rfl, trivial⟩, ⟨_, rfl, _, rfl, rfl, rfl, rfl, rfl, rfl, trivial⟩, ⟨_, rfl, _, rfl, rfl, rfl, rfl, rfl, rfl, trivial⟩, ⟨_, rfl, rfl⟩, ⟨_, rfl, rfl⟩, ⟨_, rfl, rfl⟩, trivial⟩
    · have hb1 : lt v1 (llen (r_Chute a0_Chutes)) = false := ltL_false_Chute hg ht hi1 hc1_
      rw [List.drop_of_length_le (Nat.le_of_not_lt hc1_)] at h_1
      rw [S_l7Copy_l1] at h_1
      try rw [← hg] at h_1
      try rw [← ht] at h_1
      try dsimp only at h_1
      rw [hb1]
      cbv
      refine ⟨w1, Wk.of [(0, some 0), (1, some 1), (2, some 2), (3, some 3), (4, some 4), (5, some 5)] rfl rfl ?_ ?_, (Option.some.inj h_1).symm⟩
      · cbv
        all_goals exact ⟨⟨_, rfl, rfl⟩, ⟨_, rfl, rfl⟩, ⟨_, rfl, rfl⟩, trivial⟩
      · cbv
        all_goals exact ⟨⟨_, rfl, _, rfl, rfl, rfl, rfl, rfl, rfl, trivial⟩, ⟨_, rfl, _, rfl, rfl, rfl, rfl, rfl, rfl, trivial⟩, ⟨_, rfl, _, rfl, rfl, rfl, rfl, rfl, rfl, trivial⟩, ⟨_, rfl, rfl⟩, ⟨_, rfl, rfl⟩, ⟨_, rfl, rfl⟩, trivial⟩
  · rintro y1 hy1
    replace hy1 := hy1.symm
    subst hy1
    try dsimp only [lr, lrL, lrp, lrpL] at h
    cbv
    obtain ⟨o2, ho2, h⟩ := of_cl h
    try dsimp only at h
    try rw [hg] at ho2
    try rw [ht] at ho2
    refine ABL.mk { p : Nat × Int × List Inlet // p.1 ≤ a0_Inlets.length ∧ p.2.1 = ((p.1 : Nat) : Int) ∧ S_l7Copy_l2 G.real TE.real (List.drop p.1 a0_Inlets) p.2.2 = some o2 } (fun ⟨⟨k2, v2, w2⟩, _⟩ => ({ sl := [(1, .c (.p 0 5 0 0)), (2, .c (.p 1 5 0 0)), (3, .c (.p 2 5 0 0)), (5, .c (.r (.v (.int .i64 v2))))], tab := [(0, some (.foc 5 [] [.r (.s 2 (r_Item a0_Belt)), .r (.s 3 (r_Chute a0_Chutes)), .r (.s 2 (r_Inlet a0_Inlets)), .r (.s 1 (r_I64 a0_Plan)), .r (.v (.int .i64 a0_Now))] [])), (1, some (.foc 5 [] [.n 2, .n 3, .n 2, .n 1, .r (.v (.int .i64 0))] [])), (2, some (.foc 5 [] [.f 3 2 0 (dlen (d_Item x1)), .f 4 3 0 (dlen (d_Chute y1)), .f 5 2 0 (dlen (d_Inlet w2)), .f 6 1 0 (dlen (d_I64 x2)), .r (.v (.int .i64 a0_Now))] [])), (3, some (.arr 2 (d_Item x1))), (4, some (.arr 3 (d_Chute y1))), (5, some (.arr 2 (d_Inlet w2))), (6, some (.arr 1 (d_I64 x2)))] } : St)) 7 (fun p => a0_Inlets.length - p.1.1) ⟨(0, 0, []), Nat.zero_le _, rfl, ho2⟩ (List Inlet) (fun y2 => ({ sl := [(2, .c (.p 0 5 0 0)), (3, .c (.p 1 5 0 0))], tab := [(0, some (.foc 5 [] [.n 2, .n 3, .n 2, .n 1, .r (.v (.int .i64 0))] [])), (1, some (.foc 5 [] [.f 2 2 0 (dlen (d_Item x1)), .f 3 3 0 (dlen (d_Chute y1)), .f 4 2 0 (dlen (d_Inlet y2)), .f 5 1 0 (dlen (d_I64 x2)), .r (.v (.int .i64 a0_Now))] [])), (2, some (.arr 2 (d_Item x1))), (3, some (.arr 3 (d_Chute y1))), (4, some (.arr 2 (d_Inlet y2))), (5, some (.arr 1 (d_I64 x2)))] } : St)) 6 (fun y => o2 = y) ?_ ?_ ?_
    · refine Wk.of [(0, some 0), (1, some 1), (2, some 2), (3, some 3), (4, some 4), (5, none), (6, some 5)] rfl rfl ?_ ?_
      · cbv
        all_goals try rw [show dlen (d_Inlet []) = 0 from dlen_nil_Inlet hg ht]
        all_goals try rw [hnil_Inlet]
        all_goals exact ⟨⟨_, rfl, rfl⟩, ⟨_, rfl, rfl⟩, ⟨_, rfl, rfl⟩, ⟨_, rfl, rfl⟩, trivial⟩
      · cbv
        all_goals try rw [show dlen (d_Inlet []) = 0 from dlen_nil_Inlet hg ht]
        all_goals try rw [hnil_Inlet]
        all_goals exact ⟨⟨_, rfl, _, rfl, rfl, rfl, rfl, rfl, rfl, trivial⟩, ⟨_, rfl, _, rfl, rfl, rfl, rfl, rfl, rfl, trivial⟩, ⟨_, rfl, _, rfl, rfl, rfl, ⟨⟨_, rfl⟩, rfl, rfl⟩, rfl, rfl, trivial⟩, ⟨_, rfl, rfl⟩, ⟨_, rfl, rfl⟩, ⟨_, rfl⟩, ⟨_, rfl, rfl⟩, trivial⟩
    · rintro ⟨⟨k2, v2, w2⟩, hk2, hi2, h_2⟩ hq2
      have hm2 := (hq2.2.2.1 0 _ _ _ _ 2 _ _ rfl rfl)
      try dsimp only at hk2 hi2 h_2
      clear hq2
      cbv
      by_cases hc2_ : k2 < a0_Inlets.length
      · have hb2 : lt v2 (llen (r_Inlet a0_Inlets)) = true := ltL_true_Inlet hg ht hi2 hc2_
        have hs2 := stepL_Inlet hg ht hi2 hc2_ hm2
        obtain ⟨z2, hz2⟩ := some_of_lt hc2_
        rw [drop_of_some hz2] at h_2
        rw [S_l7Copy_l2] at h_2
        obtain ⟨z2_Cell, z2_Wait⟩ := z2
        try rw [← hg] at h_2
        try rw [← ht] at h_2
        try dsimp only at h_2
        rw [hb2]
        cbv
        refine AStep.mk (nn_L hi2) ?_
        cbv
        refine AGet.mk _ (r_getL_Inlet hg ht hi2 hz2) ?_
        cbv
        refine AStep.mk (nn_L hi2) ?_
        cbv
        refine AGet.mk _ (r_getL_Inlet hg ht hi2 hz2) ?_
        cbv
        obtain ⟨x4, hx4, h_2⟩ := of_cl h_2
        try dsimp only at h_2
        refine ACall.mk _ _ rfl (hF _ _ _ (c_S_l7Items hg ht hx4)) (.inl rfl) (Nat.le_of_ble_eq_true rfl) ?_
        cbv
        refine AStep.mk ⟨rfl, (dlen_Item hg ht _)⟩ ?_
        cbv
        obtain ⟨l3, hl3, h_2⟩ := of_lP h_2
        try dsimp only at h_2
        refine ANew.mk (d_Inlet l3) (dlen (d_Inlet l3)) (by rw [← hl3]; have e := lit_Inlet hg ht [(Inlet.mk z2_Cell x4)]; dsimp only [List.map, Inlet.ds] at e; (try simp only [hnil_Item, hnil_Chute, hnil_Inlet, hnil_I64, hnil_U8] at e); exact e) (by rw [← hl3]; exact litn_Inlet hg ht [(Inlet.mk z2_Cell x4)]) ?_
        cbv
        obtain ⟨hc2, h_2⟩ := of_gd h_2
        refine AStep.mk ⟨⟨rfl, (dlen_Inlet hg ht _)⟩, (app_ok_Inlet hg ht (dlen_Inlet hg ht _) rfl hc2)⟩ ?_
        cbv
        obtain ⟨l4, hl4, h_2⟩ := of_lP h_2
        try dsimp only at h_2
        refine ANew.mk (d_Inlet l4) (dlen (d_Inlet l4)) (by rw [← hl4]; exact app_Inlet hg ht (dlen_Inlet hg ht _) rfl) (by rw [← hl4]; exact appl_Inlet hg ht (dlen_Inlet hg ht _) rfl) ?_
        cbv
        try rw [hg] at h_2
        try rw [ht] at h_2
        refine ⟨⟨(k2 + 1, (wrap .i64 (add v2 1)), l4), hc2_, hs2, h_2⟩, Wk.of [(0, some 0), (1, some 1), (2, some 2), (3, some 3), (4, some 4), (5, some 359), (6, some 6)] rfl rfl ?_ ?_, meas_L hc2_⟩
        · cbv
          all_goals exact ⟨⟨_, rfl, rfl⟩, ⟨_, rfl, rfl⟩, ⟨_, rfl, rfl⟩, ⟨_, rfl, rfl⟩, trivial⟩
        · cbv
          all_goals exact ⟨⟨_, rfl, _, rfl, rfl, rfl, rfl, rfl, rfl, trivial⟩, ⟨_, rfl, _, rfl, rfl, rfl, rfl, rfl, rfl, trivial⟩, ⟨_, rfl, _, rfl, rfl, rfl, rfl, rfl, rfl, trivial⟩, ⟨_, rfl, rfl⟩, ⟨_, rfl, rfl⟩, ⟨_, rfl, rfl⟩, ⟨_, rfl, rfl⟩, trivial⟩
      · have hb2 : lt v2 (llen (r_Inlet a0_Inlets)) = false := ltL_false_Inlet hg ht hi2 hc2_
        rw [List.drop_of_length_le (Nat.le_of_not_lt hc2_)] at h_2
        rw [S_l7Copy_l2] at h_2
        try rw [← hg] at h_2
        try rw [← ht] at h_2
        try dsimp only at h_2
        rw [hb2]
        cbv
        refine ⟨w2, Wk.of [(0, some 1), (1, some 2), (2, some 3), (3, some 4), (4, some 5), (5, some 6)] rfl rfl ?_ ?_, (Option.some.inj h_2).symm⟩
        · cbv
          all_goals exact ⟨⟨_, rfl, rfl⟩, ⟨_, rfl, rfl⟩, trivial⟩
        · cbv
          all_goals exact ⟨⟨_, rfl, _, rfl, rfl, rfl, rfl, rfl, rfl, trivial⟩, ⟨_, rfl, _, rfl, rfl, rfl, rfl, rfl, rfl, trivial⟩, ⟨_, rfl, rfl⟩, ⟨_, rfl, rfl⟩, ⟨_, rfl, rfl⟩, ⟨_, rfl, rfl⟩, trivial⟩
    · rintro y2 hy2
      replace hy2 := hy2.symm
      subst hy2
      try dsimp only [lr, lrL, lrp, lrpL] at h
      cbv
      obtain rfl := Option.some.inj h
      exact ARet.mk ⟨⟨rfl, (dlen_Item hg ht _)⟩, ⟨⟨rfl, (dlen_Chute hg ht _)⟩, ⟨⟨rfl, (dlen_Inlet hg ht _)⟩, ⟨rfl, (dlen_I64 hg ht _)⟩⟩⟩⟩ hX.symm
end Go.Vs
