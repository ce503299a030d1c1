/- Part of the proofs of this seat's laws: Lac. No condition. -/
import Derived.Test.YtieeagobedjogaaTy
import Derived.Test.YtieeagobedjogaaTIRall
import Derived.Test.YtieeagobedjogaaLab
import Derived.Test.YtieeagobedjogaaLaa
set_option linter.unusedVariables false
set_option linter.unusedSimpArgs false
set_option linter.unusedSectionVars false
namespace Go.Vs
set_option maxRecDepth 100000
def ir96 : J :=
  .seq (.reg none [⟨(some 2), none, .mv (.k (.c (.n 1)))⟩] [0])
  (.seq (.reg none [⟨(some 3), none, .bsl 1 []⟩,
     ⟨(some 4), none, .mv (.t 0)⟩,
     ⟨(some 5), none, .app 1 8 false (.t 3) (.t 4)⟩,
     ⟨(some 2), none, .mv (.t 5)⟩] [2])
  (.ret))
def rv96 : List RV := [.t 2]
open Go.Proofs Go.IntWalk
set_option linter.unusedVariables false
set_option maxRecDepth 100000
set_option maxHeartbeats 4000000
def S_l1Ints (g : G) (t : TE) (a0 : List Int) : Option (List Int) :=
  lP ([]) fun (l1 : List Int) =>
  gd (((l1.length + a0.length) * 8 ≤ 70368744177664)) <|
  lP (l1 ++ a0) fun (l2 : List Int) =>
  some l2
theorem fit96 : codeFit Try.prog Try.f96.ntmps (Try.f96.body.getD .skip) ir96 = true := by kernel_rfl
theorem c_S_l1Ints {g : G} {t : TE} {a0 : List Int} {r : List Int} (hg : g = G.real) (ht : t = TE.real) (h : S_l1Ints g t a0 = some r) : Fn Try.prog 96 [.c (.s 1 (t.r_I64 a0))] (.c (.o 1 (t.d_I64 r))) := by
  obtain ⟨X, hX⟩ := hide (.c (.o 1 (t.d_I64 r)) : X)
  rw [← hX]
  refine fn_of (rvs := rv96) (j := ir96) Try.func96 rfl fit96 (Nat.le_of_ble_eq_true rfl) (by kernel_rfl) prog_mixed ?_
  intro g2 F hg2 hF
  obtain rfl : g2 = g := hg2.unique.trans hg.symm
  clear hg2
  obtain ⟨wrap, lt, le, eq, quo, rem, band, bor, bxor, shl, shr, nat, int, add, sub, mul, cat, seq, slt, sub3, byte, llen, nadd, nsub, dlen, dapp, dset, drep, rd, rda, up, rsub, dsub, all, sle, slen, hasI, putI, hasS, putS, imin, imax, fzc⟩ := g2
  obtain ⟨r_Item, d_Item, r_Chute, d_Chute, r_Inlet, d_Inlet, r_I64, d_I64, r_U8, d_U8, d_InletF⟩ := t
  unfold S_l1Ints at h
  try dsimp only at h
  cbv
  obtain ⟨l1, hl1, h⟩ := of_lP h
  try dsimp only at h
  refine ANew.mk (d_I64 l1) (dlen (d_I64 l1)) (by rw [← hl1]; exact lit_I64 hg ht []) (by rw [← hl1]; exact litn_I64 hg ht []) ?_
  cbv
  obtain ⟨hc1, h⟩ := of_gd h
  refine AStep.mk (app_ok_I64 hg ht (dlen_I64 hg ht _) (up_I64 hg ht _) hc1) ?_
  cbv
  obtain ⟨l2, hl2, h⟩ := of_lP h
  try dsimp only at h
  refine ANew.mk (d_I64 l2) (dlen (d_I64 l2)) (by rw [← hl2]; exact app_I64 hg ht (dlen_I64 hg ht _) (up_I64 hg ht _)) (by rw [← hl2]; exact appl_I64 hg ht (dlen_I64 hg ht _) (up_I64 hg ht _)) ?_
  cbv
  obtain rfl := Option.some.inj h
  exact ARet.mk ⟨rfl, (dlen_I64 hg ht _)⟩ hX.symm
end Go.Vs
namespace Go.Vs
set_option maxRecDepth 100000
def ir74 : J :=
  .seq (.reg none [⟨(some 1), none, .box (.t 0)⟩,
     ⟨(some 2), none, .mv (.k (.c (.n 1)))⟩] [1])
  (.seq (.reg none [⟨(some 7), none, .bsl 1 []⟩,
     ⟨(some 3), none, .mv (.t 7)⟩] [1, 3])
  (.seq (.seq (.reg none [⟨(some 8), none, .ld true 5 (.t 1)⟩,
      ⟨(some 9), none, .call 31 true [(.t 8)]⟩,
      ⟨(some 10), none, .not (.t 9)⟩] [1, 3, 10])
   (.cond (.t 10)
    (.seq (.reg none [⟨(some 11), none, .mv (.t 3)⟩,
        ⟨(some 2), none, .mv (.t 11)⟩] [2])
     (.ret))
    (.skip)))
  (.seq (.reg none [⟨(some 12), none, .ld true 5 (.t 1)⟩,
     ⟨(some 13), none, .call 87 true [(.t 12)]⟩,
     ⟨(some 4), none, .mv (.t 13)⟩] [3, 4])
  (.seq (.seq (.reg none [⟨(some 5), none, .mv (.k (V.i 0))⟩] [3, 4, 5])
   (.bl 0 (.seq (.seq (.reg none [⟨(some 14), none, .mv (.t 5)⟩,
        ⟨(some 15), none, .mv (.t 4)⟩,
        ⟨(some 16), none, .len false (.t 15)⟩,
        ⟨(some 17), none, .bin .lss .i (.t 14) (.t 16)⟩] [3, 4, 5, 17])
     (.cond (.t 17)
      (.skip)
      (.exit 0)))
    (.seq (.block 1 (.seq (.reg none [⟨(some 6), none, .mv (.k (V.i 0))⟩] [3, 4, 5, 6])
      (.seq (.bl 2 (.seq (.seq (.reg (some [[], [], [1], [0, 1, 2], [0, 1, 2, 3], [0, 1, 2, 3, 4], [0, 1, 2, 3, 4], [0, 1, 2, 3, 4, 5, 6], [0, 1, 2, 3, 4, 5, 6, 7], [0, 1, 2, 3, 4], [0, 1, 2, 3, 4], [0, 1, 2, 3, 4, 9, 10], [0, 1, 2, 3, 4, 9, 10, 11], [0, 1, 2, 3, 4, 9, 10, 11, 12], [0, 1, 2, 3, 4, 5, 6, 7, 8, 9, 10, 11, 12, 13], [0, 1, 2, 3, 4, 5, 6, 7, 8, 9, 10, 11, 12, 13, 14]]) [⟨(some 20), none, .mv (.t 6)⟩,
            ⟨(some 21), none, .mv (.t 3)⟩,
            ⟨(some 22), none, .len false (.t 21)⟩,
            ⟨(some 23), none, .bin .lss .i (.t 20) (.t 22)⟩,
            ⟨(some 24), none, .mv (.t 23)⟩,
            ⟨(some 25), (some (24, true)), .mv (.t 3)⟩,
            ⟨(some 26), (some (24, true)), .mv (.t 6)⟩,
            ⟨(some 27), (some (24, true)), .ia 1 (.t 25) (.t 26)⟩,
            ⟨(some 28), (some (24, true)), .ld false 1 (.t 27)⟩,
            ⟨(some 29), (some (24, true)), .mv (.t 4)⟩,
            ⟨(some 30), (some (24, true)), .mv (.t 5)⟩,
            ⟨(some 31), (some (24, true)), .ia 2 (.t 29) (.t 30)⟩,
            ⟨(some 32), (some (24, true)), .fa 0 (.t 31)⟩,
            ⟨(some 33), (some (24, true)), .ld false 1 (.t 32)⟩,
            ⟨(some 34), (some (24, true)), .bin .lss .i (.t 28) (.t 33)⟩,
            ⟨(some 35), none, .pick (.t 24) (.t 34) (.k (V.b false))⟩] [3, 4, 5, 6, 35])
         (.cond (.t 35)
          (.skip)
          (.exit 2)))
        (.block 3 (.reg none [⟨(some 36), none, .mv (.t 6)⟩,
           ⟨(some 37), none, .bin .add .i (.t 36) (.k (V.i 1))⟩,
           ⟨(some 6), none, .mv (.t 37)⟩] [3, 4, 5, 6]))))
      (.reg (some [[], [], [0, 1], [0, 1, 2], [], [], [4, 5], [4, 5, 6], [4, 5, 6, 7], [4, 5, 6, 7, 8], [0, 1, 2, 3, 4, 5, 6, 7, 8, 9], [], [], [11, 12], [0, 1, 2, 3, 4, 5, 6, 7, 8, 9, 10, 11, 12, 13], [0, 1, 2, 3, 4, 5, 6, 7, 8, 9, 10, 11, 12, 13, 14]]) [⟨(some 38), none, .mv (.t 3)⟩,
        ⟨(some 39), none, .mv (.t 6)⟩,
        ⟨(some 40), none, .sl 1 (.t 38) none (some (.t 39))⟩,
        ⟨(some 41), none, .call 96 true [(.t 40)]⟩,
        ⟨(some 42), none, .mv (.t 4)⟩,
        ⟨(some 43), none, .mv (.t 5)⟩,
        ⟨(some 44), none, .ia 2 (.t 42) (.t 43)⟩,
        ⟨(some 45), none, .fa 0 (.t 44)⟩,
        ⟨(some 46), none, .ld false 1 (.t 45)⟩,
        ⟨(some 47), none, .bsl 1 [(.t 46)]⟩,
        ⟨(some 48), none, .app 1 8 true (.t 41) (.t 47)⟩,
        ⟨(some 49), none, .mv (.t 3)⟩,
        ⟨(some 50), none, .mv (.t 6)⟩,
        ⟨(some 51), none, .sl 1 (.t 49) (some (.t 50)) none⟩,
        ⟨(some 52), none, .app 1 8 false (.t 48) (.t 51)⟩,
        ⟨(some 3), none, .mv (.t 52)⟩] [3, 4, 5]))))
    (.reg none [⟨(some 18), none, .mv (.t 5)⟩,
      ⟨(some 19), none, .bin .add .i (.t 18) (.k (V.i 1))⟩,
      ⟨(some 5), none, .mv (.t 19)⟩] [3, 4, 5])))))
  (.seq (.reg none [⟨(some 53), none, .mv (.t 3)⟩,
     ⟨(some 2), none, .mv (.t 53)⟩] [2])
  (.ret))))))
def rv74 : List RV := [.t 2]
open Go.Proofs Go.IntWalk
set_option linter.unusedVariables false
set_option maxRecDepth 100000
set_option maxHeartbeats 4000000
def S_ItemsIn_l2 (g : G) (t : TE) (v1 : Int) (w1 : List Int) (x2 : List Item) : Nat → Int → Option Int
  | 0, v2 =>
    some v2
  | n2 + 1, v2 =>
    gt w1 (g.nat v2) fun x3 =>
    gt x2 (g.nat v1) fun x4 =>
    br (g.lt x3 x4.Id)
    (
     S_ItemsIn_l2 g t v1 w1 x2 n2 (g.wrap .i64 (g.add v2 1)))
    (
     some v2)
def S_ItemsIn_l1 (g : G) (t : TE) (x2 : List Item) : Nat → Int → List Int → Option (List Int)
  | 0, v1, w1 =>
    some w1
  | n1 + 1, v1, w1 =>
    gd (((g.int (g.dlen (t.d_I64 w1))) ≤ 4611686018427387904)) <|
    cl (S_ItemsIn_l2 g t v1 w1 x2 (cntLt 0 (g.int (g.dlen (t.d_I64 w1)))) 0) fun y1 =>
    gd (((0 : Int) ≤ 0 ∧ 0 ≤ y1 ∧ y1 ≤ (((g.dlen (t.d_I64 w1)) : Nat) : Int))) <|
    gd (((g.nat 0) + (g.nsub (g.nat y1) (g.nat 0)) ≤ w1.length)) <|
    cl (S_l1Ints g t (List.take (g.nsub (g.nat y1) (g.nat 0)) (List.drop (g.nat 0) w1))) fun x5 =>
    gt x2 (g.nat v1) fun x6 =>
    lP ([x6.Id]) fun (l2 : List Int) =>
    gd (((x5.length + l2.length) * 8 ≤ 70368744177664)) <|
    lP (x5 ++ l2) fun (l3 : List Int) =>
    gd (((0 : Int) ≤ y1 ∧ y1 ≤ (g.int (g.dlen (t.d_I64 w1))) ∧ (g.int (g.dlen (t.d_I64 w1))) ≤ (((g.dlen (t.d_I64 w1)) : Nat) : Int))) <|
    gd (((g.nat y1) + (g.nsub (g.nat (g.int (g.dlen (t.d_I64 w1)))) (g.nat y1)) ≤ w1.length)) <|
    gd (((l3.length + (List.take (g.nsub (g.nat (g.int (g.dlen (t.d_I64 w1)))) (g.nat y1)) (List.drop (g.nat y1) w1)).length) * 8 ≤ 70368744177664)) <|
    lP (l3 ++ (List.take (g.nsub (g.nat (g.int (g.dlen (t.d_I64 w1)))) (g.nat y1)) (List.drop (g.nat y1) w1))) fun (l4 : List Int) =>
    S_ItemsIn_l1 g t x2 n1 (g.wrap .i64 (g.add v1 1)) l4
def S_ItemsIn (g : G) (t : TE) (a0 : Centre) : Option (List Int) :=
  lP ([]) fun (l1 : List Int) =>
  cl (S_IsCentre g t a0) fun x1 =>
  br x1
  (
   cl (S_l7All g t a0) fun x2 =>
   gd (((g.int (g.dlen (t.d_Item x2))) ≤ 4611686018427387904)) <|
   cl (S_ItemsIn_l1 g t x2 (cntLt 0 (g.int (g.dlen (t.d_Item x2)))) 0 l1) fun y2 =>
   some y2)
  (
   some l1)
theorem fit74 : codeFit Try.prog Try.f74.ntmps (Try.f74.body.getD .skip) ir74 = true := by kernel_rfl
theorem c_S_ItemsIn {g : G} {t : TE} {a0 : Centre} {r : List Int} (hg : g = G.real) (ht : t = TE.real) (h : S_ItemsIn g t a0 = some r) : Fn Try.prog 74 [.g (Centre.rs t a0)] (.c (.o 1 (t.d_I64 r))) := by
  obtain ⟨X, hX⟩ := hide (.c (.o 1 (t.d_I64 r)) : X)
  rw [← hX]
  refine fn_of (rvs := rv74) (j := ir74) Try.func74 rfl fit74 (Nat.le_of_ble_eq_true rfl) (by kernel_rfl) prog_mixed ?_
  intro g2 F hg2 hF
  obtain rfl : g2 = g := hg2.unique.trans hg.symm
  clear hg2
  obtain ⟨wrap, lt, le, eq, quo, rem, band, bor, bxor, shl, shr, nat, int, add, sub, mul, cat, seq, slt, sub3, byte, llen, nadd, nsub, dlen, dapp, dset, drep, rd, rda, up, rsub, dsub, all, sle, slen, hasI, putI, hasS, putS, imin, imax, fzc⟩ := g2
  obtain ⟨r_Item, d_Item, r_Chute, d_Chute, r_Inlet, d_Inlet, r_I64, d_I64, r_U8, d_U8, d_InletF⟩ := t
  obtain ⟨a0_Belt, a0_Chutes, a0_Inlets, a0_Plan, a0_Now⟩ := a0
  have hfr_I64 : ∀ l, freshDss (d_I64 l) = true := fresh_I64 ht
  unfold S_ItemsIn at h
  try dsimp only at h
  cbv
  obtain ⟨l1, hl1, h⟩ := of_lP h
  try dsimp only at h
  refine ANew.mk (d_I64 l1) (dlen (d_I64 l1)) (by rw [← hl1]; exact lit_I64 hg ht []) (by rw [← hl1]; exact litn_I64 hg ht []) ?_
  cbv
  obtain ⟨x1, hx1, h⟩ := of_cl h
  try dsimp only at h
  refine ACall.mk _ _ rfl (hF _ _ _ (c_S_IsCentre hg ht hx1)) (.inl rfl) (Nat.le_of_ble_eq_true rfl) ?_
  cbv
  cases hb1 : x1 with
  | true =>
    rw [br_true hb1] at h
    cbv
    obtain ⟨x2, hx2, h⟩ := of_cl h
    try dsimp only at h
    refine ACall.mk _ _ rfl (hF _ _ _ (c_S_l7All hg ht hx2)) (.inl rfl) (Nat.le_of_ble_eq_true rfl) ?_
    cbv
    obtain ⟨hB1, h⟩ := of_gd h
    obtain ⟨o1, ho1, h⟩ := of_cl h
    try dsimp only at h
    try rw [hg] at ho1
    try rw [ht] at ho1
    refine ABL.mk { p : Nat × Int × List Int // p.1 = cntLt p.2.1 (int (dlen (d_Item x2))) ∧ 0 ≤ p.2.1 ∧ S_ItemsIn_l1 G.real TE.real x2 p.1 p.2.1 p.2.2 = some o1 } (fun ⟨⟨n1, v1, w1⟩, _⟩ => ({ sl := [(3, .c (.f 0 1 0 (dlen (d_I64 w1)))), (4, .c (.f 1 2 0 (dlen (d_Item x2)))), (5, .c (.r (.v (.int .i64 v1))))], tab := [(0, some (.arr 1 (d_I64 w1))), (1, some (.arr 2 (d_Item x2)))] } : St)) 2 (fun p => p.1.1) ⟨(cntLt 0 (int (dlen (d_Item x2))), 0, l1), rfl, Int.le_refl _, ho1⟩ (List Int) (fun y2 => ({ sl := [(3, .c (.f 0 1 0 (dlen (d_I64 y2))))], tab := [(0, some (.arr 1 (d_I64 y2)))] } : St)) 1 (fun y => o1 = y) ?_ ?_ ?_
    · refine Wk.of [(0, some 32), (1, some 128)] rfl rfl ?_ ?_
      · cbv
        all_goals exact ⟨⟨_, rfl, rfl⟩, ⟨_, rfl, rfl⟩, ⟨_, rfl, rfl⟩, trivial⟩
      · cbv
        all_goals exact ⟨⟨_, rfl, rfl⟩, ⟨_, rfl, rfl⟩, trivial⟩
    · rintro ⟨⟨n1, v1, w1⟩, hn1, hi1, h_1⟩ hq1
      try dsimp only at hn1 hi1 h_1
      clear hq1
      cbv
      rcases n1 with _ | n1
      · have hb2 : lt v1 (int (dlen (d_Item x2))) = false := ltC_false hg hn1
        rw [S_ItemsIn_l1] at h_1
        try rw [← hg] at h_1
        try rw [← ht] at h_1
        try dsimp only at h_1
        rw [hb2]
        cbv
        refine ⟨w1, Wk.of [(0, some 0)] rfl rfl ?_ ?_, (Option.some.inj h_1).symm⟩
        · cbv
          all_goals exact ⟨⟨_, rfl, rfl⟩, trivial⟩
        · cbv
          all_goals exact ⟨⟨_, rfl, rfl⟩, trivial⟩
      · have hb2 : lt v1 (int (dlen (d_Item x2))) = true := ltC_true hg hn1
        have hl1 := ltC_le hn1
        have hs1 := stepltC hg hn1 hi1 hB1 (by decide)
        rw [S_ItemsIn_l1] at h_1
        try rw [← hg] at h_1
        try rw [← ht] at h_1
        try dsimp only at h_1
        rw [hb2]
        cbv
        obtain ⟨hB2, h_1⟩ := of_gd h_1
        obtain ⟨o2, ho2, h_1⟩ := of_cl h_1
        try dsimp only at h_1
        try rw [hg] at ho2
        try rw [ht] at ho2
        refine ABL.mk { p : Nat × Int // p.1 = cntLt p.2 (int (dlen (d_I64 w1))) ∧ 0 ≤ p.2 ∧ S_ItemsIn_l2 G.real TE.real v1 w1 x2 p.1 p.2 = some o2 } (fun ⟨⟨n2, v2⟩, _⟩ => ({ sl := [(3, .c (.f 0 1 0 (dlen (d_I64 w1)))), (4, .c (.f 1 2 0 (dlen (d_Item x2)))), (5, .c (.r (.v (.int .i64 v1)))), (6, .c (.r (.v (.int .i64 v2))))], tab := [(0, some (.arr 1 (d_I64 w1))), (1, some (.arr 2 (d_Item x2)))] } : St)) 2 (fun p => p.1.1) ⟨(cntLt 0 (int (dlen (d_I64 w1))), 0), rfl, Int.le_refl _, ho2⟩ (Int) (fun y1 => ({ sl := [(3, .c (.f 0 1 0 (dlen (d_I64 w1)))), (4, .c (.f 1 2 0 (dlen (d_Item x2)))), (5, .c (.r (.v (.int .i64 v1)))), (6, .c (.r (.v (.int .i64 y1))))], tab := [(0, some (.arr 1 (d_I64 w1))), (1, some (.arr 2 (d_Item x2)))] } : St)) 2 (fun y => o2 = y) ?_ ?_ ?_
        · refine Wk.of [(0, some 0), (1, some 1)] rfl rfl ?_ ?_
          · cbv
            all_goals exact ⟨⟨_, rfl, rfl⟩, ⟨_, rfl, rfl⟩, ⟨_, rfl, rfl⟩, ⟨_, rfl, rfl⟩, trivial⟩
          · cbv
            all_goals exact ⟨⟨_, rfl, rfl⟩, ⟨_, rfl, rfl⟩, trivial⟩
        · rintro ⟨⟨n2, v2⟩, hn2, hi2, h_2⟩ hq2
          try dsimp only at hn2 hi2 h_2
          clear hq2
          cbv
          rcases n2 with _ | n2
          · have hb3 : lt v2 (int (dlen (d_I64 w1))) = false := ltC_false hg hn2
            rw [S_ItemsIn_l2] at h_2
            try rw [← hg] at h_2
            try rw [← ht] at h_2
            try dsimp only at h_2
            rw [hb3]
            cbv
            try (rw [hb3]; cbv)
            try (rw [hb3]; cbv)
            try (rw [hb3]; cbv)
            try (rw [hb3]; cbv)
            try (rw [hb3]; cbv)
            try (rw [hb3]; cbv)
            try (rw [hb3]; cbv)
            try (rw [hb3]; cbv)
            try (rw [hb3]; cbv)
            try (rw [hb3]; cbv)
            refine ⟨v2, Wk.of [(0, some 0), (1, some 1)] rfl rfl ?_ ?_, (Option.some.inj h_2).symm⟩
            · cbv
              all_goals exact ⟨⟨_, rfl, rfl⟩, ⟨_, rfl, rfl⟩, ⟨_, rfl, rfl⟩, ⟨_, rfl, rfl⟩, trivial⟩
            · cbv
              all_goals exact ⟨⟨_, rfl, rfl⟩, ⟨_, rfl, rfl⟩, trivial⟩
          · have hb3 : lt v2 (int (dlen (d_I64 w1))) = true := ltC_true hg hn2
            have hl2 := ltC_le hn2
            have hs2 := stepltC hg hn2 hi2 hB2 (by decide)
            rw [S_ItemsIn_l2] at h_2
            try rw [← hg] at h_2
            try rw [← ht] at h_2
            try dsimp only at h_2
            rw [hb3]
            cbv
            try (rw [hb3]; cbv)
            try (rw [hb3]; cbv)
            refine AStep.mk (rg_int hg hi2 hl2) ?_
            cbv
            try (rw [hb3]; cbv)
            obtain ⟨x3, hx3, h_2⟩ := of_gt h_2
            try dsimp only at h_2
            refine AGet.mk _ (d_get_I64 hg ht hx3) ?_
            cbv
            try (rw [hb3]; cbv)
            try (rw [hb3]; cbv)
            try (rw [hb3]; cbv)
            refine AStep.mk (rg_int hg hi1 hl1) ?_
            cbv
            try (rw [hb3]; cbv)
            try (rw [hb3]; cbv)
            obtain ⟨x4, hx4, h_2⟩ := of_gt h_2
            obtain ⟨x4_Id, x4_Dest⟩ := x4
            try dsimp only at h_2
            refine AGet.mk _ (d_get_Item hg ht hx4) ?_
            cbv
            try (rw [hb3]; cbv)
            try (rw [hb3]; cbv)
            cases hb4 : (lt x3 x4_Id) with
            | true =>
              rw [br_true hb4] at h_2
              cbv
              try rw [hg] at h_2
              try rw [ht] at h_2
              refine ⟨⟨(n2, (wrap .i64 (add v2 1))), hs2.1, hs2.2, h_2⟩, Wk.of [(0, some 0), (1, some 1)] rfl rfl ?_ ?_, Nat.lt_succ_self _⟩
              · cbv
                all_goals exact ⟨⟨_, rfl, rfl⟩, ⟨_, rfl, rfl⟩, ⟨_, rfl, rfl⟩, ⟨_, rfl, rfl⟩, trivial⟩
              · cbv
                all_goals exact ⟨⟨_, rfl, rfl⟩, ⟨_, rfl, rfl⟩, trivial⟩
            | false =>
              rw [br_false hb4] at h_2
              cbv
              refine ⟨v2, Wk.of [(0, some 0), (1, some 1)] rfl rfl ?_ ?_, (Option.some.inj h_2).symm⟩
              · cbv
                all_goals exact ⟨⟨_, rfl, rfl⟩, ⟨_, rfl, rfl⟩, ⟨_, rfl, rfl⟩, ⟨_, rfl, rfl⟩, trivial⟩
              · cbv
                all_goals exact ⟨⟨_, rfl, rfl⟩, ⟨_, rfl, rfl⟩, trivial⟩
        · rintro y1 hy2
          replace hy2 := hy2.symm
          subst hy2
          try dsimp only [lr, lrL, lrp, lrpL] at h_1
          cbv
          obtain ⟨hc1, h_1⟩ := of_gd h_1
          refine AStep.mk hc1 ?_
          cbv
          obtain ⟨hc2, h_1⟩ := of_gd h_1
          refine AStep.mk (lendp_I64 ht hc2) ?_
          cbv
          obtain ⟨x5, hx5, h_1⟩ := of_cl h_1
          try dsimp only at h_1
          refine ACall.mk _ _ (by rw [show rd (d_I64 w1) (nat 0) (nsub (nat y1) (nat 0)) = r_I64 (List.take (nsub (nat y1) (nat 0)) (List.drop (nat 0) w1)) from rd_I64 hg ht _ _ _]; try rfl) (hF _ _ _ (c_S_l1Ints hg ht hx5)) (.inr (by simp only [Go.Vs.X.fresh, Go.Vs.X.freshs, freshD, freshDs, Bool.and_self, hfr_I64])) (Nat.le_of_ble_eq_true rfl) ?_
          cbv
          refine AStep.mk (rg_int hg hi1 hl1) ?_
          cbv
          obtain ⟨x6, hx6, h_1⟩ := of_gt h_1
          obtain ⟨x6_Id, x6_Dest⟩ := x6
          try dsimp only at h_1
          refine AGet.mk _ (d_get_Item hg ht hx6) ?_
          cbv
          obtain ⟨l2, hl2, h_1⟩ := of_lP h_1
          try dsimp only at h_1
          refine ANew.mk (d_I64 l2) (dlen (d_I64 l2)) (by rw [← hl2]; exact lit_I64 hg ht [x6_Id]) (by rw [← hl2]; exact litn_I64 hg ht [x6_Id]) ?_
          cbv
          obtain ⟨hc6, h_1⟩ := of_gd h_1
          refine AStep.mk ⟨⟨rfl, (dlen_I64 hg ht _)⟩, (app_ok_I64 hg ht (dlen_I64 hg ht _) rfl hc6)⟩ ?_
          cbv
          obtain ⟨l3, hl3, h_1⟩ := of_lP h_1
          try dsimp only at h_1
          refine ANew.mk (d_I64 l3) (dlen (d_I64 l3)) (by rw [← hl3]; exact app_I64 hg ht (dlen_I64 hg ht _) rfl) (by rw [← hl3]; exact appl_I64 hg ht (dlen_I64 hg ht _) rfl) ?_
          cbv
          obtain ⟨hc3, h_1⟩ := of_gd h_1
          refine AStep.mk hc3 ?_
          cbv
          obtain ⟨hc4, h_1⟩ := of_gd h_1
          obtain ⟨hc5, h_1⟩ := of_gd h_1
          refine AStep.mk ⟨(subp_ok_I64 hg ht hc4), (app_ok_I64 hg ht (dlen_I64 hg ht _) (dsub_I64 hg ht _ _ _) hc5)⟩ ?_
          cbv
          obtain ⟨l4, hl4, h_1⟩ := of_lP h_1
          try dsimp only at h_1
          refine ANew.mk (d_I64 l4) (dlen (d_I64 l4)) (by rw [← hl4]; exact app_I64 hg ht (dlen_I64 hg ht _) (dsub_I64 hg ht _ _ _)) (by rw [← hl4]; exact appl_I64 hg ht (dlen_I64 hg ht _) (dsub_I64 hg ht _ _ _)) ?_
          cbv
          try rw [hg] at h_1
          try rw [ht] at h_1
          refine ⟨⟨(n1, (wrap .i64 (add v1 1)), l4), hs1.1, hs1.2, h_1⟩, Wk.of [(0, some 226), (1, some 1)] rfl rfl ?_ ?_, Nat.lt_succ_self _⟩
          · cbv
            all_goals exact ⟨⟨_, rfl, rfl⟩, ⟨_, rfl, rfl⟩, ⟨_, rfl, rfl⟩, trivial⟩
          · cbv
            all_goals exact ⟨⟨_, rfl, rfl⟩, ⟨_, rfl, rfl⟩, trivial⟩
    · rintro y2 hy1
      replace hy1 := hy1.symm
      subst hy1
      try dsimp only [lr, lrL, lrp, lrpL] at h
      cbv
      obtain rfl := Option.some.inj h
      exact ARet.mk ⟨rfl, (dlen_I64 hg ht _)⟩ hX.symm
  | false =>
    rw [br_false hb1] at h
    cbv
    obtain rfl := Option.some.inj h
    exact ARet.mk ⟨rfl, (dlen_I64 hg ht _)⟩ hX.symm
end Go.Vs
namespace Go.Vs
set_option maxRecDepth 100000
def ir75 : J :=
  .seq (.reg none [⟨(some 4), none, .mv (.k (V.i 0))⟩] [0, 1])
  (.seq (.seq (.reg none [⟨(some 5), none, .mv (.k (V.i 0))⟩] [0, 1, 5])
   (.bl 0 (.seq (.seq (.reg none [⟨(some 6), none, .mv (.t 5)⟩,
        ⟨(some 7), none, .mv (.t 0)⟩,
        ⟨(some 8), none, .len false (.t 7)⟩,
        ⟨(some 9), none, .bin .lss .i (.t 6) (.t 8)⟩] [0, 1, 5, 9])
     (.cond (.t 9)
      (.skip)
      (.exit 0)))
    (.seq (.block 1 (.seq (.seq (.reg none [⟨(some 12), none, .mv (.t 0)⟩,
          ⟨(some 13), none, .mv (.t 5)⟩,
          ⟨(some 14), none, .ia 1 (.t 12) (.t 13)⟩,
          ⟨(some 15), none, .ld false 1 (.t 14)⟩,
          ⟨(some 16), none, .mv (.t 1)⟩,
          ⟨(some 17), none, .bin .neq .i (.t 15) (.t 16)⟩] [0, 1, 5, 17])
       (.cond (.t 17)
        (.seq (.reg none [⟨(some 4), none, .mv (.k (V.i (-1)))⟩] [4])
         (.ret))
        (.skip)))
      (.reg none [⟨(some 18), none, .mv (.t 1)⟩,
        ⟨(some 19), none, .bin .add .i (.t 18) (.k (V.i 1))⟩,
        ⟨(some 1), none, .mv (.t 19)⟩] [0, 1, 5])))
    (.reg none [⟨(some 10), none, .mv (.t 5)⟩,
      ⟨(some 11), none, .bin .add .i (.t 10) (.k (V.i 1))⟩,
      ⟨(some 5), none, .mv (.t 11)⟩] [0, 1, 5])))))
  (.seq (.reg none [⟨(some 20), none, .mv (.t 1)⟩,
     ⟨(some 4), none, .mv (.t 20)⟩] [4])
  (.ret)))
def rv75 : List RV := [.t 4]
open Go.Proofs Go.IntWalk
set_option linter.unusedVariables false
set_option maxRecDepth 100000
set_option maxHeartbeats 4000000
def L_heldIntS_l1 (g : G) (t : TE) : List Int → Int → LR Int Int
  | [], v1 =>
    (LR.out v1)
  | z1 :: ls1, v1 =>
    br (g.eq z1 v1)
    (
     L_heldIntS_l1 g t ls1 (g.wrap .i64 (g.add v1 1)))
    (
     (LR.ret (-1)))
def L_heldIntS (g : G) (t : TE) (a0 : List Int) (a1 : Int) : Int :=
  lP (L_heldIntS_l1 g t a0 a1) fun o1 => lrp o1 fun y1 =>
  y1
theorem fit75 : codeFit Try.prog Try.f75.ntmps (Try.f75.body.getD .skip) ir75 = true := by kernel_rfl
theorem c_L_heldIntS {g : G} {t : TE} {a0 : List Int} {a1 : Int} {r : Int} (hg : g = G.real) (ht : t = TE.real) (h : L_heldIntS g t a0 a1 = r) : Fn Try.prog 75 [.c (.s 1 (t.r_I64 a0)), .c (.v (.int .i64 a1))] (.c (.r (.v (.int .i64 r)))) := by
  obtain ⟨X, hX⟩ := hide (.c (.r (.v (.int .i64 r))) : X)
  rw [← hX]
  refine fn_of (rvs := rv75) (j := ir75) Try.func75 rfl fit75 (Nat.le_of_ble_eq_true rfl) (by kernel_rfl) prog_mixed ?_
  intro g2 F hg2 hF
  obtain rfl : g2 = g := hg2.unique.trans hg.symm
  clear hg2
  obtain ⟨wrap, lt, le, eq, quo, rem, band, bor, bxor, shl, shr, nat, int, add, sub, mul, cat, seq, slt, sub3, byte, llen, nadd, nsub, dlen, dapp, dset, drep, rd, rda, up, rsub, dsub, all, sle, slen, hasI, putI, hasS, putS, imin, imax, fzc⟩ := g2
  obtain ⟨r_Item, d_Item, r_Chute, d_Chute, r_Inlet, d_Inlet, r_I64, d_I64, r_U8, d_U8, d_InletF⟩ := t
  unfold L_heldIntS at h
  try dsimp only at h
  cbv
  obtain ⟨o1, ho1, h⟩ := of_lP h
  try dsimp only at h
  try rw [hg] at ho1
  try rw [ht] at ho1
  refine ABL.mk { p : Nat × Int × Int // p.1 ≤ a0.length ∧ p.2.1 = ((p.1 : Nat) : Int) ∧ L_heldIntS_l1 G.real TE.real (List.drop p.1 a0) p.2.2 = o1 } (fun ⟨⟨k1, v2, v1⟩, _⟩ => ({ sl := [(0, .c (.r (.s 1 (r_I64 a0)))), (1, .c (.r (.v (.int .i64 v1)))), (5, .c (.r (.v (.int .i64 v2))))], tab := [] } : St)) 0 (fun p => a0.length - p.1.1) ⟨(0, 0, a1), Nat.zero_le _, rfl, ho1⟩ (Int) (fun y1 => ({ sl := [(1, .c (.r (.v (.int .i64 y1))))], tab := [] } : St)) 0 (fun y => o1 = LR.out y) ?_ ?_ ?_
  · refine Wk.of [] rfl rfl ?_ ?_
    · cbv
      all_goals exact ⟨⟨_, rfl, rfl⟩, ⟨_, rfl, rfl⟩, ⟨_, rfl, rfl⟩, trivial⟩
    · cbv
      all_goals exact trivial
  · rintro ⟨⟨k1, v2, v1⟩, hk1, hi1, h_1⟩ hq1
    have hm1 := (hq1.1 0 _ _ rfl)
    try dsimp only at hk1 hi1 h_1
    clear hq1
    cbv
    by_cases hc1_ : k1 < a0.length
    · have hb1 : lt v2 (llen (r_I64 a0)) = true := ltL_true_I64 hg ht hi1 hc1_
      have hs1 := stepL_I64 hg ht hi1 hc1_ hm1
      obtain ⟨z1, hz1⟩ := some_of_lt hc1_
      rw [drop_of_some hz1] at h_1
      rw [L_heldIntS_l1] at h_1
      try rw [← hg] at h_1
      try rw [← ht] at h_1
      try dsimp only at h_1
      rw [hb1]
      cbv
      refine AStep.mk (nn_L hi1) ?_
      cbv
      refine AGet.mk _ (r_getL_I64 hg ht hi1 hz1) ?_
      cbv
      cases hb2 : (eq z1 v1) with
      | true =>
        rw [br_true hb2] at h_1
        cbv
        try rw [hg] at h_1
        try rw [ht] at h_1
        refine ⟨⟨(k1 + 1, (wrap .i64 (add v2 1)), (wrap .i64 (add v1 1))), hc1_, hs1, h_1⟩, Wk.of [] rfl rfl ?_ ?_, meas_L hc1_⟩
        · cbv
          all_goals exact ⟨⟨_, rfl, rfl⟩, ⟨_, rfl, rfl⟩, ⟨_, rfl, rfl⟩, trivial⟩
        · cbv
          all_goals exact trivial
      | false =>
        rw [br_false hb2] at h_1
        cbv
        subst h_1
        try dsimp only [lr, lrL, lrp, lrpL] at h
        subst h
        exact ARet.mk trivial hX.symm
    · have hb1 : lt v2 (llen (r_I64 a0)) = false := ltL_false_I64 hg ht hi1 hc1_
      rw [List.drop_of_length_le (Nat.le_of_not_lt hc1_)] at h_1
      rw [L_heldIntS_l1] at h_1
      try rw [← hg] at h_1
      try rw [← ht] at h_1
      try dsimp only at h_1
      rw [hb1]
      cbv
      refine ⟨v1, Wk.of [] rfl rfl ?_ ?_, h_1.symm⟩
      · cbv
        all_goals exact ⟨⟨_, rfl, rfl⟩, trivial⟩
      · cbv
        all_goals exact trivial
  · rintro y1 hy1
    replace hy1 := hy1.symm
    subst hy1
    try dsimp only [lr, lrL, lrp, lrpL] at h
    cbv
    subst h
    exact ARet.mk trivial hX.symm
end Go.Vs
namespace Go.Vs
set_option maxRecDepth 100000
def ir23 : J :=
  .seq (.reg none [⟨(some 1), none, .box (.t 0)⟩,
     ⟨(some 2), none, .mv (.k (V.b false))⟩] [1])
  (.seq (.reg none [⟨(some 3), none, .mv (.k (V.i 1048576))⟩] [1, 3])
  (.seq (.reg none [⟨(some 11), none, .ld true 5 (.t 1)⟩,
     ⟨(some 12), none, .mv (.t 3)⟩,
     ⟨(some 13), none, .call 24 true [(.t 11), (.t 12)]⟩,
     ⟨(some 3), none, .mv (.t 13)⟩] [1, 3])
  (.seq (.seq (.reg none [⟨(some 14), none, .mv (.t 3)⟩,
      ⟨(some 15), none, .bin .lss .i (.t 14) (.k (V.i 0))⟩] [1, 15])
   (.cond (.t 15)
    (.seq (.reg none [⟨(some 2), none, .mv (.k (V.b true))⟩] [2])
     (.ret))
    (.skip)))
  (.seq (.reg none [⟨(some 16), none, .ld true 5 (.t 1)⟩,
     ⟨(some 17), none, .call 26 false [(.t 16)]⟩,
     ⟨(some 18), none, .call 74 false [(.t 17)]⟩,
     ⟨(some 4), none, .mv (.t 18)⟩] [1, 4])
  (.seq (.reg none [⟨(some 19), none, .ld true 5 (.t 1)⟩,
     ⟨(some 20), none, .call 26 true [(.t 19)]⟩,
     ⟨(some 5), none, .alloc [.n 2, .n 3, .n 2, .n 1, .r (.v (.int .i64 0))]⟩,
     ⟨none, none, .st 5 (.t 5) (.t 20)⟩] [1, 4, 5])
  (.seq (.reg none [⟨(some 21), none, .ld true 5 (.t 5)⟩,
     ⟨(some 22), none, .call 73 true [(.t 21)]⟩,
     ⟨(some 6), none, .mv (.t 22)⟩] [1, 4, 5, 6])
  (.seq (.seq (.reg none [⟨(some 23), none, .mv (.t 6)⟩,
      ⟨(some 24), none, .mv (.t 4)⟩,
      ⟨(some 25), none, .call 47 true [(.t 23), (.t 24)]⟩,
      ⟨(some 26), none, .not (.t 25)⟩] [1, 4, 5, 6, 26])
   (.cond (.t 26)
    (.seq (.reg none [⟨(some 2), none, .mv (.k (V.b false))⟩] [2])
     (.ret))
    (.skip)))
  (.seq (.seq (.reg (some [[], [], [1], [0, 1, 2], [0, 1, 2, 3]]) [⟨(some 27), none, .ld true 5 (.t 5)⟩,
      ⟨(some 28), none, .ld true 5 (.t 1)⟩,
      ⟨(some 29), none, .call 26 false [(.t 28)]⟩,
      ⟨(some 30), none, .call 28 true [(.t 27), (.t 29)]⟩,
      ⟨(some 31), none, .not (.t 30)⟩] [1, 4, 5, 6, 31])
   (.cond (.t 31)
    (.seq (.reg none [⟨(some 2), none, .mv (.k (V.b false))⟩] [2])
     (.ret))
    (.skip)))
  (.seq (.reg none [⟨(some 7), none, .mv (.k (V.i 1))⟩] [1, 4, 5, 6, 7])
  (.seq (.reg none [⟨(some 32), none, .ld true 5 (.t 5)⟩,
     ⟨(some 33), none, .mv (.t 7)⟩,
     ⟨(some 34), none, .callm 49 (.t 32) [(.t 33)]⟩,
     ⟨(some 7), none, .mv (.t 34)⟩] [1, 4, 6, 7])
  (.seq (.seq (.reg none [⟨(some 35), none, .mv (.t 7)⟩,
      ⟨(some 36), none, .bin .lss .i (.t 35) (.k (V.i 0))⟩,
      ⟨(some 37), none, .mv (.t 36)⟩,
      ⟨(some 38), (some (37, false)), .mv (.t 6)⟩,
      ⟨(some 39), (some (37, false)), .mv (.t 4)⟩,
      ⟨(some 40), (some (37, false)), .call 47 true [(.t 38), (.t 39)]⟩,
      ⟨(some 41), (some (37, false)), .not (.t 40)⟩,
      ⟨(some 42), none, .pick (.t 37) (.k (V.b true)) (.t 41)⟩] [1, 4, 6, 42])
   (.cond (.t 42)
    (.seq (.reg none [⟨(some 2), none, .mv (.k (V.b false))⟩] [2])
     (.ret))
    (.skip)))
  (.seq (.reg none [⟨(some 8), none, .mv (.k (V.i 1))⟩] [1, 4, 6, 8])
  (.seq (.reg none [⟨(some 43), none, .mv (.t 6)⟩,
     ⟨(some 44), none, .mv (.t 8)⟩,
     ⟨(some 45), none, .callm 48 (.t 43) [(.t 44)]⟩,
     ⟨(some 8), none, .mv (.t 45)⟩] [1, 4, 6, 8])
  (.seq (.reg none [⟨(some 9), none, .mv (.k (V.i 1))⟩] [1, 4, 6, 8, 9])
  (.seq (.reg none [⟨(some 46), none, .mv (.t 6)⟩,
     ⟨(some 47), none, .mv (.t 9)⟩,
     ⟨(some 48), none, .call 75 true [(.t 46), (.t 47)]⟩,
     ⟨(some 9), none, .mv (.t 48)⟩] [1, 4, 6, 8, 9])
  (.seq (.seq (.reg none [⟨(some 49), none, .mv (.t 9)⟩,
      ⟨(some 50), none, .bin .lss .i (.t 49) (.k (V.i 0))⟩] [1, 4, 6, 8, 9, 50])
   (.cond (.t 50)
    (.seq (.reg none [⟨(some 2), none, .mv (.k (V.b false))⟩] [2])
     (.ret))
    (.skip)))
  (.seq (.seq (.reg none [⟨(some 51), none, .mv (.t 9)⟩,
      ⟨(some 52), none, .mv (.t 8)⟩,
      ⟨(some 53), none, .bin .neq .i (.t 51) (.t 52)⟩] [1, 4, 6, 8, 53])
   (.cond (.t 53)
    (.seq (.reg none [⟨(some 2), none, .mv (.k (V.b false))⟩] [2])
     (.ret))
    (.skip)))
  (.seq (.reg none [⟨(some 54), none, .ld true 5 (.t 1)⟩,
     ⟨(some 55), none, .call 26 false [(.t 54)]⟩,
     ⟨(some 56), none, .call 73 false [(.t 55)]⟩,
     ⟨(some 10), none, .mv (.t 56)⟩] [4, 6, 8, 10])
  (.seq (.seq (.reg none [⟨(some 57), none, .mv (.t 10)⟩,
      ⟨(some 58), none, .mv (.t 4)⟩,
      ⟨(some 59), none, .call 47 true [(.t 57), (.t 58)]⟩,
      ⟨(some 60), none, .not (.t 59)⟩] [6, 8, 60])
   (.cond (.t 60)
    (.seq (.reg none [⟨(some 2), none, .mv (.k (V.b false))⟩] [2])
     (.ret))
    (.skip)))
  (.seq (.reg none [⟨(some 9), none, .mv (.k (V.i 1))⟩] [6, 8, 9])
  (.seq (.reg none [⟨(some 61), none, .mv (.t 6)⟩,
     ⟨(some 62), none, .mv (.t 9)⟩,
     ⟨(some 63), none, .call 75 true [(.t 61), (.t 62)]⟩,
     ⟨(some 9), none, .mv (.t 63)⟩] [8, 9])
  (.seq (.seq (.reg none [⟨(some 64), none, .mv (.t 9)⟩,
      ⟨(some 65), none, .bin .lss .i (.t 64) (.k (V.i 0))⟩] [8, 9, 65])
   (.cond (.t 65)
    (.seq (.reg none [⟨(some 2), none, .mv (.k (V.b false))⟩] [2])
     (.ret))
    (.skip)))
  (.seq (.seq (.reg none [⟨(some 66), none, .mv (.t 9)⟩,
      ⟨(some 67), none, .mv (.t 8)⟩,
      ⟨(some 68), none, .bin .neq .i (.t 66) (.t 67)⟩] [68])
   (.cond (.t 68)
    (.seq (.reg none [⟨(some 2), none, .mv (.k (V.b false))⟩] [2])
     (.ret))
    (.skip)))
  (.seq (.reg none [⟨(some 2), none, .mv (.k (V.b true))⟩] [2])
  (.ret)))))))))))))))))))))))))
def rv23 : List RV := [.t 2]
open Go.Proofs Go.IntWalk
set_option linter.unusedVariables false
set_option maxRecDepth 100000
set_option maxHeartbeats 4000000
def L_FnExactItemsIn (g : G) (t : TE) (a0 : Centre) : Option Bool :=
  lP (L_szCentre g t a0 1048576) fun x1 =>
  br (g.lt x1 0)
  (
   some true)
  (
   cl (L_toCentre g t a0) fun x2 =>
   cl (S_ItemsIn g t x2) fun x3 =>
   cl (L_toCentre g t a0) fun x4 =>
   cl (I_ItemsIn g t x4) fun x5 =>
   cl (L_eqIntS g t x5 x3) fun x6 =>
   br x6
   (
    cl (L_toCentre g t a0) fun x7 =>
    cl (L_eqCentre g t x4 x7) fun x8 =>
    br x8
    (
     cl (L_markCentre g t x4 1) fun x9 =>
     gd ((x9.2.Belt.length = x4.Belt.length)) <|
     gd ((x9.2.Chutes.length = x4.Chutes.length)) <|
     gd ((x9.2.Inlets.length = x4.Inlets.length)) <|
     gd ((x9.2.Plan.length = x4.Plan.length)) <|
     br (g.lt x9.1 0)
     (
      some false)
     (
      cl (L_eqIntS g t x5 x3) fun x10 =>
      br x10
      (
       cl (L_markIntS g t x5 1) fun x11 =>
       gd ((x11.2.length = x5.length)) <|
       lP (L_heldIntS g t x11.2 1) fun x12 =>
       br (g.lt x12 0)
       (
        some false)
       (
        br (g.eq x12 x11.1)
        (
         cl (L_toCentre g t a0) fun x13 =>
         cl (I_ItemsIn g t x13) fun x14 =>
         cl (L_eqIntS g t x14 x3) fun x15 =>
         br x15
         (
          lP (L_heldIntS g t x11.2 1) fun x16 =>
          br (g.lt x16 0)
          (
           some false)
          (
           br (g.eq x16 x11.1)
           (
            some true)
           (
            some false)))
         (
          some false))
        (
         some false)))
      (
       some false)))
    (
     some false))
   (
    some false))
theorem fit23 : codeFit Try.prog Try.f23.ntmps (Try.f23.body.getD .skip) ir23 = true := by kernel_rfl
theorem c_L_FnExactItemsIn {g : G} {t : TE} {a0 : Centre} {r : Bool} (hg : g = G.real) (ht : t = TE.real) (h : L_FnExactItemsIn g t a0 = some r) : Fn Try.prog 23 [.g (Centre.rs t a0)] (.c (.r (.v (.bool r)))) := by
  obtain ⟨X, hX⟩ := hide (.c (.r (.v (.bool r))) : X)
  rw [← hX]
  refine fn_of (rvs := rv23) (j := ir23) Try.func23 rfl fit23 (Nat.le_of_ble_eq_true rfl) (by kernel_rfl) prog_mixed ?_
  intro g2 F hg2 hF
  obtain rfl : g2 = g := hg2.unique.trans hg.symm
  clear hg2
  obtain ⟨wrap, lt, le, eq, quo, rem, band, bor, bxor, shl, shr, nat, int, add, sub, mul, cat, seq, slt, sub3, byte, llen, nadd, nsub, dlen, dapp, dset, drep, rd, rda, up, rsub, dsub, all, sle, slen, hasI, putI, hasS, putS, imin, imax, fzc⟩ := g2
  obtain ⟨r_Item, d_Item, r_Chute, d_Chute, r_Inlet, d_Inlet, r_I64, d_I64, r_U8, d_U8, d_InletF⟩ := t
  obtain ⟨a0_Belt, a0_Chutes, a0_Inlets, a0_Plan, a0_Now⟩ := a0
  have hrda_Item : ∀ l, rda (d_Item l) = r_Item l := rda_Item hg ht
  have hrda_Chute : ∀ l, rda (d_Chute l) = r_Chute l := rda_Chute hg ht
  have hrda_Inlet : ∀ l, rda (d_Inlet l) = r_Inlet l := rda_Inlet hg ht
  have hfr_I64 : ∀ l, freshDss (d_I64 l) = true := fresh_I64 ht
  have hrda_I64 : ∀ l, rda (d_I64 l) = r_I64 l := rda_I64 hg ht
  unfold L_FnExactItemsIn at h
  try dsimp only at h
  cbv
  obtain ⟨x1, hx1, h⟩ := of_lP h
  try dsimp only at h
  refine ACall.mk _ _ rfl (hF _ _ _ (c_L_szCentre hg ht hx1)) (.inl rfl) (Nat.le_of_ble_eq_true rfl) ?_
  cbv
  cases hb1 : (lt x1 0) with
  | true =>
    rw [br_true hb1] at h
    cbv
    obtain rfl := Option.some.inj h
    exact ARet.mk trivial hX.symm
  | false =>
    rw [br_false hb1] at h
    cbv
    obtain ⟨x2, hx2, h⟩ := of_cl h
    obtain ⟨x2_Belt, x2_Chutes, x2_Inlets, x2_Plan, x2_Now⟩ := x2
    try dsimp only at h
    refine ACallR.mk _ _ (.g [.r (.s 2 (r_Item x2_Belt)), .r (.s 3 (r_Chute x2_Chutes)), .r (.s 2 (r_Inlet x2_Inlets)), .r (.s 1 (r_I64 x2_Plan)), .r (.v (.int .i64 x2_Now))]) rfl (hF _ _ _ (c_L_toCentre hg ht hx2)) (.inl rfl) (Nat.le_of_ble_eq_true rfl) (by cbv; (try simp only [hrda_Chute, hrda_I64, hrda_Inlet, hrda_Item])) ?_
    cbv
    obtain ⟨x3, hx3, h⟩ := of_cl h
    try dsimp only at h
    refine ACallR.mk _ _ (.c (.r (.s 1 (r_I64 x3)))) rfl (hF _ _ _ (c_S_ItemsIn hg ht hx3)) (.inl rfl) (Nat.le_of_ble_eq_true rfl) (by cbv; (try simp only [hrda_I64])) ?_
    cbv
    obtain ⟨x4, hx4, h⟩ := of_cl h
    obtain ⟨x4_Belt, x4_Chutes, x4_Inlets, x4_Plan, x4_Now⟩ := x4
    try dsimp only at h
    refine ACall.mk _ _ rfl (hF _ _ _ (c_L_toCentre hg ht hx4)) (.inl rfl) (Nat.le_of_ble_eq_true rfl) ?_
    cbv
    refine AStep.mk ⟨(lend_Item ht (dlen_Item hg ht _)), ⟨(lend_Chute ht (dlen_Chute hg ht _)), ⟨(lend_Inlet ht (dlen_Inlet hg ht _)), (lend_I64 ht (dlen_I64 hg ht _))⟩⟩⟩ ?_
    cbv
    obtain ⟨x5, hx5, h⟩ := of_cl h
    try dsimp only at h
    refine ACall.mk _ _ (by rw [show rd (d_Item x4_Belt) 0 (dlen (d_Item x4_Belt)) = r_Item x4_Belt from rdw_Item hg ht (dlen_Item hg ht _), show rd (d_Chute x4_Chutes) 0 (dlen (d_Chute x4_Chutes)) = r_Chute x4_Chutes from rdw_Chute hg ht (dlen_Chute hg ht _), show rd (d_Inlet x4_Inlets) 0 (dlen (d_Inlet x4_Inlets)) = r_Inlet x4_Inlets from rdw_Inlet hg ht (dlen_Inlet hg ht _), show rd (d_I64 x4_Plan) 0 (dlen (d_I64 x4_Plan)) = r_I64 x4_Plan from rdw_I64 hg ht (dlen_I64 hg ht _)]; try rfl) (hF _ _ _ (c_I_ItemsIn hg ht hx5)) (.inr (by simp only [Go.Vs.X.fresh, Go.Vs.X.freshs, freshD, freshDs, Bool.and_self, hfr_I64])) (Nat.le_of_ble_eq_true rfl) ?_
    cbv
    refine AStep.mk (lend_I64 ht (dlen_I64 hg ht _)) ?_
    cbv
    obtain ⟨x6, hx6, h⟩ := of_cl h
    try dsimp only at h
    refine ACall.mk _ _ (by rw [show rd (d_I64 x5) 0 (dlen (d_I64 x5)) = r_I64 x5 from rdw_I64 hg ht (dlen_I64 hg ht _)]; try rfl) (hF _ _ _ (c_L_eqIntS hg ht hx6)) (.inr rfl) (Nat.le_of_ble_eq_true rfl) ?_
    cbv
    cases hb2 : x6 with
    | true =>
      rw [br_true hb2] at h
      cbv
      obtain ⟨x7, hx7, h⟩ := of_cl h
      obtain ⟨x7_Belt, x7_Chutes, x7_Inlets, x7_Plan, x7_Now⟩ := x7
      try dsimp only at h
      refine ACallR.mk _ _ (.g [.r (.s 2 (r_Item x7_Belt)), .r (.s 3 (r_Chute x7_Chutes)), .r (.s 2 (r_Inlet x7_Inlets)), .r (.s 1 (r_I64 x7_Plan)), .r (.v (.int .i64 x7_Now))]) rfl (hF _ _ _ (c_L_toCentre hg ht hx7)) (.inl rfl) (Nat.le_of_ble_eq_true rfl) (by cbv; (try simp only [hrda_Chute, hrda_I64, hrda_Inlet, hrda_Item])) ?_
      cbv
      refine AStep.mk ⟨(lend_Item ht (dlen_Item hg ht _)), ⟨(lend_Chute ht (dlen_Chute hg ht _)), ⟨(lend_Inlet ht (dlen_Inlet hg ht _)), (lend_I64 ht (dlen_I64 hg ht _))⟩⟩⟩ ?_
      cbv
      obtain ⟨x8, hx8, h⟩ := of_cl h
      try dsimp only at h
      refine ACall.mk _ _ (by rw [show rd (d_Item x4_Belt) 0 (dlen (d_Item x4_Belt)) = r_Item x4_Belt from rdw_Item hg ht (dlen_Item hg ht _), show rd (d_Chute x4_Chutes) 0 (dlen (d_Chute x4_Chutes)) = r_Chute x4_Chutes from rdw_Chute hg ht (dlen_Chute hg ht _), show rd (d_Inlet x4_Inlets) 0 (dlen (d_Inlet x4_Inlets)) = r_Inlet x4_Inlets from rdw_Inlet hg ht (dlen_Inlet hg ht _), show rd (d_I64 x4_Plan) 0 (dlen (d_I64 x4_Plan)) = r_I64 x4_Plan from rdw_I64 hg ht (dlen_I64 hg ht _)]; try rfl) (hF _ _ _ (c_L_eqCentre hg ht hx8)) (.inr rfl) (Nat.le_of_ble_eq_true rfl) ?_
      cbv
      cases hb3 : x8 with
      | true =>
        rw [br_true hb3] at h
        cbv
        refine AStep.mk ⟨⟨rfl, (dlen_Item hg ht _)⟩, ⟨⟨rfl, (dlen_Chute hg ht _)⟩, ⟨⟨rfl, (dlen_Inlet hg ht _)⟩, ⟨rfl, (dlen_I64 hg ht _)⟩⟩⟩⟩ ?_
        cbv
        obtain ⟨x9, hx9, h⟩ := of_cl h
        obtain ⟨x9_1, ⟨x9_2_Belt, x9_2_Chutes, x9_2_Inlets, x9_2_Plan, x9_2_Now⟩⟩ := x9
        try dsimp only at h
        refine ACallM.mk _ _ _ _ rfl rfl (hF _ _ _ (c_L_markCentre hg ht hx9)) rfl (Nat.le_of_ble_eq_true rfl) (Nat.le_of_ble_eq_true rfl) ?_
        cbv
        obtain ⟨hc1, h⟩ := of_gd h
        obtain ⟨hc2, h⟩ := of_gd h
        obtain ⟨hc3, h⟩ := of_gd h
        obtain ⟨hc4, h⟩ := of_gd h
        cases hb4 : (lt x9_1 0) with
        | true =>
          rw [br_true hb4] at h
          cbv
          try (rw [hb4]; cbv)
          try (rw [hb4]; cbv)
          try (rw [hb4]; cbv)
          try (rw [hb4]; cbv)
          obtain rfl := Option.some.inj h
          exact ARet.mk trivial hX.symm
        | false =>
          rw [br_false hb4] at h
          cbv
          try (rw [hb4]; cbv)
          try (rw [hb4]; cbv)
          refine AStep.mk (lend_I64 ht (dlen_I64 hg ht _)) ?_
          cbv
          obtain ⟨x10, hx10, h⟩ := of_cl h
          try dsimp only at h
          refine ACall.mk _ _ (by rw [show rd (d_I64 x5) 0 (dlen (d_I64 x5)) = r_I64 x5 from rdw_I64 hg ht (dlen_I64 hg ht _)]; try rfl) (hF _ _ _ (c_L_eqIntS hg ht hx10)) (.inr rfl) (Nat.le_of_ble_eq_true rfl) ?_
          cbv
          try (rw [hb4]; cbv)
          try (rw [hb4]; cbv)
          cases hb5 : x10 with
          | true =>
            rw [br_true hb5] at h
            cbv
            refine AStep.mk ⟨rfl, (dlen_I64 hg ht _)⟩ ?_
            cbv
            obtain ⟨x11, hx11, h⟩ := of_cl h
            obtain ⟨x11_1, x11_2⟩ := x11
            try dsimp only at h
            refine ACallM.mk _ _ _ _ rfl rfl (hF _ _ _ (c_L_markIntS hg ht hx11)) rfl (Nat.le_of_ble_eq_true rfl) (Nat.le_of_ble_eq_true rfl) ?_
            cbv
            obtain ⟨hc5, h⟩ := of_gd h
            refine AStep.mk (lend_I64 ht (lenp_I64 ht (dlen_I64 hg ht _) hc5)) ?_
            cbv
            obtain ⟨x12, hx12, h⟩ := of_lP h
            try dsimp only at h
            refine ACall.mk _ _ (by rw [show rd (d_I64 x11_2) 0 (dlen (d_I64 x5)) = r_I64 x11_2 from rdw_I64 hg ht (lenp_I64 ht (dlen_I64 hg ht _) hc5)]; try rfl) (hF _ _ _ (c_L_heldIntS hg ht hx12)) (.inr rfl) (Nat.le_of_ble_eq_true rfl) ?_
            cbv
            cases hb6 : (lt x12 0) with
            | true =>
              rw [br_true hb6] at h
              cbv
              obtain rfl := Option.some.inj h
              exact ARet.mk trivial hX.symm
            | false =>
              rw [br_false hb6] at h
              cbv
              cases hb7 : (eq x12 x11_1) with
              | true =>
                rw [br_true hb7] at h
                cbv
                obtain ⟨x13, hx13, h⟩ := of_cl h
                obtain ⟨x13_Belt, x13_Chutes, x13_Inlets, x13_Plan, x13_Now⟩ := x13
                try dsimp only at h
                refine ACallR.mk _ _ (.g [.r (.s 2 (r_Item x13_Belt)), .r (.s 3 (r_Chute x13_Chutes)), .r (.s 2 (r_Inlet x13_Inlets)), .r (.s 1 (r_I64 x13_Plan)), .r (.v (.int .i64 x13_Now))]) rfl (hF _ _ _ (c_L_toCentre hg ht hx13)) (.inl rfl) (Nat.le_of_ble_eq_true rfl) (by cbv; (try simp only [hrda_Chute, hrda_I64, hrda_Inlet, hrda_Item])) ?_
                cbv
                obtain ⟨x14, hx14, h⟩ := of_cl h
                try dsimp only at h
                refine ACallR.mk _ _ (.c (.r (.s 1 (r_I64 x14)))) rfl (hF _ _ _ (c_I_ItemsIn hg ht hx14)) (.inl rfl) (Nat.le_of_ble_eq_true rfl) (by cbv; (try simp only [hrda_I64])) ?_
                cbv
                obtain ⟨x15, hx15, h⟩ := of_cl h
                try dsimp only at h
                refine ACall.mk _ _ rfl (hF _ _ _ (c_L_eqIntS hg ht hx15)) (.inl rfl) (Nat.le_of_ble_eq_true rfl) ?_
                cbv
                cases hb8 : x15 with
                | true =>
                  rw [br_true hb8] at h
                  cbv
                  refine AStep.mk (lend_I64 ht (lenp_I64 ht (dlen_I64 hg ht _) hc5)) ?_
                  cbv
                  obtain ⟨x16, hx16, h⟩ := of_lP h
                  try dsimp only at h
                  refine ACall.mk _ _ (by rw [show rd (d_I64 x11_2) 0 (dlen (d_I64 x5)) = r_I64 x11_2 from rdw_I64 hg ht (lenp_I64 ht (dlen_I64 hg ht _) hc5)]; try rfl) (hF _ _ _ (c_L_heldIntS hg ht hx16)) (.inr rfl) (Nat.le_of_ble_eq_true rfl) ?_
                  cbv
                  cases hb9 : (lt x16 0) with
                  | true =>
                    rw [br_true hb9] at h
                    cbv
                    obtain rfl := Option.some.inj h
                    exact ARet.mk trivial hX.symm
                  | false =>
                    rw [br_false hb9] at h
                    cbv
                    cases hb10 : (eq x16 x11_1) with
                    | true =>
                      rw [br_true hb10] at h
                      cbv
                      obtain rfl := Option.some.inj h
                      exact ARet.mk trivial hX.symm
                    | false =>
                      rw [br_false hb10] at h
                      cbv
                      obtain rfl := Option.some.inj h
                      exact ARet.mk trivial hX.symm
                | false =>
                  rw [br_false hb8] at h
                  cbv
                  obtain rfl := Option.some.inj h
                  exact ARet.mk trivial hX.symm
              | false =>
                rw [br_false hb7] at h
                cbv
                obtain rfl := Option.some.inj h
                exact ARet.mk trivial hX.symm
          | false =>
            rw [br_false hb5] at h
            cbv
            obtain rfl := Option.some.inj h
            exact ARet.mk trivial hX.symm
      | false =>
        rw [br_false hb3] at h
        cbv
        obtain rfl := Option.some.inj h
        exact ARet.mk trivial hX.symm
    | false =>
      rw [br_false hb2] at h
      cbv
      obtain rfl := Option.some.inj h
      exact ARet.mk trivial hX.symm
end Go.Vs
namespace Go.Vs
set_option maxRecDepth 100000
def ir33 : J :=
  .seq (.reg none [⟨(some 2), none, .mv (.k (V.b false))⟩] [0])
  (.seq (.reg none [⟨(some 3), none, .mv (.t 0)⟩,
     ⟨(some 4), none, .len false (.t 3)⟩,
     ⟨(some 5), none, .bin .gtr .i (.t 4) (.k (V.i 4096))⟩,
     ⟨(some 2), none, .mv (.t 5)⟩] [2])
  (.ret))
def rv33 : List RV := [.t 2]
open Go.Proofs Go.IntWalk
set_option linter.unusedVariables false
set_option maxRecDepth 100000
set_option maxHeartbeats 4000000
def L_big (g : G) (t : TE) (a0 : List Int) : Bool :=
  (g.lt 4096 (g.llen (t.r_U8 a0)))
theorem fit33 : codeFit Try.prog Try.f33.ntmps (Try.f33.body.getD .skip) ir33 = true := by kernel_rfl
theorem c_L_big {g : G} {t : TE} {a0 : List Int} {r : Bool} (hg : g = G.real) (ht : t = TE.real) (h : L_big g t a0 = r) : Fn Try.prog 33 [.c (.s 1 (t.r_U8 a0))] (.c (.r (.v (.bool r)))) := by
  obtain ⟨X, hX⟩ := hide (.c (.r (.v (.bool r))) : X)
  rw [← hX]
  refine fn_of (rvs := rv33) (j := ir33) Try.func33 rfl fit33 (Nat.le_of_ble_eq_true rfl) (by kernel_rfl) prog_mixed ?_
  intro g2 F hg2 hF
  obtain rfl : g2 = g := hg2.unique.trans hg.symm
  clear hg2
  obtain ⟨wrap, lt, le, eq, quo, rem, band, bor, bxor, shl, shr, nat, int, add, sub, mul, cat, seq, slt, sub3, byte, llen, nadd, nsub, dlen, dapp, dset, drep, rd, rda, up, rsub, dsub, all, sle, slen, hasI, putI, hasS, putS, imin, imax, fzc⟩ := g2
  obtain ⟨r_Item, d_Item, r_Chute, d_Chute, r_Inlet, d_Inlet, r_I64, d_I64, r_U8, d_U8, d_InletF⟩ := t
  unfold L_big at h
  try dsimp only at h
  cbv
  subst h
  exact ARet.mk trivial hX.symm
end Go.Vs
namespace Go.Vs
set_option maxRecDepth 100000
def ir109 : J :=
  .seq (.reg none [⟨(some 2), none, .mv (.k (.c (.n 2)))⟩] [0])
  (.seq (.reg none [⟨(some 3), none, .bsl 2 []⟩,
     ⟨(some 4), none, .mv (.t 0)⟩,
     ⟨(some 5), none, .app 2 16 false (.t 3) (.t 4)⟩,
     ⟨(some 2), none, .mv (.t 5)⟩] [2])
  (.ret))
def rv109 : List RV := [.t 2]
open Go.Proofs Go.IntWalk
set_option linter.unusedVariables false
set_option maxRecDepth 100000
set_option maxHeartbeats 4000000
def I_copyItems (g : G) (t : TE) (a0 : List Item) : Option (List Item) :=
  lP ([]) fun (l1 : List Item) =>
  gd (((l1.length + a0.length) * 16 ≤ 70368744177664)) <|
  lP (l1 ++ a0) fun (l2 : List Item) =>
  some l2
theorem fit109 : codeFit Try.prog Try.f109.ntmps (Try.f109.body.getD .skip) ir109 = true := by kernel_rfl
theorem c_I_copyItems {g : G} {t : TE} {a0 : List Item} {r : List Item} (hg : g = G.real) (ht : t = TE.real) (h : I_copyItems g t a0 = some r) : Fn Try.prog 109 [.c (.s 2 (t.r_Item a0))] (.c (.o 2 (t.d_Item r))) := by
  obtain ⟨X, hX⟩ := hide (.c (.o 2 (t.d_Item r)) : X)
  rw [← hX]
  refine fn_of (rvs := rv109) (j := ir109) Try.func109 rfl fit109 (Nat.le_of_ble_eq_true rfl) (by kernel_rfl) prog_mixed ?_
  intro g2 F hg2 hF
  obtain rfl : g2 = g := hg2.unique.trans hg.symm
  clear hg2
  obtain ⟨wrap, lt, le, eq, quo, rem, band, bor, bxor, shl, shr, nat, int, add, sub, mul, cat, seq, slt, sub3, byte, llen, nadd, nsub, dlen, dapp, dset, drep, rd, rda, up, rsub, dsub, all, sle, slen, hasI, putI, hasS, putS, imin, imax, fzc⟩ := g2
  obtain ⟨r_Item, d_Item, r_Chute, d_Chute, r_Inlet, d_Inlet, r_I64, d_I64, r_U8, d_U8, d_InletF⟩ := t
  unfold I_copyItems at h
  try dsimp only at h
  cbv
  obtain ⟨l1, hl1, h⟩ := of_lP h
  try dsimp only at h
  refine ANew.mk (d_Item l1) (dlen (d_Item l1)) (by rw [← hl1]; exact lit_Item hg ht []) (by rw [← hl1]; exact litn_Item hg ht []) ?_
  cbv
  obtain ⟨hc1, h⟩ := of_gd h
  refine AStep.mk (app_ok_Item hg ht (dlen_Item hg ht _) (up_Item hg ht _) hc1) ?_
  cbv
  obtain ⟨l2, hl2, h⟩ := of_lP h
  try dsimp only at h
  refine ANew.mk (d_Item l2) (dlen (d_Item l2)) (by rw [← hl2]; exact app_Item hg ht (dlen_Item hg ht _) (up_Item hg ht _)) (by rw [← hl2]; exact appl_Item hg ht (dlen_Item hg ht _) (up_Item hg ht _)) ?_
  cbv
  obtain rfl := Option.some.inj h
  exact ARet.mk ⟨rfl, (dlen_Item hg ht _)⟩ hX.symm
end Go.Vs
namespace Go.Vs
set_option maxRecDepth 100000
def ir94 : J :=
  .seq (.reg none [⟨(some 1), none, .box (.t 0)⟩,
     ⟨(some 2), none, .alloc [.n 2, .n 3, .n 2, .n 1, .r (.v (.int .i64 0))]⟩] [1, 2])
  (.seq (.reg (some [[], [0], [0, 1], [], [], [4], [0, 1, 2, 3, 4, 5], [], [7], [0, 1, 2, 3, 4, 5, 6, 7, 8], [], [0, 1, 2, 3, 4, 5, 6, 7, 8, 9, 10]]) [⟨(some 8), none, .fa 0 (.t 1)⟩,
     ⟨(some 9), none, .ld false 1 (.t 8)⟩,
     ⟨(some 10), none, .call 109 true [(.t 9)]⟩,
     ⟨(some 11), none, .bsl 1 []⟩,
     ⟨(some 12), none, .fa 3 (.t 1)⟩,
     ⟨(some 13), none, .ld false 1 (.t 12)⟩,
     ⟨(some 14), none, .app 1 8 false (.t 11) (.t 13)⟩,
     ⟨(some 15), none, .fa 4 (.t 1)⟩,
     ⟨(some 16), none, .ld false 1 (.t 15)⟩,
     ⟨(some 17), none, .bld [.n 2, .n 3, .n 2, .n 1, .r (.v (.int .i64 0))] [(0, 1, (.t 10)), (3, 1, (.t 14)), (4, 1, (.t 16))]⟩,
     ⟨(some 3), none, .alloc [.n 2, .n 3, .n 2, .n 1, .r (.v (.int .i64 0))]⟩,
     ⟨none, none, .st 5 (.t 3) (.t 17)⟩] [1, 2, 3])
  (.seq (.seq (.reg none [⟨(some 18), none, .fa 1 (.t 1)⟩,
      ⟨(some 19), none, .ld false 1 (.t 18)⟩,
      ⟨(some 20), none, .len false (.t 19)⟩,
      ⟨(some 21), none, .mv (.k (V.i 0))⟩] [1, 2, 3, 19, 20, 21])
   (.bl 0 (.seq (.reg none [⟨(some 22), none, .bin .lss .i (.t 21) (.t 20)⟩] [1, 2, 3, 19, 20, 21, 22])
    (.seq (.cond (.t 22)
      (.skip)
      (.exit 0))
    (.seq (.block 1 (.seq (.reg none [⟨(some 23), none, .ia 3 (.t 19) (.t 21)⟩,
         ⟨(some 24), none, .ld true 3 (.t 23)⟩,
         ⟨(some 5), none, .alloc [.r (.v (.int .i64 0)), .r (.v (.int .i64 0)), .n 2]⟩,
         ⟨none, none, .st 3 (.t 5) (.t 24)⟩] [1, 2, 3, 5, 19, 20, 21])
      (.reg (some [[], [0], [], [2], [], [4], [], [6], [6, 7], [2, 3, 4, 5, 6, 7, 8], [2, 3, 4, 5, 6, 7, 8, 9], [0, 1, 2, 3, 4, 5, 6, 7, 8, 9, 10], [0, 1, 2, 3, 4, 5, 6, 7, 8, 9, 10, 11], [0, 1, 2, 3, 4, 5, 6, 7, 8, 9, 10, 11, 12]]) [⟨(some 25), none, .fa 1 (.t 3)⟩,
        ⟨(some 26), none, .ld false 1 (.t 25)⟩,
        ⟨(some 27), none, .fa 0 (.t 5)⟩,
        ⟨(some 28), none, .ld false 1 (.t 27)⟩,
        ⟨(some 29), none, .fa 1 (.t 5)⟩,
        ⟨(some 30), none, .ld false 1 (.t 29)⟩,
        ⟨(some 31), none, .fa 2 (.t 5)⟩,
        ⟨(some 32), none, .ld false 1 (.t 31)⟩,
        ⟨(some 33), none, .call 109 true [(.t 32)]⟩,
        ⟨(some 34), none, .bld [.r (.v (.int .i64 0)), .r (.v (.int .i64 0)), .n 2] [(0, 1, (.t 28)), (1, 1, (.t 30)), (2, 1, (.t 33))]⟩,
        ⟨(some 35), none, .bsl 3 [(.t 34)]⟩,
        ⟨(some 36), none, .app 3 40 true (.t 26) (.t 35)⟩,
        ⟨(some 37), none, .fa 1 (.t 3)⟩,
        ⟨none, none, .st 1 (.t 37) (.t 36)⟩] [1, 2, 3, 19, 20, 21])))
    (.reg none [⟨(some 38), none, .bin .add .i (.t 21) (.k (V.i 1))⟩,
      ⟨(some 21), none, .mv (.t 38)⟩] [1, 2, 3, 19, 20, 21]))))))
  (.seq (.seq (.reg none [⟨(some 39), none, .fa 2 (.t 1)⟩,
      ⟨(some 40), none, .ld false 1 (.t 39)⟩,
      ⟨(some 41), none, .len false (.t 40)⟩,
      ⟨(some 42), none, .mv (.k (V.i 0))⟩] [2, 3, 40, 41, 42])
   (.bl 2 (.seq (.reg none [⟨(some 43), none, .bin .lss .i (.t 42) (.t 41)⟩] [2, 3, 40, 41, 42, 43])
    (.seq (.cond (.t 43)
      (.skip)
      (.exit 2))
    (.seq (.block 3 (.seq (.reg none [⟨(some 44), none, .ia 2 (.t 40) (.t 42)⟩,
         ⟨(some 45), none, .ld true 2 (.t 44)⟩,
         ⟨(some 7), none, .alloc [.r (.v (.int .i64 0)), .n 2]⟩,
         ⟨none, none, .st 2 (.t 7) (.t 45)⟩] [2, 3, 7, 40, 41, 42])
      (.reg (some [[], [0], [], [2], [], [4], [4, 5], [2, 3, 4, 5, 6], [2, 3, 4, 5, 6, 7], [0, 1, 2, 3, 4, 5, 6, 7, 8], [0, 1, 2, 3, 4, 5, 6, 7, 8, 9], [0, 1, 2, 3, 4, 5, 6, 7, 8, 9, 10]]) [⟨(some 46), none, .fa 2 (.t 3)⟩,
        ⟨(some 47), none, .ld false 1 (.t 46)⟩,
        ⟨(some 48), none, .fa 0 (.t 7)⟩,
        ⟨(some 49), none, .ld false 1 (.t 48)⟩,
        ⟨(some 50), none, .fa 1 (.t 7)⟩,
        ⟨(some 51), none, .ld false 1 (.t 50)⟩,
        ⟨(some 52), none, .call 109 true [(.t 51)]⟩,
        ⟨(some 53), none, .bld [.r (.v (.int .i64 0)), .n 2] [(0, 1, (.t 49)), (1, 1, (.t 52))]⟩,
        ⟨(some 54), none, .bsl 2 [(.t 53)]⟩,
        ⟨(some 55), none, .app 2 32 true (.t 47) (.t 54)⟩,
        ⟨(some 56), none, .fa 2 (.t 3)⟩,
        ⟨none, none, .st 1 (.t 56) (.t 55)⟩] [2, 3, 40, 41, 42])))
    (.reg none [⟨(some 57), none, .bin .add .i (.t 42) (.k (V.i 1))⟩,
      ⟨(some 42), none, .mv (.t 57)⟩] [2, 3, 40, 41, 42]))))))
  (.seq (.reg none [⟨(some 58), none, .ld true 5 (.t 3)⟩,
     ⟨none, none, .st 5 (.t 2) (.t 58)⟩] [2])
  (.ret)))))
def rv94 : List RV := [.c 2 true 5]
open Go.Proofs Go.IntWalk
set_option linter.unusedVariables false
set_option maxRecDepth 100000
set_option maxHeartbeats 4000000
def I_copyCentre_l2 (g : G) (t : TE) : List Inlet → List Inlet → Option (List Inlet)
  | [], w2 =>
    some w2
  | z2 :: ls2, w2 =>
    cl (I_copyItems g t z2.Wait) fun x3 =>
    lP ([(Inlet.mk z2.Cell x3)]) fun (l5 : List Inlet) =>
    gd (((w2.length + l5.length) * 32 ≤ 70368744177664)) <|
    lP (w2 ++ l5) fun (l6 : List Inlet) =>
    I_copyCentre_l2 g t ls2 l6
def I_copyCentre_l1 (g : G) (t : TE) : List Chute → List Chute → Option (List Chute)
  | [], w1 =>
    some w1
  | z1 :: ls1, w1 =>
    cl (I_copyItems g t z1.Held) fun x2 =>
    lP ([(Chute.mk z1.Cell z1.Room x2)]) fun (l3 : List Chute) =>
    gd (((w1.length + l3.length) * 40 ≤ 70368744177664)) <|
    lP (w1 ++ l3) fun (l4 : List Chute) =>
    I_copyCentre_l1 g t ls1 l4
def I_copyCentre (g : G) (t : TE) (a0 : Centre) : Option Centre :=
  cl (I_copyItems g t a0.Belt) fun x1 =>
  lP ([]) fun (l1 : List Int) =>
  gd (((l1.length + a0.Plan.length) * 8 ≤ 70368744177664)) <|
  lP (l1 ++ a0.Plan) fun (l2 : List Int) =>
  cl (I_copyCentre_l1 g t a0.Chutes []) fun y1 =>
  cl (I_copyCentre_l2 g t a0.Inlets []) fun y2 =>
  some (Centre.mk x1 y1 y2 l2 a0.Now)
theorem fit94 : codeFit Try.prog Try.f94.ntmps (Try.f94.body.getD .skip) ir94 = true := by kernel_rfl
theorem c_I_copyCentre {g : G} {t : TE} {a0 : Centre} {r : Centre} (hg : g = G.real) (ht : t = TE.real) (h : I_copyCentre g t a0 = some r) : Fn Try.prog 94 [.g (Centre.rs t a0)] (.g (Centre.ds t r)) := by
  obtain ⟨X, hX⟩ := hide (.g (Centre.ds t r) : X)
  rw [← hX]
  refine fn_of (rvs := rv94) (j := ir94) Try.func94 rfl fit94 (Nat.le_of_ble_eq_true rfl) (by kernel_rfl) prog_mixed ?_
  intro g2 F hg2 hF
  obtain rfl : g2 = g := hg2.unique.trans hg.symm
  clear hg2
  obtain ⟨wrap, lt, le, eq, quo, rem, band, bor, bxor, shl, shr, nat, int, add, sub, mul, cat, seq, slt, sub3, byte, llen, nadd, nsub, dlen, dapp, dset, drep, rd, rda, up, rsub, dsub, all, sle, slen, hasI, putI, hasS, putS, imin, imax, fzc⟩ := g2
  obtain ⟨r_Item, d_Item, r_Chute, d_Chute, r_Inlet, d_Inlet, r_I64, d_I64, r_U8, d_U8, d_InletF⟩ := t
  obtain ⟨a0_Belt, a0_Chutes, a0_Inlets, a0_Plan, a0_Now⟩ := a0
  have hnil_Item : d_Item [] = [] := d_nil_Item ht
  have hnil_Chute : d_Chute [] = [] := d_nil_Chute ht
  have hnil_Inlet : d_Inlet [] = [] := d_nil_Inlet ht
  have hnil_I64 : d_I64 [] = [] := d_nil_I64 ht
  have hnil_U8 : d_U8 [] = [] := d_nil_U8 ht
  unfold I_copyCentre at h
  try dsimp only at h
  cbv
  obtain ⟨x1, hx1, h⟩ := of_cl h
  try dsimp only at h
  refine ACall.mk _ _ rfl (hF _ _ _ (c_I_copyItems hg ht hx1)) (.inl rfl) (Nat.le_of_ble_eq_true rfl) ?_
  cbv
  obtain ⟨l1, hl1, h⟩ := of_lP h
  try dsimp only at h
  refine ANew.mk (d_I64 l1) (dlen (d_I64 l1)) (by rw [← hl1]; exact lit_I64 hg ht []) (by rw [← hl1]; exact litn_I64 hg ht []) ?_
  cbv
  obtain ⟨hc3, h⟩ := of_gd h
  refine AStep.mk (app_ok_I64 hg ht (dlen_I64 hg ht _) (up_I64 hg ht _) hc3) ?_
  cbv
  obtain ⟨l2, hl2, h⟩ := of_lP h
  try dsimp only at h
  refine ANew.mk (d_I64 l2) (dlen (d_I64 l2)) (by rw [← hl2]; exact app_I64 hg ht (dlen_I64 hg ht _) (up_I64 hg ht _)) (by rw [← hl2]; exact appl_I64 hg ht (dlen_I64 hg ht _) (up_I64 hg ht _)) ?_
  cbv
  obtain ⟨o1, ho1, h⟩ := of_cl h
  try dsimp only at h
  try rw [hg] at ho1
  try rw [ht] at ho1
  refine ABL.mk { p : Nat × Int × List Chute // p.1 ≤ a0_Chutes.length ∧ p.2.1 = ((p.1 : Nat) : Int) ∧ I_copyCentre_l1 G.real TE.real (List.drop p.1 a0_Chutes) p.2.2 = some o1 } (fun ⟨⟨k1, v1, w1⟩, _⟩ => ({ sl := [(1, .c (.p 0 5 0 0)), (2, .c (.p 1 5 0 0)), (3, .c (.p 2 5 0 0)), (19, .c (.r (.s 3 (r_Chute a0_Chutes)))), (20, .c (.r (.v (.int .i64 (llen (r_Chute a0_Chutes)))))), (21, .c (.r (.v (.int .i64 v1))))], tab := [(0, some (.foc 5 [] [.r (.s 2 (r_Item a0_Belt)), .r (.s 3 (r_Chute a0_Chutes)), .r (.s 2 (r_Inlet a0_Inlets)), .r (.s 1 (r_I64 a0_Plan)), .r (.v (.int .i64 a0_Now))] [])), (1, some (.foc 5 [] [.n 2, .n 3, .n 2, .n 1, .r (.v (.int .i64 0))] [])), (2, some (.foc 5 [] [.f 3 2 0 (dlen (d_Item x1)), .f 4 3 0 (dlen (d_Chute w1)), .n 2, .f 5 1 0 (dlen (d_I64 l2)), .r (.v (.int .i64 a0_Now))] [])), (3, some (.arr 2 (d_Item x1))), (4, some (.arr 3 (d_Chute w1))), (5, some (.arr 1 (d_I64 l2)))] } : St)) 6 (fun p => a0_Chutes.length - p.1.1) ⟨(0, 0, []), Nat.zero_le _, rfl, ho1⟩ (List Chute) (fun y1 => ({ sl := [(1, .c (.p 0 5 0 0)), (2, .c (.p 1 5 0 0)), (3, .c (.p 2 5 0 0))], tab := [(0, some (.foc 5 [] [.r (.s 2 (r_Item a0_Belt)), .r (.s 3 (r_Chute a0_Chutes)), .r (.s 2 (r_Inlet a0_Inlets)), .r (.s 1 (r_I64 a0_Plan)), .r (.v (.int .i64 a0_Now))] [])), (1, some (.foc 5 [] [.n 2, .n 3, .n 2, .n 1, .r (.v (.int .i64 0))] [])), (2, some (.foc 5 [] [.f 3 2 0 (dlen (d_Item x1)), .f 4 3 0 (dlen (d_Chute y1)), .n 2, .f 5 1 0 (dlen (d_I64 l2)), .r (.v (.int .i64 a0_Now))] [])), (3, some (.arr 2 (d_Item x1))), (4, some (.arr 3 (d_Chute y1))), (5, some (.arr 1 (d_I64 l2)))] } : St)) 6 (fun y => o1 = y) ?_ ?_ ?_
  · refine Wk.of [(0, some 0), (1, some 16), (2, some 192), (3, some 64), (4, none), (5, some 128)] rfl rfl ?_ ?_
    · cbv
      all_goals try rw [show dlen (d_Chute []) = 0 from dlen_nil_Chute hg ht]
      all_goals try rw [hnil_Chute]
      all_goals exact ⟨⟨_, rfl, rfl⟩, ⟨_, rfl, rfl⟩, ⟨_, rfl, rfl⟩, ⟨_, rfl, rfl⟩, ⟨_, rfl, rfl⟩, ⟨_, rfl, rfl⟩, trivial⟩
    · cbv
      all_goals try rw [show dlen (d_Chute []) = 0 from dlen_nil_Chute hg ht]
      all_goals try rw [hnil_Chute]
      all_goals exact ⟨⟨_, rfl, _, rfl, rfl, rfl, rfl, rfl, rfl, trivial⟩, ⟨_, rfl, _, rfl, rfl, rfl, rfl, rfl, rfl, trivial⟩, ⟨_, rfl, _, rfl, rfl, ⟨⟨_, rfl⟩, rfl, rfl⟩, rfl, rfl, rfl, trivial⟩, ⟨_, rfl, rfl⟩, ⟨_, rfl⟩, ⟨_, rfl, rfl⟩, trivial⟩
  · rintro ⟨⟨k1, v1, w1⟩, hk1, hi1, h_1⟩ hq1
    have hm1 := (hq1.1 19 _ _ rfl)
    try dsimp only at hk1 hi1 h_1
    clear hq1
    cbv
    by_cases hc1_ : k1 < a0_Chutes.length
    · have hb1 : lt v1 (llen (r_Chute a0_Chutes)) = true := ltL_true_Chute hg ht hi1 hc1_
      have hs1 := stepL_Chute hg ht hi1 hc1_ hm1
      obtain ⟨z1, hz1⟩ := some_of_lt hc1_
      rw [drop_of_some hz1] at h_1
      rw [I_copyCentre_l1] at h_1
      obtain ⟨z1_Cell, z1_Room, z1_Held⟩ := z1
      try rw [← hg] at h_1
      try rw [← ht] at h_1
      try dsimp only at h_1
      rw [hb1]
      cbv
      refine AStep.mk (nn_L hi1) ?_
      cbv
      refine AGet.mk _ (r_getL_Chute hg ht hi1 hz1) ?_
      cbv
      obtain ⟨x2, hx2, h_1⟩ := of_cl h_1
      try dsimp only at h_1
      refine ACall.mk _ _ rfl (hF _ _ _ (c_I_copyItems hg ht hx2)) (.inl rfl) (Nat.le_of_ble_eq_true rfl) ?_
      cbv
      refine AStep.mk ⟨rfl, (dlen_Item hg ht _)⟩ ?_
      cbv
      obtain ⟨l3, hl3, h_1⟩ := of_lP h_1
      try dsimp only at h_1
      refine ANew.mk (d_Chute l3) (dlen (d_Chute l3)) (by rw [← hl3]; have e := lit_Chute hg ht [(Chute.mk z1_Cell z1_Room x2)]; dsimp only [List.map, Chute.ds] at e; (try simp only [hnil_Item, hnil_Chute, hnil_Inlet, hnil_I64, hnil_U8] at e); exact e) (by rw [← hl3]; exact litn_Chute hg ht [(Chute.mk z1_Cell z1_Room x2)]) ?_
      cbv
      obtain ⟨hc1, h_1⟩ := of_gd h_1
      refine AStep.mk ⟨⟨rfl, (dlen_Chute hg ht _)⟩, (app_ok_Chute hg ht (dlen_Chute hg ht _) rfl hc1)⟩ ?_
      cbv
      obtain ⟨l4, hl4, h_1⟩ := of_lP h_1
      try dsimp only at h_1
      refine ANew.mk (d_Chute l4) (dlen (d_Chute l4)) (by rw [← hl4]; exact app_Chute hg ht (dlen_Chute hg ht _) rfl) (by rw [← hl4]; exact appl_Chute hg ht (dlen_Chute hg ht _) rfl) ?_
      cbv
      try rw [hg] at h_1
      try rw [ht] at h_1
      refine ⟨⟨(k1 + 1, (wrap .i64 (add v1 1)), l4), hc1_, hs1, h_1⟩, Wk.of [(0, some 0), (1, some 1), (2, some 2), (3, some 3), (4, some 262), (5, some 5)] rfl rfl ?_ ?_, meas_L hc1_⟩
      · cbv
        all_goals exact ⟨⟨_, rfl, rfl⟩, ⟨_, rfl, rfl⟩, ⟨_, rfl, rfl⟩, ⟨_, rfl, rfl⟩, ⟨_, rfl, rfl⟩, ⟨_, rfl, rfl⟩, trivial⟩
      · cbv
        all_goals exact ⟨⟨_, rfl, _, rfl, rfl, rfl, rfl, rfl, rfl, trivial⟩, ⟨_, rfl, _, rfl, rfl, rfl, rfl, rfl, rfl, trivial⟩, ⟨_, rfl, _, rfl, rfl, rfl, rfl, rfl, rfl, trivial⟩, ⟨_, rfl, rfl⟩, ⟨_, rfl, rfl⟩, ⟨_, rfl, rfl⟩, trivial⟩
    · have hb1 : lt v1 (llen (r_Chute a0_Chutes)) = false := ltL_false_Chute hg ht hi1 hc1_
      rw [List.drop_of_length_le (Nat.le_of_not_lt hc1_)] at h_1
      rw [I_copyCentre_l1] at h_1
      try rw [← hg] at h_1
      try rw [← ht] at h_1
      try dsimp only at h_1
      rw [hb1]
      cbv
      refine ⟨w1, Wk.of [(0, some 0), (1, some 1), (2, some 2), (3, some 3), (4, some 4), (5, some 5)] rfl rfl ?_ ?_, (Option.some.inj h_1).symm⟩
      · cbv
        all_goals exact ⟨⟨_, rfl, rfl⟩, ⟨_, rfl, rfl⟩, ⟨_, rfl, rfl⟩, trivial⟩
      · cbv
        all_goals exact ⟨⟨_, rfl, _, rfl, rfl, rfl, rfl, rfl, rfl, trivial⟩, ⟨_, rfl, _, rfl, rfl, rfl, rfl, rfl, rfl, trivial⟩, ⟨_, rfl, _, rfl, rfl, rfl, rfl, rfl, rfl, trivial⟩, ⟨_, rfl, rfl⟩, ⟨_, rfl, rfl⟩, ⟨_, rfl, rfl⟩, trivial⟩
  · rintro y1 hy1
    replace hy1 := hy1.symm
    subst hy1
    try dsimp only [lr, lrL, lrp, lrpL] at h
    cbv
    obtain ⟨o2, ho2, h⟩ := of_cl h
    try dsimp only at h
    try rw [hg] at ho2
    try rw [ht] at ho2
    refine ABL.mk { p : Nat × Int × List Inlet // p.1 ≤ a0_Inlets.length ∧ p.2.1 = ((p.1 : Nat) : Int) ∧ I_copyCentre_l2 G.real TE.real (List.drop p.1 a0_Inlets) p.2.2 = some o2 } (fun ⟨⟨k2, v2, w2⟩, _⟩ => ({ sl := [(2, .c (.p 0 5 0 0)), (3, .c (.p 1 5 0 0)), (40, .c (.r (.s 2 (r_Inlet a0_Inlets)))), (41, .c (.r (.v (.int .i64 (llen (r_Inlet a0_Inlets)))))), (42, .c (.r (.v (.int .i64 v2))))], tab := [(0, some (.foc 5 [] [.n 2, .n 3, .n 2, .n 1, .r (.v (.int .i64 0))] [])), (1, some (.foc 5 [] [.f 2 2 0 (dlen (d_Item x1)), .f 3 3 0 (dlen (d_Chute y1)), .f 4 2 0 (dlen (d_Inlet w2)), .f 5 1 0 (dlen (d_I64 l2)), .r (.v (.int .i64 a0_Now))] [])), (2, some (.arr 2 (d_Item x1))), (3, some (.arr 3 (d_Chute y1))), (4, some (.arr 2 (d_Inlet w2))), (5, some (.arr 1 (d_I64 l2)))] } : St)) 6 (fun p => a0_Inlets.length - p.1.1) ⟨(0, 0, []), Nat.zero_le _, rfl, ho2⟩ (List Inlet) (fun y2 => ({ sl := [(2, .c (.p 0 5 0 0)), (3, .c (.p 1 5 0 0))], tab := [(0, some (.foc 5 [] [.n 2, .n 3, .n 2, .n 1, .r (.v (.int .i64 0))] [])), (1, some (.foc 5 [] [.f 2 2 0 (dlen (d_Item x1)), .f 3 3 0 (dlen (d_Chute y1)), .f 4 2 0 (dlen (d_Inlet y2)), .f 5 1 0 (dlen (d_I64 l2)), .r (.v (.int .i64 a0_Now))] [])), (2, some (.arr 2 (d_Item x1))), (3, some (.arr 3 (d_Chute y1))), (4, some (.arr 2 (d_Inlet y2))), (5, some (.arr 1 (d_I64 l2)))] } : St)) 6 (fun y => o2 = y) ?_ ?_ ?_
    · refine Wk.of [(0, some 1), (1, some 2), (2, some 3), (3, some 4), (4, none), (5, some 5)] rfl rfl ?_ ?_
      · cbv
        all_goals try rw [show dlen (d_Inlet []) = 0 from dlen_nil_Inlet hg ht]
        all_goals try rw [hnil_Inlet]
        all_goals exact ⟨⟨_, rfl, rfl⟩, ⟨_, rfl, rfl⟩, ⟨_, rfl, rfl⟩, ⟨_, rfl, rfl⟩, ⟨_, rfl, rfl⟩, trivial⟩
      · cbv
        all_goals try rw [show dlen (d_Inlet []) = 0 from dlen_nil_Inlet hg ht]
        all_goals try rw [hnil_Inlet]
        all_goals exact ⟨⟨_, rfl, _, rfl, rfl, rfl, rfl, rfl, rfl, trivial⟩, ⟨_, rfl, _, rfl, rfl, rfl, ⟨⟨_, rfl⟩, rfl, rfl⟩, rfl, rfl, trivial⟩, ⟨_, rfl, rfl⟩, ⟨_, rfl, rfl⟩, ⟨_, rfl⟩, ⟨_, rfl, rfl⟩, trivial⟩
    · rintro ⟨⟨k2, v2, w2⟩, hk2, hi2, h_2⟩ hq2
      have hm2 := (hq2.1 40 _ _ rfl)
      try dsimp only at hk2 hi2 h_2
      clear hq2
      cbv
      by_cases hc2_ : k2 < a0_Inlets.length
      · have hb2 : lt v2 (llen (r_Inlet a0_Inlets)) = true := ltL_true_Inlet hg ht hi2 hc2_
        have hs2 := stepL_Inlet hg ht hi2 hc2_ hm2
        obtain ⟨z2, hz2⟩ := some_of_lt hc2_
        rw [drop_of_some hz2] at h_2
        rw [I_copyCentre_l2] at h_2
        obtain ⟨z2_Cell, z2_Wait⟩ := z2
        try rw [← hg] at h_2
        try rw [← ht] at h_2
        try dsimp only at h_2
        rw [hb2]
        cbv
        refine AStep.mk (nn_L hi2) ?_
        cbv
        refine AGet.mk _ (r_getL_Inlet hg ht hi2 hz2) ?_
        cbv
        obtain ⟨x3, hx3, h_2⟩ := of_cl h_2
        try dsimp only at h_2
        refine ACall.mk _ _ rfl (hF _ _ _ (c_I_copyItems hg ht hx3)) (.inl rfl) (Nat.le_of_ble_eq_true rfl) ?_
        cbv
        refine AStep.mk ⟨rfl, (dlen_Item hg ht _)⟩ ?_
        cbv
        obtain ⟨l5, hl5, h_2⟩ := of_lP h_2
        try dsimp only at h_2
        refine ANew.mk (d_Inlet l5) (dlen (d_Inlet l5)) (by rw [← hl5]; have e := lit_Inlet hg ht [(Inlet.mk z2_Cell x3)]; dsimp only [List.map, Inlet.ds] at e; (try simp only [hnil_Item, hnil_Chute, hnil_Inlet, hnil_I64, hnil_U8] at e); exact e) (by rw [← hl5]; exact litn_Inlet hg ht [(Inlet.mk z2_Cell x3)]) ?_
        cbv
        obtain ⟨hc2, h_2⟩ := of_gd h_2
        refine AStep.mk ⟨⟨rfl, (dlen_Inlet hg ht _)⟩, (app_ok_Inlet hg ht (dlen_Inlet hg ht _) rfl hc2)⟩ ?_
        cbv
        obtain ⟨l6, hl6, h_2⟩ := of_lP h_2
        try dsimp only at h_2
        refine ANew.mk (d_Inlet l6) (dlen (d_Inlet l6)) (by rw [← hl6]; exact app_Inlet hg ht (dlen_Inlet hg ht _) rfl) (by rw [← hl6]; exact appl_Inlet hg ht (dlen_Inlet hg ht _) rfl) ?_
        cbv
        try rw [hg] at h_2
        try rw [ht] at h_2
        refine ⟨⟨(k2 + 1, (wrap .i64 (add v2 1)), l6), hc2_, hs2, h_2⟩, Wk.of [(0, some 0), (1, some 1), (2, some 2), (3, some 3), (4, some 230), (5, some 5)] rfl rfl ?_ ?_, meas_L hc2_⟩
        · cbv
          all_goals exact ⟨⟨_, rfl, rfl⟩, ⟨_, rfl, rfl⟩, ⟨_, rfl, rfl⟩, ⟨_, rfl, rfl⟩, ⟨_, rfl, rfl⟩, trivial⟩
        · cbv
          all_goals exact ⟨⟨_, rfl, _, rfl, rfl, rfl, rfl, rfl, rfl, trivial⟩, ⟨_, rfl, _, rfl, rfl, rfl, rfl, rfl, rfl, trivial⟩, ⟨_, rfl, rfl⟩, ⟨_, rfl, rfl⟩, ⟨_, rfl, rfl⟩, ⟨_, rfl, rfl⟩, trivial⟩
      · have hb2 : lt v2 (llen (r_Inlet a0_Inlets)) = false := ltL_false_Inlet hg ht hi2 hc2_
        rw [List.drop_of_length_le (Nat.le_of_not_lt hc2_)] at h_2
        rw [I_copyCentre_l2] at h_2
        try rw [← hg] at h_2
        try rw [← ht] at h_2
        try dsimp only at h_2
        rw [hb2]
        cbv
        refine ⟨w2, Wk.of [(0, some 0), (1, some 1), (2, some 2), (3, some 3), (4, some 4), (5, some 5)] rfl rfl ?_ ?_, (Option.some.inj h_2).symm⟩
        · cbv
          all_goals exact ⟨⟨_, rfl, rfl⟩, ⟨_, rfl, rfl⟩, trivial⟩
        · cbv
          all_goals exact ⟨⟨_, rfl, _, rfl, rfl, rfl, rfl, rfl, rfl, trivial⟩, ⟨_, rfl, _, rfl, rfl, rfl, rfl, rfl, rfl, trivial⟩, ⟨_, rfl, rfl⟩, ⟨_, rfl, rfl⟩, ⟨_, rfl, rfl⟩, ⟨_, rfl, rfl⟩, trivial⟩
    · rintro y2 hy2
      replace hy2 := hy2.symm
      subst hy2
      try dsimp only [lr, lrL, lrp, lrpL] at h
      cbv
      obtain rfl := Option.some.inj h
      exact ARet.mk ⟨⟨rfl, (dlen_Item hg ht _)⟩, ⟨⟨rfl, (dlen_Chute hg ht _)⟩, ⟨⟨rfl, (dlen_Inlet hg ht _)⟩, ⟨rfl, (dlen_I64 hg ht _)⟩⟩⟩⟩ hX.symm
end Go.Vs
namespace Go.Vs
set_option maxRecDepth 100000
def ir108 : J :=
  .seq (.reg none [⟨(some 2), none, .mv (.k (.c (.n 2)))⟩] [0])
  (.seq (.reg none [⟨(some 3), none, .bsl 2 []⟩,
     ⟨(some 4), none, .mv (.t 0)⟩,
     ⟨(some 5), none, .app 2 16 false (.t 3) (.t 4)⟩,
     ⟨(some 2), none, .mv (.t 5)⟩] [2])
  (.ret))
def rv108 : List RV := [.t 2]
open Go.Proofs Go.IntWalk
set_option linter.unusedVariables false
set_option maxRecDepth 100000
set_option maxHeartbeats 4000000
def S_l7Items (g : G) (t : TE) (a0 : List Item) : Option (List Item) :=
  lP ([]) fun (l1 : List Item) =>
  gd (((l1.length + a0.length) * 16 ≤ 70368744177664)) <|
  lP (l1 ++ a0) fun (l2 : List Item) =>
  some l2
theorem fit108 : codeFit Try.prog Try.f108.ntmps (Try.f108.body.getD .skip) ir108 = true := by kernel_rfl
theorem c_S_l7Items {g : G} {t : TE} {a0 : List Item} {r : List Item} (hg : g = G.real) (ht : t = TE.real) (h : S_l7Items g t a0 = some r) : Fn Try.prog 108 [.c (.s 2 (t.r_Item a0))] (.c (.o 2 (t.d_Item r))) := by
  obtain ⟨X, hX⟩ := hide (.c (.o 2 (t.d_Item r)) : X)
  rw [← hX]
  refine fn_of (rvs := rv108) (j := ir108) Try.func108 rfl fit108 (Nat.le_of_ble_eq_true rfl) (by kernel_rfl) prog_mixed ?_
  intro g2 F hg2 hF
  obtain rfl : g2 = g := hg2.unique.trans hg.symm
  clear hg2
  obtain ⟨wrap, lt, le, eq, quo, rem, band, bor, bxor, shl, shr, nat, int, add, sub, mul, cat, seq, slt, sub3, byte, llen, nadd, nsub, dlen, dapp, dset, drep, rd, rda, up, rsub, dsub, all, sle, slen, hasI, putI, hasS, putS, imin, imax, fzc⟩ := g2
  obtain ⟨r_Item, d_Item, r_Chute, d_Chute, r_Inlet, d_Inlet, r_I64, d_I64, r_U8, d_U8, d_InletF⟩ := t
  unfold S_l7Items at h
  try dsimp only at h
  cbv
  obtain ⟨l1, hl1, h⟩ := of_lP h
  try dsimp only at h
  refine ANew.mk (d_Item l1) (dlen (d_Item l1)) (by rw [← hl1]; exact lit_Item hg ht []) (by rw [← hl1]; exact litn_Item hg ht []) ?_
  cbv
  obtain ⟨hc1, h⟩ := of_gd h
  refine AStep.mk (app_ok_Item hg ht (dlen_Item hg ht _) (up_Item hg ht _) hc1) ?_
  cbv
  obtain ⟨l2, hl2, h⟩ := of_lP h
  try dsimp only at h
  refine ANew.mk (d_Item l2) (dlen (d_Item l2)) (by rw [← hl2]; exact app_Item hg ht (dlen_Item hg ht _) (up_Item hg ht _)) (by rw [← hl2]; exact appl_Item hg ht (dlen_Item hg ht _) (up_Item hg ht _)) ?_
  cbv
  obtain rfl := Option.some.inj h
  exact ARet.mk ⟨rfl, (dlen_Item hg ht _)⟩ hX.symm
end Go.Vs
namespace Go.Vs
set_option maxRecDepth 100000
def ir106 : J :=
  .seq (.reg none [⟨(some 1), none, .box (.t 0)⟩,
     ⟨(some 2), none, .alloc [.n 2, .n 3, .n 2, .n 1, .r (.v (.int .i64 0))]⟩] [1, 2])
  (.seq (.reg (some [[], [0], [0, 1], [], [3], [0, 1, 2, 3, 4], [], [6], [0, 1, 2, 3, 4, 5, 6, 7], [], [0, 1, 2, 3, 4, 5, 6, 7, 8, 9]]) [⟨(some 6), none, .fa 0 (.t 1)⟩,
     ⟨(some 7), none, .ld false 1 (.t 6)⟩,
     ⟨(some 8), none, .call 108 true [(.t 7)]⟩,
     ⟨(some 9), none, .fa 3 (.t 1)⟩,
     ⟨(some 10), none, .ld false 1 (.t 9)⟩,
     ⟨(some 11), none, .call 96 true [(.t 10)]⟩,
     ⟨(some 12), none, .fa 4 (.t 1)⟩,
     ⟨(some 13), none, .ld false 1 (.t 12)⟩,
     ⟨(some 14), none, .bld [.n 2, .n 3, .n 2, .n 1, .r (.v (.int .i64 0))] [(0, 1, (.t 8)), (3, 1, (.t 11)), (4, 1, (.t 13))]⟩,
     ⟨(some 3), none, .alloc [.n 2, .n 3, .n 2, .n 1, .r (.v (.int .i64 0))]⟩,
     ⟨none, none, .st 5 (.t 3) (.t 14)⟩] [1, 2, 3])
  (.seq (.seq (.reg none [⟨(some 4), none, .mv (.k (V.i 0))⟩] [1, 2, 3, 4])
   (.bl 0 (.seq (.seq (.reg none [⟨(some 15), none, .mv (.t 4)⟩,
        ⟨(some 16), none, .fa 1 (.t 1)⟩,
        ⟨(some 17), none, .ld false 1 (.t 16)⟩,
        ⟨(some 18), none, .len false (.t 17)⟩,
        ⟨(some 19), none, .bin .lss .i (.t 15) (.t 18)⟩] [1, 2, 3, 4, 19])
     (.cond (.t 19)
      (.skip)
      (.exit 0)))
    (.seq (.block 1 (.reg (some [[], [0], [], [2], [], [2, 3, 4], [2, 3, 4, 5], [2, 3, 4, 5, 6], [], [8], [], [8, 9, 10], [8, 9, 10, 11], [8, 9, 10, 11, 12], [], [14], [], [14, 15, 16], [14, 15, 16, 17], [14, 15, 16, 17, 18], [14, 15, 16, 17, 18, 19], [2, 3, 4, 5, 6, 7, 8, 9, 10, 11, 12, 13, 14, 15, 16, 17, 18, 19, 20], [2, 3, 4, 5, 6, 7, 8, 9, 10, 11, 12, 13, 14, 15, 16, 17, 18, 19, 20, 21], [0, 1, 2, 3, 4, 5, 6, 7, 8, 9, 10, 11, 12, 13, 14, 15, 16, 17, 18, 19, 20, 21, 22], [0, 1, 2, 3, 4, 5, 6, 7, 8, 9, 10, 11, 12, 13, 14, 15, 16, 17, 18, 19, 20, 21, 22, 23], [0, 1, 2, 3, 4, 5, 6, 7, 8, 9, 10, 11, 12, 13, 14, 15, 16, 17, 18, 19, 20, 21, 22, 23, 24]]) [⟨(some 22), none, .fa 1 (.t 3)⟩,
        ⟨(some 23), none, .ld false 1 (.t 22)⟩,
        ⟨(some 24), none, .fa 1 (.t 1)⟩,
        ⟨(some 25), none, .ld false 1 (.t 24)⟩,
        ⟨(some 26), none, .mv (.t 4)⟩,
        ⟨(some 27), none, .ia 3 (.t 25) (.t 26)⟩,
        ⟨(some 28), none, .fa 0 (.t 27)⟩,
        ⟨(some 29), none, .ld false 1 (.t 28)⟩,
        ⟨(some 30), none, .fa 1 (.t 1)⟩,
        ⟨(some 31), none, .ld false 1 (.t 30)⟩,
        ⟨(some 32), none, .mv (.t 4)⟩,
        ⟨(some 33), none, .ia 3 (.t 31) (.t 32)⟩,
        ⟨(some 34), none, .fa 1 (.t 33)⟩,
        ⟨(some 35), none, .ld false 1 (.t 34)⟩,
        ⟨(some 36), none, .fa 1 (.t 1)⟩,
        ⟨(some 37), none, .ld false 1 (.t 36)⟩,
        ⟨(some 38), none, .mv (.t 4)⟩,
        ⟨(some 39), none, .ia 3 (.t 37) (.t 38)⟩,
        ⟨(some 40), none, .fa 2 (.t 39)⟩,
        ⟨(some 41), none, .ld false 1 (.t 40)⟩,
        ⟨(some 42), none, .call 108 true [(.t 41)]⟩,
        ⟨(some 43), none, .bld [.r (.v (.int .i64 0)), .r (.v (.int .i64 0)), .n 2] [(0, 1, (.t 29)), (1, 1, (.t 35)), (2, 1, (.t 42))]⟩,
        ⟨(some 44), none, .bsl 3 [(.t 43)]⟩,
        ⟨(some 45), none, .app 3 40 true (.t 23) (.t 44)⟩,
        ⟨(some 46), none, .fa 1 (.t 3)⟩,
        ⟨none, none, .st 1 (.t 46) (.t 45)⟩] [1, 2, 3, 4]))
    (.reg none [⟨(some 20), none, .mv (.t 4)⟩,
      ⟨(some 21), none, .bin .add .i (.t 20) (.k (V.i 1))⟩,
      ⟨(some 4), none, .mv (.t 21)⟩] [1, 2, 3, 4])))))
  (.seq (.seq (.reg none [⟨(some 5), none, .mv (.k (V.i 0))⟩] [1, 2, 3, 5])
   (.bl 2 (.seq (.seq (.reg none [⟨(some 47), none, .mv (.t 5)⟩,
        ⟨(some 48), none, .fa 2 (.t 1)⟩,
        ⟨(some 49), none, .ld false 1 (.t 48)⟩,
        ⟨(some 50), none, .len false (.t 49)⟩,
        ⟨(some 51), none, .bin .lss .i (.t 47) (.t 50)⟩] [1, 2, 3, 5, 51])
     (.cond (.t 51)
      (.skip)
      (.exit 2)))
    (.seq (.block 3 (.reg (some [[], [0], [], [2], [], [2, 3, 4], [2, 3, 4, 5], [2, 3, 4, 5, 6], [], [8], [], [8, 9, 10], [8, 9, 10, 11], [8, 9, 10, 11, 12], [8, 9, 10, 11, 12, 13], [2, 3, 4, 5, 6, 7, 8, 9, 10, 11, 12, 13, 14], [2, 3, 4, 5, 6, 7, 8, 9, 10, 11, 12, 13, 14, 15], [0, 1, 2, 3, 4, 5, 6, 7, 8, 9, 10, 11, 12, 13, 14, 15, 16], [0, 1, 2, 3, 4, 5, 6, 7, 8, 9, 10, 11, 12, 13, 14, 15, 16, 17], [0, 1, 2, 3, 4, 5, 6, 7, 8, 9, 10, 11, 12, 13, 14, 15, 16, 17, 18]]) [⟨(some 54), none, .fa 2 (.t 3)⟩,
        ⟨(some 55), none, .ld false 1 (.t 54)⟩,
        ⟨(some 56), none, .fa 2 (.t 1)⟩,
        ⟨(some 57), none, .ld false 1 (.t 56)⟩,
        ⟨(some 58), none, .mv (.t 5)⟩,
        ⟨(some 59), none, .ia 2 (.t 57) (.t 58)⟩,
        ⟨(some 60), none, .fa 0 (.t 59)⟩,
        ⟨(some 61), none, .ld false 1 (.t 60)⟩,
        ⟨(some 62), none, .fa 2 (.t 1)⟩,
        ⟨(some 63), none, .ld false 1 (.t 62)⟩,
        ⟨(some 64), none, .mv (.t 5)⟩,
        ⟨(some 65), none, .ia 2 (.t 63) (.t 64)⟩,
        ⟨(some 66), none, .fa 1 (.t 65)⟩,
        ⟨(some 67), none, .ld false 1 (.t 66)⟩,
        ⟨(some 68), none, .call 108 true [(.t 67)]⟩,
        ⟨(some 69), none, .bld [.r (.v (.int .i64 0)), .n 2] [(0, 1, (.t 61)), (1, 1, (.t 68))]⟩,
        ⟨(some 70), none, .bsl 2 [(.t 69)]⟩,
        ⟨(some 71), none, .app 2 32 true (.t 55) (.t 70)⟩,
        ⟨(some 72), none, .fa 2 (.t 3)⟩,
        ⟨none, none, .st 1 (.t 72) (.t 71)⟩] [1, 2, 3, 5]))
    (.reg none [⟨(some 52), none, .mv (.t 5)⟩,
      ⟨(some 53), none, .bin .add .i (.t 52) (.k (V.i 1))⟩,
      ⟨(some 5), none, .mv (.t 53)⟩] [1, 2, 3, 5])))))
  (.seq (.reg none [⟨(some 73), none, .ld true 5 (.t 3)⟩,
     ⟨none, none, .st 5 (.t 2) (.t 73)⟩] [2])
  (.ret)))))
def rv106 : List RV := [.c 2 true 5]
open Go.Proofs Go.IntWalk
set_option linter.unusedVariables false
set_option maxRecDepth 100000
set_option maxHeartbeats 4000000
def S_l7Copy_l2 (g : G) (t : TE) : List Inlet → List Inlet → Option (List Inlet)
  | [], w2 =>
    some w2
  | z2 :: ls2, w2 =>
    cl (S_l7Items g t z2.Wait) fun x4 =>
    lP ([(Inlet.mk z2.Cell x4)]) fun (l3 : List Inlet) =>
    gd (((w2.length + l3.length) * 32 ≤ 70368744177664)) <|
    lP (w2 ++ l3) fun (l4 : List Inlet) =>
    S_l7Copy_l2 g t ls2 l4
def S_l7Copy_l1 (g : G) (t : TE) : List Chute → List Chute → Option (List Chute)
  | [], w1 =>
    some w1
  | z1 :: ls1, w1 =>
    cl (S_l7Items g t z1.Held) fun x3 =>
    lP ([(Chute.mk z1.Cell z1.Room x3)]) fun (l1 : List Chute) =>
    gd (((w1.length + l1.length) * 40 ≤ 70368744177664)) <|
    lP (w1 ++ l1) fun (l2 : List Chute) =>
    S_l7Copy_l1 g t ls1 l2
def S_l7Copy (g : G) (t : TE) (a0 : Centre) : Option Centre :=
  cl (S_l7Items g t a0.Belt) fun x1 =>
  cl (S_l1Ints g t a0.Plan) fun x2 =>
  cl (S_l7Copy_l1 g t a0.Chutes []) fun y1 =>
  cl (S_l7Copy_l2 g t a0.Inlets []) fun y2 =>
  some (Centre.mk x1 y1 y2 x2 a0.Now)
theorem fit106 : codeFit Try.prog Try.f106.ntmps (Try.f106.body.getD .skip) ir106 = true := by kernel_rfl
theorem c_S_l7Copy {g : G} {t : TE} {a0 : Centre} {r : Centre} (hg : g = G.real) (ht : t = TE.real) (h : S_l7Copy g t a0 = some r) : Fn Try.prog 106 [.g (Centre.rs t a0)] (.g (Centre.ds t r)) := by
  obtain ⟨X, hX⟩ := hide (.g (Centre.ds t r) : X)
  rw [← hX]
  refine fn_of (rvs := rv106) (j := ir106) Try.func106 rfl fit106 (Nat.le_of_ble_eq_true rfl) (by kernel_rfl) prog_mixed ?_
  intro g2 F hg2 hF
  obtain rfl : g2 = g := hg2.unique.trans hg.symm
  clear hg2
  obtain ⟨wrap, lt, le, eq, quo, rem, band, bor, bxor, shl, shr, nat, int, add, sub, mul, cat, seq, slt, sub3, byte, llen, nadd, nsub, dlen, dapp, dset, drep, rd, rda, up, rsub, dsub, all, sle, slen, hasI, putI, hasS, putS, imin, imax, fzc⟩ := g2
  obtain ⟨r_Item, d_Item, r_Chute, d_Chute, r_Inlet, d_Inlet, r_I64, d_I64, r_U8, d_U8, d_InletF⟩ := t
  obtain ⟨a0_Belt, a0_Chutes, a0_Inlets, a0_Plan, a0_Now⟩ := a0
  have hnil_Item : d_Item [] = [] := d_nil_Item ht
  have hnil_Chute : d_Chute [] = [] := d_nil_Chute ht
  have hnil_Inlet : d_Inlet [] = [] := d_nil_Inlet ht
  have hnil_I64 : d_I64 [] = [] := d_nil_I64 ht
  have hnil_U8 : d_U8 [] = [] := d_nil_U8 ht
  unfold S_l7Copy at h
  try dsimp only at h
  cbv
  obtain ⟨x1, hx1, h⟩ := of_cl h
  try dsimp only at h
  refine ACall.mk _ _ rfl (hF _ _ _ (c_S_l7Items hg ht hx1)) (.inl rfl) (Nat.le_of_ble_eq_true rfl) ?_
  cbv
  obtain ⟨x2, hx2, h⟩ := of_cl h
  try dsimp only at h
  refine ACall.mk _ _ rfl (hF _ _ _ (c_S_l1Ints hg ht hx2)) (.inl rfl) (Nat.le_of_ble_eq_true rfl) ?_
  cbv
  obtain ⟨o1, ho1, h⟩ := of_cl h
  try dsimp only at h
  try rw [hg] at ho1
  try rw [ht] at ho1
  refine ABL.mk { p : Nat × Int × List Chute // p.1 ≤ a0_Chutes.length ∧ p.2.1 = ((p.1 : Nat) : Int) ∧ S_l7Copy_l1 G.real TE.real (List.drop p.1 a0_Chutes) p.2.2 = some o1 } (fun ⟨⟨k1, v1, w1⟩, _⟩ => ({ sl := [(1, .c (.p 0 5 0 0)), (2, .c (.p 1 5 0 0)), (3, .c (.p 2 5 0 0)), (4, .c (.r (.v (.int .i64 v1))))], tab := [(0, some (.foc 5 [] [.r (.s 2 (r_Item a0_Belt)), .r (.s 3 (r_Chute a0_Chutes)), .r (.s 2 (r_Inlet a0_Inlets)), .r (.s 1 (r_I64 a0_Plan)), .r (.v (.int .i64 a0_Now))] [])), (1, some (.foc 5 [] [.n 2, .n 3, .n 2, .n 1, .r (.v (.int .i64 0))] [])), (2, some (.foc 5 [] [.f 3 2 0 (dlen (d_Item x1)), .f 4 3 0 (dlen (d_Chute w1)), .n 2, .f 5 1 0 (dlen (d_I64 x2)), .r (.v (.int .i64 a0_Now))] [])), (3, some (.arr 2 (d_Item x1))), (4, some (.arr 3 (d_Chute w1))), (5, some (.arr 1 (d_I64 x2)))] } : St)) 6 (fun p => a0_Chutes.length - p.1.1) ⟨(0, 0, []), Nat.zero_le _, rfl, ho1⟩ (List Chute) (fun y1 => ({ sl := [(1, .c (.p 0 5 0 0)), (2, .c (.p 1 5 0 0)), (3, .c (.p 2 5 0 0))], tab := [(0, some (.foc 5 [] [.r (.s 2 (r_Item a0_Belt)), .r (.s 3 (r_Chute a0_Chutes)), .r (.s 2 (r_Inlet a0_Inlets)), .r (.s 1 (r_I64 a0_Plan)), .r (.v (.int .i64 a0_Now))] [])), (1, some (.foc 5 [] [.n 2, .n 3, .n 2, .n 1, .r (.v (.int .i64 0))] [])), (2, some (.foc 5 [] [.f 3 2 0 (dlen (d_Item x1)), .f 4 3 0 (dlen (d_Chute y1)), .n 2, .f 5 1 0 (dlen (d_I64 x2)), .r (.v (.int .i64 a0_Now))] [])), (3, some (.arr 2 (d_Item x1))), (4, some (.arr 3 (d_Chute y1))), (5, some (.arr 1 (d_I64 x2)))] } : St)) 6 (fun y => o1 = y) ?_ ?_ ?_
  · refine Wk.of [(0, some 0), (1, some 16), (2, some 176), (3, some 64), (4, none), (5, some 112)] rfl rfl ?_ ?_
    · cbv
      all_goals try rw [show dlen (d_Chute []) = 0 from dlen_nil_Chute hg ht]
      all_goals try rw [hnil_Chute]
      all_goals exact ⟨⟨_, rfl, rfl⟩, ⟨_, rfl, rfl⟩, ⟨_, rfl, rfl⟩, ⟨_, rfl, rfl⟩, trivial⟩
    · cbv
      all_goals try rw [show dlen (d_Chute []) = 0 from dlen_nil_Chute hg ht]
      all_goals try rw [hnil_Chute]
      all_goals exact ⟨⟨_, rfl, _, rfl, rfl, rfl, rfl, rfl, rfl, trivial⟩, ⟨_, rfl, _, rfl, rfl, rfl, rfl, rfl, rfl, trivial⟩, ⟨_, rfl, _, rfl, rfl, ⟨⟨_, rfl⟩, rfl, rfl⟩, rfl, rfl, rfl, trivial⟩, ⟨_, rfl, rfl⟩, ⟨_, rfl⟩, ⟨_, rfl, rfl⟩, trivial⟩
  · rintro ⟨⟨k1, v1, w1⟩, hk1, hi1, h_1⟩ hq1
    have hm1 := (hq1.2.2.1 0 _ _ _ _ 1 _ _ rfl rfl)
    try dsimp only at hk1 hi1 h_1
    clear hq1
    cbv
    by_cases hc1_ : k1 < a0_Chutes.length
    · have hb1 : lt v1 (llen (r_Chute a0_Chutes)) = true := ltL_true_Chute hg ht hi1 hc1_
      have hs1 := stepL_Chute hg ht hi1 hc1_ hm1
      obtain ⟨z1, hz1⟩ := some_of_lt hc1_
      rw [drop_of_some hz1] at h_1
      rw [S_l7Copy_l1] at h_1
      obtain ⟨z1_Cell, z1_Room, z1_Held⟩ := z1
      try rw [← hg] at h_1
      try rw [← ht] at h_1
      try dsimp only at h_1
      rw [hb1]
      cbv
      refine AStep.mk (nn_L hi1) ?_
      cbv
      refine AGet.mk _ (r_getL_Chute hg ht hi1 hz1) ?_
      cbv
      refine AStep.mk (nn_L hi1) ?_
      cbv
      refine AGet.mk _ (r_getL_Chute hg ht hi1 hz1) ?_
      cbv
      refine AStep.mk (nn_L hi1) ?_
      cbv
      refine AGet.mk _ (r_getL_Chute hg ht hi1 hz1) ?_
      cbv
      obtain ⟨x3, hx3, h_1⟩ := of_cl h_1
      try dsimp only at h_1
      refine ACall.mk _ _ rfl (hF _ _ _ (c_S_l7Items hg ht hx3)) (.inl rfl) (Nat.le_of_ble_eq_true rfl) ?_
      cbv
      refine AStep.mk ⟨rfl, (dlen_Item hg ht _)⟩ ?_
      cbv
      obtain ⟨l1, hl1, h_1⟩ := of_lP h_1
      try dsimp only at h_1
      refine ANew.mk (d_Chute l1) (dlen (d_Chute l1)) (by rw [← hl1]; have e := lit_Chute hg ht [(Chute.mk z1_Cell z1_Room x3)]; dsimp only [List.map, Chute.ds] at e; (try simp only [hnil_Item, hnil_Chute, hnil_Inlet, hnil_I64, hnil_U8] at e); exact e) (by rw [← hl1]; exact litn_Chute hg ht [(Chute.mk z1_Cell z1_Room x3)]) ?_
      cbv
      obtain ⟨hc1, h_1⟩ := of_gd h_1
      refine AStep.mk ⟨⟨rfl, (dlen_Chute hg ht _)⟩, (app_ok_Chute hg ht (dlen_Chute hg ht _) rfl hc1)⟩ ?_
      cbv
      obtain ⟨l2, hl2, h_1⟩ := of_lP h_1
      try dsimp only at h_1
      refine ANew.mk (d_Chute l2) (dlen (d_Chute l2)) (by rw [← hl2]; exact app_Chute hg ht (dlen_Chute hg ht _) rfl) (by rw [← hl2]; exact appl_Chute hg ht (dlen_Chute hg ht _) rfl) ?_
      cbv
      try rw [hg] at h_1
      try rw [ht] at h_1
      refine ⟨⟨(k1 + 1, (wrap .i64 (add v1 1)), l2), hc1_, hs1, h_1⟩, Wk.of [(0, some 0), (1, some 1), (2, some 2), (3, some 3), (4, some 454), (5, some 5)] rfl rfl ?_ ?_, meas_L hc1_⟩
      · cbv
        all_goals exact ⟨⟨_, rfl, rfl⟩, ⟨_, rfl, rfl⟩, ⟨_, rfl, rfl⟩, ⟨_, rfl, rfl⟩, trivial⟩
      · cbv
        all_goals exact ⟨⟨_, rfl, _, rfl, rfl, rfl, rfl, rfl, rfl, trivial⟩, ⟨_, rfl, _, rfl, rfl, rfl, rfl, rfl, rfl, trivial⟩, ⟨_, rfl, _, rfl, rfl, rfl, rfl, rfl, rfl, trivial⟩, ⟨_, rfl, rfl⟩, ⟨_, rfl, rfl⟩, ⟨_, rfl, rfl⟩, trivial⟩
    · have hb1 : lt v1 (llen (r_Chute a0_Chutes)) = false := ltL_false_Chute hg ht hi1 hc1_
      rw [List.drop_of_length_le (Nat.le_of_not_lt hc1_)] at h_1
      rw [S_l7Copy_l1] at h_1
      try rw [← hg] at h_1
      try rw [← ht] at h_1
      try dsimp only at h_1
      rw [hb1]
      cbv
      refine ⟨w1, Wk.of [(0, some 0), (1, some 1), (2, some 2), (3, some 3), (4, some 4), (5, some 5)] rfl rfl ?_ ?_, (Option.some.inj h_1).symm⟩
      · cbv
        all_goals exact ⟨⟨_, rfl, rfl⟩, ⟨_, rfl, rfl⟩, ⟨_, rfl, rfl⟩, trivial⟩
      · cbv
        all_goals exact ⟨⟨_, rfl, _, rfl, rfl, rfl, rfl, rfl, rfl, trivial⟩, ⟨_, rfl, _, rfl, rfl, rfl, rfl, rfl, rfl, trivial⟩, ⟨_, rfl, _, rfl, rfl, rfl, rfl, rfl, rfl, trivial⟩, ⟨_, rfl, rfl⟩, ⟨_, rfl, rfl⟩, ⟨_, rfl, rfl⟩, trivial⟩
  · rintro y1 hy1
    replace hy1 := hy1.symm
    subst hy1
    try dsimp only [lr, lrL, lrp, lrpL] at h
    cbv
    obtain ⟨o2, ho2, h⟩ := of_cl h
    try dsimp only at h
    try rw [hg] at ho2
    try rw [ht] at ho2
    refine ABL.mk { p : Nat × Int × List Inlet // p.1 ≤ a0_Inlets.length ∧ p.2.1 = ((p.1 : Nat) : Int) ∧ S_l7Copy_l2 G.real TE.real (List.drop p.1 a0_Inlets) p.2.2 = some o2 } (fun ⟨⟨k2, v2, w2⟩, _⟩ => ({ sl := [(1, .c (.p 0 5 0 0)), (2, .c (.p 1 5 0 0)), (3, .c (.p 2 5 0 0)), (5, .c (.r (.v (.int .i64 v2))))], tab := [(0, some (.foc 5 [] [.r (.s 2 (r_Item a0_Belt)), .r (.s 3 (r_Chute a0_Chutes)), .r (.s 2 (r_Inlet a0_Inlets)), .r (.s 1 (r_I64 a0_Plan)), .r (.v (.int .i64 a0_Now))] [])), (1, some (.foc 5 [] [.n 2, .n 3, .n 2, .n 1, .r (.v (.int .i64 0))] [])), (2, some (.foc 5 [] [.f 3 2 0 (dlen (d_Item x1)), .f 4 3 0 (dlen (d_Chute y1)), .f 5 2 0 (dlen (d_Inlet w2)), .f 6 1 0 (dlen (d_I64 x2)), .r (.v (.int .i64 a0_Now))] [])), (3, some (.arr 2 (d_Item x1))), (4, some (.arr 3 (d_Chute y1))), (5, some (.arr 2 (d_Inlet w2))), (6, some (.arr 1 (d_I64 x2)))] } : St)) 7 (fun p => a0_Inlets.length - p.1.1) ⟨(0, 0, []), Nat.zero_le _, rfl, ho2⟩ (List Inlet) (fun y2 => ({ sl := [(2, .c (.p 0 5 0 0)), (3, .c (.p 1 5 0 0))], tab := [(0, some (.foc 5 [] [.n 2, .n 3, .n 2, .n 1, .r (.v (.int .i64 0))] [])), (1, some (.foc 5 [] [.f 2 2 0 (dlen (d_Item x1)), .f 3 3 0 (dlen (d_Chute y1)), .f 4 2 0 (dlen (d_Inlet y2)), .f 5 1 0 (dlen (d_I64 x2)), .r (.v (.int .i64 a0_Now))] [])), (2, some (.arr 2 (d_Item x1))), (3, some (.arr 3 (d_Chute y1))), (4, some (.arr 2 (d_Inlet y2))), (5, some (.arr 1 (d_I64 x2)))] } : St)) 6 (fun y => o2 = y) ?_ ?_ ?_
    · refine Wk.of [(0, some 0), (1, some 1), (2, some 2), (3, some 3), (4, some 4), (5, none), (6, some 5)] rfl rfl ?_ ?_
      · cbv
        all_goals try rw [show dlen (d_Inlet []) = 0 from dlen_nil_Inlet hg ht]
        all_goals try rw [hnil_Inlet]
        all_goals exact ⟨⟨_, rfl, rfl⟩, ⟨_, rfl, rfl⟩, ⟨_, rfl, rfl⟩, ⟨_, rfl, rfl⟩, trivial⟩
      · cbv
        all_goals try rw [show dlen (d_Inlet []) = 0 from dlen_nil_Inlet hg ht]
        all_goals try rw [hnil_Inlet]
        all_goals exact ⟨⟨_, rfl, _, rfl, rfl, rfl, rfl, rfl, rfl, trivial⟩, ⟨_, rfl, _, rfl, rfl, rfl, rfl, rfl, rfl, trivial⟩, ⟨_, rfl, _, rfl, rfl, rfl, ⟨⟨_, rfl⟩, rfl, rfl⟩, rfl, rfl, trivial⟩, ⟨_, rfl, rfl⟩, ⟨_, rfl, rfl⟩, ⟨_, rfl⟩, ⟨_, rfl, rfl⟩, trivial⟩
    · rintro ⟨⟨k2, v2, w2⟩, hk2, hi2, h_2⟩ hq2
      have hm2 := (hq2.2.2.1 0 _ _ _ _ 2 _ _ rfl rfl)
      try dsimp only at hk2 hi2 h_2
      clear hq2
      cbv
      by_cases hc2_ : k2 < a0_Inlets.length
      · have hb2 : lt v2 (llen (r_Inlet a0_Inlets)) = true := ltL_true_Inlet hg ht hi2 hc2_
        have hs2 := stepL_Inlet hg ht hi2 hc2_ hm2
        obtain ⟨z2, hz2⟩ := some_of_lt hc2_
        rw [drop_of_some hz2] at h_2
        rw [S_l7Copy_l2] at h_2
        obtain ⟨z2_Cell, z2_Wait⟩ := z2
        try rw [← hg] at h_2
        try rw [← ht] at h_2
        try dsimp only at h_2
        rw [hb2]
        cbv
        refine AStep.mk (nn_L hi2) ?_
        cbv
        refine AGet.mk _ (r_getL_Inlet hg ht hi2 hz2) ?_
        cbv
        refine AStep.mk (nn_L hi2) ?_
        cbv
        refine AGet.mk _ (r_getL_Inlet hg ht hi2 hz2) ?_
        cbv
        obtain ⟨x4, hx4, h_2⟩ := of_cl h_2
        try dsimp only at h_2
        refine ACall.mk _ _ rfl (hF _ _ _ (c_S_l7Items hg ht hx4)) (.inl rfl) (Nat.le_of_ble_eq_true rfl) ?_
        cbv
        refine AStep.mk ⟨rfl, (dlen_Item hg ht _)⟩ ?_
        cbv
        obtain ⟨l3, hl3, h_2⟩ := of_lP h_2
        try dsimp only at h_2
        refine ANew.mk (d_Inlet l3) (dlen (d_Inlet l3)) (by rw [← hl3]; have e := lit_Inlet hg ht [(Inlet.mk z2_Cell x4)]; dsimp only [List.map, Inlet.ds] at e; (try simp only [hnil_Item, hnil_Chute, hnil_Inlet, hnil_I64, hnil_U8] at e); exact e) (by rw [← hl3]; exact litn_Inlet hg ht [(Inlet.mk z2_Cell x4)]) ?_
        cbv
        obtain ⟨hc2, h_2⟩ := of_gd h_2
        refine AStep.mk ⟨⟨rfl, (dlen_Inlet hg ht _)⟩, (app_ok_Inlet hg ht (dlen_Inlet hg ht _) rfl hc2)⟩ ?_
        cbv
        obtain ⟨l4, hl4, h_2⟩ := of_lP h_2
        try dsimp only at h_2
        refine ANew.mk (d_Inlet l4) (dlen (d_Inlet l4)) (by rw [← hl4]; exact app_Inlet hg ht (dlen_Inlet hg ht _) rfl) (by rw [← hl4]; exact appl_Inlet hg ht (dlen_Inlet hg ht _) rfl) ?_
        cbv
        try rw [hg] at h_2
        try rw [ht] at h_2
        refine ⟨⟨(k2 + 1, (wrap .i64 (add v2 1)), l4), hc2_, hs2, h_2⟩, Wk.of [(0, some 0), (1, some 1), (2, some 2), (3, some 3), (4, some 4), (5, some 359), (6, some 6)] rfl rfl ?_ ?_, meas_L hc2_⟩
        · cbv
          all_goals exact ⟨⟨_, rfl, rfl⟩, ⟨_, rfl, rfl⟩, ⟨_, rfl, rfl⟩, ⟨_, rfl, rfl⟩, trivial⟩
        · cbv
          all_goals exact ⟨⟨_, rfl, _, rfl, rfl, rfl, rfl, rfl, rfl, trivial⟩, ⟨_, rfl, _, rfl, rfl, rfl, rfl, rfl, rfl, trivial⟩, ⟨_, rfl, _, rfl, rfl, rfl, rfl, rfl, rfl, trivial⟩, ⟨_, rfl, rfl⟩, ⟨_, rfl, rfl⟩, ⟨_, rfl, rfl⟩, ⟨_, rfl, rfl⟩, trivial⟩
      · have hb2 : lt v2 (llen (r_Inlet a0_Inlets)) = false := ltL_false_Inlet hg ht hi2 hc2_
        rw [List.drop_of_length_le (Nat.le_of_not_lt hc2_)] at h_2
        rw [S_l7Copy_l2] at h_2
        try rw [← hg] at h_2
        try rw [← ht] at h_2
        try dsimp only at h_2
        rw [hb2]
        cbv
        refine ⟨w2, Wk.of [(0, some 1), (1, some 2), (2, some 3), (3, some 4), (4, some 5), (5, some 6)] rfl rfl ?_ ?_, (Option.some.inj h_2).symm⟩
        · cbv
          all_goals exact ⟨⟨_, rfl, rfl⟩, ⟨_, rfl, rfl⟩, trivial⟩
        · cbv
          all_goals exact ⟨⟨_, rfl, _, rfl, rfl, rfl, rfl, rfl, rfl, trivial⟩, ⟨_, rfl, _, rfl, rfl, rfl, rfl, rfl, rfl, trivial⟩, ⟨_, rfl, rfl⟩, ⟨_, rfl, rfl⟩, ⟨_, rfl, rfl⟩, ⟨_, rfl, rfl⟩, trivial⟩
    · rintro y2 hy2
      replace hy2 := hy2.symm
      subst hy2
      try dsimp only [lr, lrL, lrp, lrpL] at h
      cbv
      obtain rfl := Option.some.inj h
      exact ARet.mk ⟨⟨rfl, (dlen_Item hg ht _)⟩, ⟨⟨rfl, (dlen_Chute hg ht _)⟩, ⟨⟨rfl, (dlen_Inlet hg ht _)⟩, ⟨rfl, (dlen_I64 hg ht _)⟩⟩⟩⟩ hX.symm
end Go.Vs
namespace Go.Vs
set_option maxRecDepth 100000
def ir27 : J :=
  .seq (.reg none [⟨(some 1), none, .box (.t 0)⟩,
     ⟨(some 2), none, .mv (.k (V.i 0))⟩] [1])
  (.seq (.reg none [⟨(some 3), none, .mv (.k (V.i 0))⟩] [1, 3])
  (.seq (.seq (.reg none [⟨(some 6), none, .fa 2 (.t 1)⟩,
      ⟨(some 7), none, .ld false 1 (.t 6)⟩,
      ⟨(some 8), none, .len false (.t 7)⟩,
      ⟨(some 9), none, .mv (.k (V.i 0))⟩] [3, 7, 8, 9])
   (.bl 0 (.seq (.reg none [⟨(some 10), none, .bin .lss .i (.t 9) (.t 8)⟩] [3, 7, 8, 9, 10])
    (.seq (.cond (.t 10)
      (.skip)
      (.exit 0))
    (.seq (.block 1 (.seq (.reg none [⟨(some 11), none, .ia 2 (.t 7) (.t 9)⟩,
         ⟨(some 12), none, .ld true 2 (.t 11)⟩,
         ⟨(some 5), none, .alloc [.r (.v (.int .i64 0)), .n 2]⟩,
         ⟨none, none, .st 2 (.t 5) (.t 12)⟩] [3, 5, 7, 8, 9])
      (.reg none [⟨(some 13), none, .mv (.t 3)⟩,
        ⟨(some 14), none, .fa 1 (.t 5)⟩,
        ⟨(some 15), none, .ld false 1 (.t 14)⟩,
        ⟨(some 16), none, .len false (.t 15)⟩,
        ⟨(some 17), none, .bin .add .i (.t 13) (.t 16)⟩,
        ⟨(some 3), none, .mv (.t 17)⟩] [3, 7, 8, 9])))
    (.reg none [⟨(some 18), none, .bin .add .i (.t 9) (.k (V.i 1))⟩,
      ⟨(some 9), none, .mv (.t 18)⟩] [3, 7, 8, 9]))))))
  (.seq (.reg none [⟨(some 19), none, .mv (.t 3)⟩,
     ⟨(some 2), none, .mv (.t 19)⟩] [2])
  (.ret))))
def rv27 : List RV := [.t 2]
open Go.Proofs Go.IntWalk
set_option linter.unusedVariables false
set_option maxRecDepth 100000
set_option maxHeartbeats 4000000
def I_CountWait_l1 (g : G) (t : TE) : List Inlet → Int → Int
  | [], v1 =>
    v1
  | z1 :: ls1, v1 =>
    I_CountWait_l1 g t ls1 (g.wrap .i64 (g.add v1 (g.llen (t.r_Item z1.Wait))))
def I_CountWait (g : G) (t : TE) (a0 : Centre) : Int :=
  lP (I_CountWait_l1 g t a0.Inlets 0) fun y1 =>
  y1
theorem fit27 : codeFit Try.prog Try.f27.ntmps (Try.f27.body.getD .skip) ir27 = true := by kernel_rfl
theorem c_I_CountWait {g : G} {t : TE} {a0 : Centre} {r : Int} (hg : g = G.real) (ht : t = TE.real) (h : I_CountWait g t a0 = r) : Fn Try.prog 27 [.g (Centre.rs t a0)] (.c (.r (.v (.int .i64 r)))) := by
  obtain ⟨X, hX⟩ := hide (.c (.r (.v (.int .i64 r))) : X)
  rw [← hX]
  refine fn_of (rvs := rv27) (j := ir27) Try.func27 rfl fit27 (Nat.le_of_ble_eq_true rfl) (by kernel_rfl) prog_mixed ?_
  intro g2 F hg2 hF
  obtain rfl : g2 = g := hg2.unique.trans hg.symm
  clear hg2
  obtain ⟨wrap, lt, le, eq, quo, rem, band, bor, bxor, shl, shr, nat, int, add, sub, mul, cat, seq, slt, sub3, byte, llen, nadd, nsub, dlen, dapp, dset, drep, rd, rda, up, rsub, dsub, all, sle, slen, hasI, putI, hasS, putS, imin, imax, fzc⟩ := g2
  obtain ⟨r_Item, d_Item, r_Chute, d_Chute, r_Inlet, d_Inlet, r_I64, d_I64, r_U8, d_U8, d_InletF⟩ := t
  obtain ⟨a0_Belt, a0_Chutes, a0_Inlets, a0_Plan, a0_Now⟩ := a0
  unfold I_CountWait at h
  try dsimp only at h
  cbv
  obtain ⟨o1, ho1, h⟩ := of_lP h
  try dsimp only at h
  try rw [hg] at ho1
  try rw [ht] at ho1
  refine ABL.mk { p : Nat × Int × Int // p.1 ≤ a0_Inlets.length ∧ p.2.1 = ((p.1 : Nat) : Int) ∧ I_CountWait_l1 G.real TE.real (List.drop p.1 a0_Inlets) p.2.2 = o1 } (fun ⟨⟨k1, v2, v1⟩, _⟩ => ({ sl := [(3, .c (.r (.v (.int .i64 v1)))), (7, .c (.r (.s 2 (r_Inlet a0_Inlets)))), (8, .c (.r (.v (.int .i64 (llen (r_Inlet a0_Inlets)))))), (9, .c (.r (.v (.int .i64 v2))))], tab := [] } : St)) 0 (fun p => a0_Inlets.length - p.1.1) ⟨(0, 0, 0), Nat.zero_le _, rfl, ho1⟩ (Int) (fun y1 => ({ sl := [(3, .c (.r (.v (.int .i64 y1))))], tab := [] } : St)) 0 (fun y => o1 = y) ?_ ?_ ?_
  · refine Wk.of [] rfl rfl ?_ ?_
    · cbv
      all_goals exact ⟨⟨_, rfl, rfl⟩, ⟨_, rfl, rfl⟩, ⟨_, rfl, rfl⟩, ⟨_, rfl, rfl⟩, trivial⟩
    · cbv
      all_goals exact trivial
  · rintro ⟨⟨k1, v2, v1⟩, hk1, hi1, h_1⟩ hq1
    have hm1 := (hq1.1 7 _ _ rfl)
    try dsimp only at hk1 hi1 h_1
    clear hq1
    cbv
    by_cases hc1_ : k1 < a0_Inlets.length
    · have hb1 : lt v2 (llen (r_Inlet a0_Inlets)) = true := ltL_true_Inlet hg ht hi1 hc1_
      have hs1 := stepL_Inlet hg ht hi1 hc1_ hm1
      obtain ⟨z1, hz1⟩ := some_of_lt hc1_
      rw [drop_of_some hz1] at h_1
      rw [I_CountWait_l1] at h_1
      obtain ⟨z1_Cell, z1_Wait⟩ := z1
      try rw [← hg] at h_1
      try rw [← ht] at h_1
      try dsimp only at h_1
      rw [hb1]
      cbv
      refine AStep.mk (nn_L hi1) ?_
      cbv
      refine AGet.mk _ (r_getL_Inlet hg ht hi1 hz1) ?_
      cbv
      try rw [hg] at h_1
      try rw [ht] at h_1
      refine ⟨⟨(k1 + 1, (wrap .i64 (add v2 1)), (wrap .i64 (add v1 (llen (r_Item z1_Wait))))), hc1_, hs1, h_1⟩, Wk.of [] rfl rfl ?_ ?_, meas_L hc1_⟩
      · cbv
        all_goals exact ⟨⟨_, rfl, rfl⟩, ⟨_, rfl, rfl⟩, ⟨_, rfl, rfl⟩, ⟨_, rfl, rfl⟩, trivial⟩
      · cbv
        all_goals exact trivial
    · have hb1 : lt v2 (llen (r_Inlet a0_Inlets)) = false := ltL_false_Inlet hg ht hi1 hc1_
      rw [List.drop_of_length_le (Nat.le_of_not_lt hc1_)] at h_1
      rw [I_CountWait_l1] at h_1
      try rw [← hg] at h_1
      try rw [← ht] at h_1
      try dsimp only at h_1
      rw [hb1]
      cbv
      refine ⟨v1, Wk.of [] rfl rfl ?_ ?_, h_1.symm⟩
      · cbv
        all_goals exact ⟨⟨_, rfl, rfl⟩, trivial⟩
      · cbv
        all_goals exact trivial
  · rintro y1 hy1
    replace hy1 := hy1.symm
    subst hy1
    try dsimp only [lr, lrL, lrp, lrpL] at h
    cbv
    subst h
    exact ARet.mk trivial hX.symm
end Go.Vs
namespace Go.Vs
set_option maxRecDepth 100000
def ir30 : J :=
  .seq (.reg none [⟨(some 1), none, .box (.t 0)⟩,
     ⟨(some 2), none, .mv (.k (V.i 0))⟩] [1])
  (.seq (.reg none [⟨(some 3), none, .mv (.k (V.i 0))⟩] [1, 3])
  (.seq (.seq (.reg none [⟨(some 6), none, .fa 0 (.t 1)⟩,
      ⟨(some 7), none, .ld false 1 (.t 6)⟩,
      ⟨(some 8), none, .len false (.t 7)⟩,
      ⟨(some 9), none, .mv (.k (V.i 0))⟩] [3, 7, 8, 9])
   (.bl 0 (.seq (.reg none [⟨(some 10), none, .bin .lss .i (.t 9) (.t 8)⟩] [3, 7, 8, 9, 10])
    (.seq (.cond (.t 10)
      (.skip)
      (.exit 0))
    (.seq (.block 1 (.seq (.reg none [⟨(some 11), none, .ia 2 (.t 7) (.t 9)⟩,
         ⟨(some 12), none, .ld true 2 (.t 11)⟩,
         ⟨(some 5), none, .alloc [.r (.v (.int .i64 0)), .r (.v (.int .i64 0))]⟩,
         ⟨none, none, .st 2 (.t 5) (.t 12)⟩] [3, 5, 7, 8, 9])
      (.seq (.reg none [⟨(some 13), none, .fa 0 (.t 5)⟩,
         ⟨(some 14), none, .ld false 1 (.t 13)⟩,
         ⟨(some 15), none, .bin .neq .i (.t 14) (.k (V.i 0))⟩] [3, 7, 8, 9, 15])
      (.cond (.t 15)
       (.reg none [⟨(some 16), none, .mv (.t 3)⟩,
          ⟨(some 17), none, .bin .add .i (.t 16) (.k (V.i 1))⟩,
          ⟨(some 3), none, .mv (.t 17)⟩] [3, 7, 8, 9])
       (.skip)))))
    (.reg none [⟨(some 18), none, .bin .add .i (.t 9) (.k (V.i 1))⟩,
      ⟨(some 9), none, .mv (.t 18)⟩] [3, 7, 8, 9]))))))
  (.seq (.reg none [⟨(some 19), none, .mv (.t 3)⟩,
     ⟨(some 2), none, .mv (.t 19)⟩] [2])
  (.ret))))
def rv30 : List RV := [.t 2]
open Go.Proofs Go.IntWalk
set_option linter.unusedVariables false
set_option maxRecDepth 100000
set_option maxHeartbeats 4000000
def I_CountBelt_l1 (g : G) (t : TE) : List Item → Int → Int
  | [], v1 =>
    v1
  | z1 :: ls1, v1 =>
    br (g.eq z1.Id 0)
    (
     I_CountBelt_l1 g t ls1 v1)
    (
     I_CountBelt_l1 g t ls1 (g.wrap .i64 (g.add v1 1)))
def I_CountBelt (g : G) (t : TE) (a0 : Centre) : Int :=
  lP (I_CountBelt_l1 g t a0.Belt 0) fun y1 =>
  y1
theorem fit30 : codeFit Try.prog Try.f30.ntmps (Try.f30.body.getD .skip) ir30 = true := by kernel_rfl
theorem c_I_CountBelt {g : G} {t : TE} {a0 : Centre} {r : Int} (hg : g = G.real) (ht : t = TE.real) (h : I_CountBelt g t a0 = r) : Fn Try.prog 30 [.g (Centre.rs t a0)] (.c (.r (.v (.int .i64 r)))) := by
  obtain ⟨X, hX⟩ := hide (.c (.r (.v (.int .i64 r))) : X)
  rw [← hX]
  refine fn_of (rvs := rv30) (j := ir30) Try.func30 rfl fit30 (Nat.le_of_ble_eq_true rfl) (by kernel_rfl) prog_mixed ?_
  intro g2 F hg2 hF
  obtain rfl : g2 = g := hg2.unique.trans hg.symm
  clear hg2
  obtain ⟨wrap, lt, le, eq, quo, rem, band, bor, bxor, shl, shr, nat, int, add, sub, mul, cat, seq, slt, sub3, byte, llen, nadd, nsub, dlen, dapp, dset, drep, rd, rda, up, rsub, dsub, all, sle, slen, hasI, putI, hasS, putS, imin, imax, fzc⟩ := g2
  obtain ⟨r_Item, d_Item, r_Chute, d_Chute, r_Inlet, d_Inlet, r_I64, d_I64, r_U8, d_U8, d_InletF⟩ := t
  obtain ⟨a0_Belt, a0_Chutes, a0_Inlets, a0_Plan, a0_Now⟩ := a0
  unfold I_CountBelt at h
  try dsimp only at h
  cbv
  obtain ⟨o1, ho1, h⟩ := of_lP h
  try dsimp only at h
  try rw [hg] at ho1
  try rw [ht] at ho1
  refine ABL.mk { p : Nat × Int × Int // p.1 ≤ a0_Belt.length ∧ p.2.1 = ((p.1 : Nat) : Int) ∧ I_CountBelt_l1 G.real TE.real (List.drop p.1 a0_Belt) p.2.2 = o1 } (fun ⟨⟨k1, v2, v1⟩, _⟩ => ({ sl := [(3, .c (.r (.v (.int .i64 v1)))), (7, .c (.r (.s 2 (r_Item a0_Belt)))), (8, .c (.r (.v (.int .i64 (llen (r_Item a0_Belt)))))), (9, .c (.r (.v (.int .i64 v2))))], tab := [] } : St)) 0 (fun p => a0_Belt.length - p.1.1) ⟨(0, 0, 0), Nat.zero_le _, rfl, ho1⟩ (Int) (fun y1 => ({ sl := [(3, .c (.r (.v (.int .i64 y1))))], tab := [] } : St)) 0 (fun y => o1 = y) ?_ ?_ ?_
  · refine Wk.of [] rfl rfl ?_ ?_
    · cbv
      all_goals exact ⟨⟨_, rfl, rfl⟩, ⟨_, rfl, rfl⟩, ⟨_, rfl, rfl⟩, ⟨_, rfl, rfl⟩, trivial⟩
    · cbv
      all_goals exact trivial
  · rintro ⟨⟨k1, v2, v1⟩, hk1, hi1, h_1⟩ hq1
    have hm1 := (hq1.1 7 _ _ rfl)
    try dsimp only at hk1 hi1 h_1
    clear hq1
    cbv
    by_cases hc1_ : k1 < a0_Belt.length
    · have hb1 : lt v2 (llen (r_Item a0_Belt)) = true := ltL_true_Item hg ht hi1 hc1_
      have hs1 := stepL_Item hg ht hi1 hc1_ hm1
      obtain ⟨z1, hz1⟩ := some_of_lt hc1_
      rw [drop_of_some hz1] at h_1
      rw [I_CountBelt_l1] at h_1
      obtain ⟨z1_Id, z1_Dest⟩ := z1
      try rw [← hg] at h_1
      try rw [← ht] at h_1
      try dsimp only at h_1
      rw [hb1]
      cbv
      refine AStep.mk (nn_L hi1) ?_
      cbv
      refine AGet.mk _ (r_getL_Item hg ht hi1 hz1) ?_
      cbv
      cases hb2 : (eq z1_Id 0) with
      | true =>
        rw [br_true hb2] at h_1
        cbv
        try rw [hg] at h_1
        try rw [ht] at h_1
        refine ⟨⟨(k1 + 1, (wrap .i64 (add v2 1)), v1), hc1_, hs1, h_1⟩, Wk.of [] rfl rfl ?_ ?_, meas_L hc1_⟩
        · cbv
          all_goals exact ⟨⟨_, rfl, rfl⟩, ⟨_, rfl, rfl⟩, ⟨_, rfl, rfl⟩, ⟨_, rfl, rfl⟩, trivial⟩
        · cbv
          all_goals exact trivial
      | false =>
        rw [br_false hb2] at h_1
        cbv
        try rw [hg] at h_1
        try rw [ht] at h_1
        refine ⟨⟨(k1 + 1, (wrap .i64 (add v2 1)), (wrap .i64 (add v1 1))), hc1_, hs1, h_1⟩, Wk.of [] rfl rfl ?_ ?_, meas_L hc1_⟩
        · cbv
          all_goals exact ⟨⟨_, rfl, rfl⟩, ⟨_, rfl, rfl⟩, ⟨_, rfl, rfl⟩, ⟨_, rfl, rfl⟩, trivial⟩
        · cbv
          all_goals exact trivial
    · have hb1 : lt v2 (llen (r_Item a0_Belt)) = false := ltL_false_Item hg ht hi1 hc1_
      rw [List.drop_of_length_le (Nat.le_of_not_lt hc1_)] at h_1
      rw [I_CountBelt_l1] at h_1
      try rw [← hg] at h_1
      try rw [← ht] at h_1
      try dsimp only at h_1
      rw [hb1]
      cbv
      refine ⟨v1, Wk.of [] rfl rfl ?_ ?_, h_1.symm⟩
      · cbv
        all_goals exact ⟨⟨_, rfl, rfl⟩, trivial⟩
      · cbv
        all_goals exact trivial
  · rintro y1 hy1
    replace hy1 := hy1.symm
    subst hy1
    try dsimp only [lr, lrL, lrp, lrpL] at h
    cbv
    subst h
    exact ARet.mk trivial hX.symm
end Go.Vs
namespace Go.Vs
set_option maxRecDepth 100000
def ir25 : J :=
  .seq (.reg none [⟨(some 1), none, .box (.t 0)⟩,
     ⟨(some 2), none, .mv (.k (V.i 0))⟩] [1])
  (.seq (.reg none [⟨(some 3), none, .mv (.k (V.i 0))⟩] [1, 3])
  (.seq (.seq (.reg none [⟨(some 4), none, .mv (.k (V.i 0))⟩] [1, 3, 4])
   (.bl 0 (.seq (.seq (.reg none [⟨(some 5), none, .mv (.t 4)⟩,
        ⟨(some 6), none, .fa 2 (.t 1)⟩,
        ⟨(some 7), none, .ld false 1 (.t 6)⟩,
        ⟨(some 8), none, .len false (.t 7)⟩,
        ⟨(some 9), none, .bin .lss .i (.t 5) (.t 8)⟩] [1, 3, 4, 9])
     (.cond (.t 9)
      (.skip)
      (.exit 0)))
    (.seq (.block 1 (.reg none [⟨(some 12), none, .mv (.t 3)⟩,
        ⟨(some 13), none, .fa 2 (.t 1)⟩,
        ⟨(some 14), none, .ld false 1 (.t 13)⟩,
        ⟨(some 15), none, .mv (.t 4)⟩,
        ⟨(some 16), none, .ia 2 (.t 14) (.t 15)⟩,
        ⟨(some 17), none, .fa 1 (.t 16)⟩,
        ⟨(some 18), none, .ld false 1 (.t 17)⟩,
        ⟨(some 19), none, .len false (.t 18)⟩,
        ⟨(some 20), none, .bin .add .i (.t 12) (.t 19)⟩,
        ⟨(some 3), none, .mv (.t 20)⟩] [1, 3, 4]))
    (.reg none [⟨(some 10), none, .mv (.t 4)⟩,
      ⟨(some 11), none, .bin .add .i (.t 10) (.k (V.i 1))⟩,
      ⟨(some 4), none, .mv (.t 11)⟩] [1, 3, 4])))))
  (.seq (.reg none [⟨(some 21), none, .mv (.t 3)⟩,
     ⟨(some 2), none, .mv (.t 21)⟩] [2])
  (.ret))))
def rv25 : List RV := [.t 2]
open Go.Proofs Go.IntWalk
set_option linter.unusedVariables false
set_option maxRecDepth 100000
set_option maxHeartbeats 4000000
def S_CountWait_l1 (g : G) (t : TE) : List Inlet → Int → Int
  | [], v1 =>
    v1
  | z1 :: ls1, v1 =>
    S_CountWait_l1 g t ls1 (g.wrap .i64 (g.add v1 (g.llen (t.r_Item z1.Wait))))
def S_CountWait (g : G) (t : TE) (a0 : Centre) : Int :=
  lP (S_CountWait_l1 g t a0.Inlets 0) fun y1 =>
  y1
theorem fit25 : codeFit Try.prog Try.f25.ntmps (Try.f25.body.getD .skip) ir25 = true := by kernel_rfl
theorem c_S_CountWait {g : G} {t : TE} {a0 : Centre} {r : Int} (hg : g = G.real) (ht : t = TE.real) (h : S_CountWait g t a0 = r) : Fn Try.prog 25 [.g (Centre.rs t a0)] (.c (.r (.v (.int .i64 r)))) := by
  obtain ⟨X, hX⟩ := hide (.c (.r (.v (.int .i64 r))) : X)
  rw [← hX]
  refine fn_of (rvs := rv25) (j := ir25) Try.func25 rfl fit25 (Nat.le_of_ble_eq_true rfl) (by kernel_rfl) prog_mixed ?_
  intro g2 F hg2 hF
  obtain rfl : g2 = g := hg2.unique.trans hg.symm
  clear hg2
  obtain ⟨wrap, lt, le, eq, quo, rem, band, bor, bxor, shl, shr, nat, int, add, sub, mul, cat, seq, slt, sub3, byte, llen, nadd, nsub, dlen, dapp, dset, drep, rd, rda, up, rsub, dsub, all, sle, slen, hasI, putI, hasS, putS, imin, imax, fzc⟩ := g2
  obtain ⟨r_Item, d_Item, r_Chute, d_Chute, r_Inlet, d_Inlet, r_I64, d_I64, r_U8, d_U8, d_InletF⟩ := t
  obtain ⟨a0_Belt, a0_Chutes, a0_Inlets, a0_Plan, a0_Now⟩ := a0
  unfold S_CountWait at h
  try dsimp only at h
  cbv
  obtain ⟨o1, ho1, h⟩ := of_lP h
  try dsimp only at h
  try rw [hg] at ho1
  try rw [ht] at ho1
  refine ABL.mk { p : Nat × Int × Int // p.1 ≤ a0_Inlets.length ∧ p.2.1 = ((p.1 : Nat) : Int) ∧ S_CountWait_l1 G.real TE.real (List.drop p.1 a0_Inlets) p.2.2 = o1 } (fun ⟨⟨k1, v2, v1⟩, _⟩ => ({ sl := [(1, .c (.p 0 5 0 0)), (3, .c (.r (.v (.int .i64 v1)))), (4, .c (.r (.v (.int .i64 v2))))], tab := [(0, some (.foc 5 [] [.r (.s 2 (r_Item a0_Belt)), .r (.s 3 (r_Chute a0_Chutes)), .r (.s 2 (r_Inlet a0_Inlets)), .r (.s 1 (r_I64 a0_Plan)), .r (.v (.int .i64 a0_Now))] []))] } : St)) 1 (fun p => a0_Inlets.length - p.1.1) ⟨(0, 0, 0), Nat.zero_le _, rfl, ho1⟩ (Int) (fun y1 => ({ sl := [(3, .c (.r (.v (.int .i64 y1))))], tab := [] } : St)) 0 (fun y => o1 = y) ?_ ?_ ?_
  · refine Wk.of [(0, some 0)] rfl rfl ?_ ?_
    · cbv
      all_goals exact ⟨⟨_, rfl, rfl⟩, ⟨_, rfl, rfl⟩, ⟨_, rfl, rfl⟩, trivial⟩
    · cbv
      all_goals exact ⟨⟨_, rfl, _, rfl, rfl, rfl, rfl, rfl, rfl, trivial⟩, trivial⟩
  · rintro ⟨⟨k1, v2, v1⟩, hk1, hi1, h_1⟩ hq1
    have hm1 := (hq1.2.2.1 0 _ _ _ _ 2 _ _ rfl rfl)
    try dsimp only at hk1 hi1 h_1
    clear hq1
    cbv
    by_cases hc1_ : k1 < a0_Inlets.length
    · have hb1 : lt v2 (llen (r_Inlet a0_Inlets)) = true := ltL_true_Inlet hg ht hi1 hc1_
      have hs1 := stepL_Inlet hg ht hi1 hc1_ hm1
      obtain ⟨z1, hz1⟩ := some_of_lt hc1_
      rw [drop_of_some hz1] at h_1
      rw [S_CountWait_l1] at h_1
      obtain ⟨z1_Cell, z1_Wait⟩ := z1
      try rw [← hg] at h_1
      try rw [← ht] at h_1
      try dsimp only at h_1
      rw [hb1]
      cbv
      refine AStep.mk (nn_L hi1) ?_
      cbv
      refine AGet.mk _ (r_getL_Inlet hg ht hi1 hz1) ?_
      cbv
      try rw [hg] at h_1
      try rw [ht] at h_1
      refine ⟨⟨(k1 + 1, (wrap .i64 (add v2 1)), (wrap .i64 (add v1 (llen (r_Item z1_Wait))))), hc1_, hs1, h_1⟩, Wk.of [(0, some 0)] rfl rfl ?_ ?_, meas_L hc1_⟩
      · cbv
        all_goals exact ⟨⟨_, rfl, rfl⟩, ⟨_, rfl, rfl⟩, ⟨_, rfl, rfl⟩, trivial⟩
      · cbv
        all_goals exact ⟨⟨_, rfl, _, rfl, rfl, rfl, rfl, rfl, rfl, trivial⟩, trivial⟩
    · have hb1 : lt v2 (llen (r_Inlet a0_Inlets)) = false := ltL_false_Inlet hg ht hi1 hc1_
      rw [List.drop_of_length_le (Nat.le_of_not_lt hc1_)] at h_1
      rw [S_CountWait_l1] at h_1
      try rw [← hg] at h_1
      try rw [← ht] at h_1
      try dsimp only at h_1
      rw [hb1]
      cbv
      refine ⟨v1, Wk.of [] rfl rfl ?_ ?_, h_1.symm⟩
      · cbv
        all_goals exact ⟨⟨_, rfl, rfl⟩, trivial⟩
      · cbv
        all_goals exact trivial
  · rintro y1 hy1
    replace hy1 := hy1.symm
    subst hy1
    try dsimp only [lr, lrL, lrp, lrpL] at h
    cbv
    subst h
    exact ARet.mk trivial hX.symm
end Go.Vs
namespace Go.Vs
set_option maxRecDepth 100000
def ir29 : J :=
  .seq (.reg none [⟨(some 1), none, .box (.t 0)⟩,
     ⟨(some 2), none, .mv (.k (V.i 0))⟩] [1])
  (.seq (.reg none [⟨(some 3), none, .mv (.k (V.i 0))⟩] [1, 3])
  (.seq (.seq (.reg none [⟨(some 4), none, .mv (.k (V.i 0))⟩] [1, 3, 4])
   (.bl 0 (.seq (.seq (.reg none [⟨(some 5), none, .mv (.t 4)⟩,
        ⟨(some 6), none, .fa 0 (.t 1)⟩,
        ⟨(some 7), none, .ld false 1 (.t 6)⟩,
        ⟨(some 8), none, .len false (.t 7)⟩,
        ⟨(some 9), none, .bin .lss .i (.t 5) (.t 8)⟩] [1, 3, 4, 9])
     (.cond (.t 9)
      (.skip)
      (.exit 0)))
    (.seq (.block 1 (.seq (.reg none [⟨(some 12), none, .fa 0 (.t 1)⟩,
         ⟨(some 13), none, .ld false 1 (.t 12)⟩,
         ⟨(some 14), none, .mv (.t 4)⟩,
         ⟨(some 15), none, .ia 2 (.t 13) (.t 14)⟩,
         ⟨(some 16), none, .fa 0 (.t 15)⟩,
         ⟨(some 17), none, .ld false 1 (.t 16)⟩,
         ⟨(some 18), none, .bin .neq .i (.t 17) (.k (V.i 0))⟩] [1, 3, 4, 18])
      (.cond (.t 18)
       (.reg none [⟨(some 19), none, .mv (.t 3)⟩,
          ⟨(some 20), none, .bin .add .i (.t 19) (.k (V.i 1))⟩,
          ⟨(some 3), none, .mv (.t 20)⟩] [1, 3, 4])
       (.skip))))
    (.reg none [⟨(some 10), none, .mv (.t 4)⟩,
      ⟨(some 11), none, .bin .add .i (.t 10) (.k (V.i 1))⟩,
      ⟨(some 4), none, .mv (.t 11)⟩] [1, 3, 4])))))
  (.seq (.reg none [⟨(some 21), none, .mv (.t 3)⟩,
     ⟨(some 2), none, .mv (.t 21)⟩] [2])
  (.ret))))
def rv29 : List RV := [.t 2]
open Go.Proofs Go.IntWalk
set_option linter.unusedVariables false
set_option maxRecDepth 100000
set_option maxHeartbeats 4000000
def S_CountBelt_l1 (g : G) (t : TE) : List Item → Int → Int
  | [], v1 =>
    v1
  | z1 :: ls1, v1 =>
    br (g.eq z1.Id 0)
    (
     S_CountBelt_l1 g t ls1 v1)
    (
     S_CountBelt_l1 g t ls1 (g.wrap .i64 (g.add v1 1)))
def S_CountBelt (g : G) (t : TE) (a0 : Centre) : Int :=
  lP (S_CountBelt_l1 g t a0.Belt 0) fun y1 =>
  y1
theorem fit29 : codeFit Try.prog Try.f29.ntmps (Try.f29.body.getD .skip) ir29 = true := by kernel_rfl
theorem c_S_CountBelt {g : G} {t : TE} {a0 : Centre} {r : Int} (hg : g = G.real) (ht : t = TE.real) (h : S_CountBelt g t a0 = r) : Fn Try.prog 29 [.g (Centre.rs t a0)] (.c (.r (.v (.int .i64 r)))) := by
  obtain ⟨X, hX⟩ := hide (.c (.r (.v (.int .i64 r))) : X)
  rw [← hX]
  refine fn_of (rvs := rv29) (j := ir29) Try.func29 rfl fit29 (Nat.le_of_ble_eq_true rfl) (by kernel_rfl) prog_mixed ?_
  intro g2 F hg2 hF
  obtain rfl : g2 = g := hg2.unique.trans hg.symm
  clear hg2
  obtain ⟨wrap, lt, le, eq, quo, rem, band, bor, bxor, shl, shr, nat, int, add, sub, mul, cat, seq, slt, sub3, byte, llen, nadd, nsub, dlen, dapp, dset, drep, rd, rda, up, rsub, dsub, all, sle, slen, hasI, putI, hasS, putS, imin, imax, fzc⟩ := g2
  obtain ⟨r_Item, d_Item, r_Chute, d_Chute, r_Inlet, d_Inlet, r_I64, d_I64, r_U8, d_U8, d_InletF⟩ := t
  obtain ⟨a0_Belt, a0_Chutes, a0_Inlets, a0_Plan, a0_Now⟩ := a0
  unfold S_CountBelt at h
  try dsimp only at h
  cbv
  obtain ⟨o1, ho1, h⟩ := of_lP h
  try dsimp only at h
  try rw [hg] at ho1
  try rw [ht] at ho1
  refine ABL.mk { p : Nat × Int × Int // p.1 ≤ a0_Belt.length ∧ p.2.1 = ((p.1 : Nat) : Int) ∧ S_CountBelt_l1 G.real TE.real (List.drop p.1 a0_Belt) p.2.2 = o1 } (fun ⟨⟨k1, v2, v1⟩, _⟩ => ({ sl := [(1, .c (.p 0 5 0 0)), (3, .c (.r (.v (.int .i64 v1)))), (4, .c (.r (.v (.int .i64 v2))))], tab := [(0, some (.foc 5 [] [.r (.s 2 (r_Item a0_Belt)), .r (.s 3 (r_Chute a0_Chutes)), .r (.s 2 (r_Inlet a0_Inlets)), .r (.s 1 (r_I64 a0_Plan)), .r (.v (.int .i64 a0_Now))] []))] } : St)) 1 (fun p => a0_Belt.length - p.1.1) ⟨(0, 0, 0), Nat.zero_le _, rfl, ho1⟩ (Int) (fun y1 => ({ sl := [(3, .c (.r (.v (.int .i64 y1))))], tab := [] } : St)) 0 (fun y => o1 = y) ?_ ?_ ?_
  · refine Wk.of [(0, some 0)] rfl rfl ?_ ?_
    · cbv
      all_goals exact ⟨⟨_, rfl, rfl⟩, ⟨_, rfl, rfl⟩, ⟨_, rfl, rfl⟩, trivial⟩
    · cbv
      all_goals exact ⟨⟨_, rfl, _, rfl, rfl, rfl, rfl, rfl, rfl, trivial⟩, trivial⟩
  · rintro ⟨⟨k1, v2, v1⟩, hk1, hi1, h_1⟩ hq1
    have hm1 := (hq1.2.2.1 0 _ _ _ _ 0 _ _ rfl rfl)
    try dsimp only at hk1 hi1 h_1
    clear hq1
    cbv
    by_cases hc1_ : k1 < a0_Belt.length
    · have hb1 : lt v2 (llen (r_Item a0_Belt)) = true := ltL_true_Item hg ht hi1 hc1_
      have hs1 := stepL_Item hg ht hi1 hc1_ hm1
      obtain ⟨z1, hz1⟩ := some_of_lt hc1_
      rw [drop_of_some hz1] at h_1
      rw [S_CountBelt_l1] at h_1
      obtain ⟨z1_Id, z1_Dest⟩ := z1
      try rw [← hg] at h_1
      try rw [← ht] at h_1
      try dsimp only at h_1
      rw [hb1]
      cbv
      refine AStep.mk (nn_L hi1) ?_
      cbv
      refine AGet.mk _ (r_getL_Item hg ht hi1 hz1) ?_
      cbv
      cases hb2 : (eq z1_Id 0) with
      | true =>
        rw [br_true hb2] at h_1
        cbv
        try rw [hg] at h_1
        try rw [ht] at h_1
        refine ⟨⟨(k1 + 1, (wrap .i64 (add v2 1)), v1), hc1_, hs1, h_1⟩, Wk.of [(0, some 0)] rfl rfl ?_ ?_, meas_L hc1_⟩
        · cbv
          all_goals exact ⟨⟨_, rfl, rfl⟩, ⟨_, rfl, rfl⟩, ⟨_, rfl, rfl⟩, trivial⟩
        · cbv
          all_goals exact ⟨⟨_, rfl, _, rfl, rfl, rfl, rfl, rfl, rfl, trivial⟩, trivial⟩
      | false =>
        rw [br_false hb2] at h_1
        cbv
        try rw [hg] at h_1
        try rw [ht] at h_1
        refine ⟨⟨(k1 + 1, (wrap .i64 (add v2 1)), (wrap .i64 (add v1 1))), hc1_, hs1, h_1⟩, Wk.of [(0, some 0)] rfl rfl ?_ ?_, meas_L hc1_⟩
        · cbv
          all_goals exact ⟨⟨_, rfl, rfl⟩, ⟨_, rfl, rfl⟩, ⟨_, rfl, rfl⟩, trivial⟩
        · cbv
          all_goals exact ⟨⟨_, rfl, _, rfl, rfl, rfl, rfl, rfl, rfl, trivial⟩, trivial⟩
    · have hb1 : lt v2 (llen (r_Item a0_Belt)) = false := ltL_false_Item hg ht hi1 hc1_
      rw [List.drop_of_length_le (Nat.le_of_not_lt hc1_)] at h_1
      rw [S_CountBelt_l1] at h_1
      try rw [← hg] at h_1
      try rw [← ht] at h_1
      try dsimp only at h_1
      rw [hb1]
      cbv
      refine ⟨v1, Wk.of [] rfl rfl ?_ ?_, h_1.symm⟩
      · cbv
        all_goals exact ⟨⟨_, rfl, rfl⟩, trivial⟩
      · cbv
        all_goals exact trivial
  · rintro y1 hy1
    replace hy1 := hy1.symm
    subst hy1
    try dsimp only [lr, lrL, lrp, lrpL] at h
    cbv
    subst h
    exact ARet.mk trivial hX.symm
end Go.Vs
namespace Go.Vs
set_option maxRecDepth 100000
def ir66 : J :=
  .seq (.reg none [⟨(some 4), none, .mv (.k (V.i 0))⟩] [0, 1])
  (.seq (.seq (.reg none [⟨(some 5), none, .mv (.k (V.i 0))⟩] [0, 1, 5])
   (.bl 0 (.seq (.seq (.reg none [⟨(some 6), none, .mv (.t 5)⟩,
        ⟨(some 7), none, .mv (.t 0)⟩,
        ⟨(some 8), none, .len false (.t 7)⟩,
        ⟨(some 9), none, .bin .lss .i (.t 6) (.t 8)⟩] [0, 1, 5, 9])
     (.cond (.t 9)
      (.skip)
      (.exit 0)))
    (.seq (.block 1 (.seq (.seq (.reg none [⟨(some 12), none, .mv (.t 0)⟩,
          ⟨(some 13), none, .mv (.t 5)⟩,
          ⟨(some 14), none, .ia 2 (.t 12) (.t 13)⟩,
          ⟨(some 15), none, .fa 0 (.t 14)⟩,
          ⟨(some 16), none, .ld false 1 (.t 15)⟩,
          ⟨(some 17), none, .mv (.t 1)⟩,
          ⟨(some 18), none, .bin .neq .i (.t 16) (.t 17)⟩] [0, 1, 5, 18])
       (.cond (.t 18)
        (.seq (.reg none [⟨(some 4), none, .mv (.k (V.i (-1)))⟩] [4])
         (.ret))
        (.skip)))
      (.seq (.reg none [⟨(some 19), none, .mv (.t 1)⟩,
         ⟨(some 20), none, .bin .add .i (.t 19) (.k (V.i 1))⟩,
         ⟨(some 1), none, .mv (.t 20)⟩] [0, 1, 5])
      (.seq (.seq (.reg none [⟨(some 21), none, .mv (.t 0)⟩,
          ⟨(some 22), none, .mv (.t 5)⟩,
          ⟨(some 23), none, .ia 2 (.t 21) (.t 22)⟩,
          ⟨(some 24), none, .fa 1 (.t 23)⟩,
          ⟨(some 25), none, .ld false 1 (.t 24)⟩,
          ⟨(some 26), none, .mv (.t 1)⟩,
          ⟨(some 27), none, .bin .neq .i (.t 25) (.t 26)⟩] [0, 1, 5, 27])
       (.cond (.t 27)
        (.seq (.reg none [⟨(some 4), none, .mv (.k (V.i (-1)))⟩] [4])
         (.ret))
        (.skip)))
      (.reg none [⟨(some 28), none, .mv (.t 1)⟩,
        ⟨(some 29), none, .bin .add .i (.t 28) (.k (V.i 1))⟩,
        ⟨(some 1), none, .mv (.t 29)⟩] [0, 1, 5])))))
    (.reg none [⟨(some 10), none, .mv (.t 5)⟩,
      ⟨(some 11), none, .bin .add .i (.t 10) (.k (V.i 1))⟩,
      ⟨(some 5), none, .mv (.t 11)⟩] [0, 1, 5])))))
  (.seq (.reg none [⟨(some 30), none, .mv (.t 1)⟩,
     ⟨(some 4), none, .mv (.t 30)⟩] [4])
  (.ret)))
def rv66 : List RV := [.t 4]
open Go.Proofs Go.IntWalk
set_option linter.unusedVariables false
set_option maxRecDepth 100000
set_option maxHeartbeats 4000000
def L_heldItemS_l1 (g : G) (t : TE) : List Item → Int → LR Int Int
  | [], v1 =>
    (LR.out v1)
  | z1 :: ls1, v1 =>
    br (g.eq z1.Id v1)
    (
     br (g.eq z1.Dest (g.wrap .i64 (g.add v1 1)))
     (
      L_heldItemS_l1 g t ls1 (g.wrap .i64 (g.add (g.wrap .i64 (g.add v1 1)) 1)))
     (
      (LR.ret (-1))))
    (
     (LR.ret (-1)))
def L_heldItemS (g : G) (t : TE) (a0 : List Item) (a1 : Int) : Int :=
  lP (L_heldItemS_l1 g t a0 a1) fun o1 => lrp o1 fun y1 =>
  y1
theorem fit66 : codeFit Try.prog Try.f66.ntmps (Try.f66.body.getD .skip) ir66 = true := by kernel_rfl
theorem c_L_heldItemS {g : G} {t : TE} {a0 : List Item} {a1 : Int} {r : Int} (hg : g = G.real) (ht : t = TE.real) (h : L_heldItemS g t a0 a1 = r) : Fn Try.prog 66 [.c (.s 2 (t.r_Item a0)), .c (.v (.int .i64 a1))] (.c (.r (.v (.int .i64 r)))) := by
  obtain ⟨X, hX⟩ := hide (.c (.r (.v (.int .i64 r))) : X)
  rw [← hX]
  refine fn_of (rvs := rv66) (j := ir66) Try.func66 rfl fit66 (Nat.le_of_ble_eq_true rfl) (by kernel_rfl) prog_mixed ?_
  intro g2 F hg2 hF
  obtain rfl : g2 = g := hg2.unique.trans hg.symm
  clear hg2
  obtain ⟨wrap, lt, le, eq, quo, rem, band, bor, bxor, shl, shr, nat, int, add, sub, mul, cat, seq, slt, sub3, byte, llen, nadd, nsub, dlen, dapp, dset, drep, rd, rda, up, rsub, dsub, all, sle, slen, hasI, putI, hasS, putS, imin, imax, fzc⟩ := g2
  obtain ⟨r_Item, d_Item, r_Chute, d_Chute, r_Inlet, d_Inlet, r_I64, d_I64, r_U8, d_U8, d_InletF⟩ := t
  unfold L_heldItemS at h
  try dsimp only at h
  cbv
  obtain ⟨o1, ho1, h⟩ := of_lP h
  try dsimp only at h
  try rw [hg] at ho1
  try rw [ht] at ho1
  refine ABL.mk { p : Nat × Int × Int // p.1 ≤ a0.length ∧ p.2.1 = ((p.1 : Nat) : Int) ∧ L_heldItemS_l1 G.real TE.real (List.drop p.1 a0) p.2.2 = o1 } (fun ⟨⟨k1, v2, v1⟩, _⟩ => ({ sl := [(0, .c (.r (.s 2 (r_Item a0)))), (1, .c (.r (.v (.int .i64 v1)))), (5, .c (.r (.v (.int .i64 v2))))], tab := [] } : St)) 0 (fun p => a0.length - p.1.1) ⟨(0, 0, a1), Nat.zero_le _, rfl, ho1⟩ (Int) (fun y1 => ({ sl := [(1, .c (.r (.v (.int .i64 y1))))], tab := [] } : St)) 0 (fun y => o1 = LR.out y) ?_ ?_ ?_
  · refine Wk.of [] rfl rfl ?_ ?_
    · cbv
      all_goals exact ⟨⟨_, rfl, rfl⟩, ⟨_, rfl, rfl⟩, ⟨_, rfl, rfl⟩, trivial⟩
    · cbv
      all_goals exact trivial
  · rintro ⟨⟨k1, v2, v1⟩, hk1, hi1, h_1⟩ hq1
    have hm1 := (hq1.1 0 _ _ rfl)
    try dsimp only at hk1 hi1 h_1
    clear hq1
    cbv
    by_cases hc1_ : k1 < a0.length
    · have hb1 : lt v2 (llen (r_Item a0)) = true := ltL_true_Item hg ht hi1 hc1_
      have hs1 := stepL_Item hg ht hi1 hc1_ hm1
      obtain ⟨z1, hz1⟩ := some_of_lt hc1_
      rw [drop_of_some hz1] at h_1
      rw [L_heldItemS_l1] at h_1
      obtain ⟨z1_Id, z1_Dest⟩ := z1
      try rw [← hg] at h_1
      try rw [← ht] at h_1
      try dsimp only at h_1
      rw [hb1]
      cbv
      refine AStep.mk (nn_L hi1) ?_
      cbv
      refine AGet.mk _ (r_getL_Item hg ht hi1 hz1) ?_
      cbv
      cases hb2 : (eq z1_Id v1) with
      | true =>
        rw [br_true hb2] at h_1
        cbv
        refine AStep.mk (nn_L hi1) ?_
        cbv
        refine AGet.mk _ (r_getL_Item hg ht hi1 hz1) ?_
        cbv
        cases hb3 : (eq z1_Dest (wrap .i64 (add v1 1))) with
        | true =>
          rw [br_true hb3] at h_1
          cbv
          try rw [hg] at h_1
          try rw [ht] at h_1
          refine ⟨⟨(k1 + 1, (wrap .i64 (add v2 1)), (wrap .i64 (add (wrap .i64 (add v1 1)) 1))), hc1_, hs1, h_1⟩, Wk.of [] rfl rfl ?_ ?_, meas_L hc1_⟩
          · cbv
            all_goals exact ⟨⟨_, rfl, rfl⟩, ⟨_, rfl, rfl⟩, ⟨_, rfl, rfl⟩, trivial⟩
          · cbv
            all_goals exact trivial
        | false =>
          rw [br_false hb3] at h_1
          cbv
          subst h_1
          try dsimp only [lr, lrL, lrp, lrpL] at h
          subst h
          exact ARet.mk trivial hX.symm
      | false =>
        rw [br_false hb2] at h_1
        cbv
        subst h_1
        try dsimp only [lr, lrL, lrp, lrpL] at h
        subst h
        exact ARet.mk trivial hX.symm
    · have hb1 : lt v2 (llen (r_Item a0)) = false := ltL_false_Item hg ht hi1 hc1_
      rw [List.drop_of_length_le (Nat.le_of_not_lt hc1_)] at h_1
      rw [L_heldItemS_l1] at h_1
      try rw [← hg] at h_1
      try rw [← ht] at h_1
      try dsimp only at h_1
      rw [hb1]
      cbv
      refine ⟨v1, Wk.of [] rfl rfl ?_ ?_, h_1.symm⟩
      · cbv
        all_goals exact ⟨⟨_, rfl, rfl⟩, trivial⟩
      · cbv
        all_goals exact trivial
  · rintro y1 hy1
    replace hy1 := hy1.symm
    subst hy1
    try dsimp only [lr, lrL, lrp, lrpL] at h
    cbv
    subst h
    exact ARet.mk trivial hX.symm
end Go.Vs
namespace Go.Vs
set_option maxRecDepth 100000
def ir99 : J :=
  .seq (.reg none [⟨(some 4), none, .mv (.k (V.i 0))⟩] [0, 1])
  (.seq (.seq (.reg none [⟨(some 5), none, .mv (.k (V.i 0))⟩] [0, 1, 5])
   (.bl 0 (.seq (.seq (.reg none [⟨(some 6), none, .mv (.t 5)⟩,
        ⟨(some 7), none, .mv (.t 0)⟩,
        ⟨(some 8), none, .len false (.t 7)⟩,
        ⟨(some 9), none, .bin .lss .i (.t 6) (.t 8)⟩] [0, 1, 5, 9])
     (.cond (.t 9)
      (.skip)
      (.exit 0)))
    (.seq (.block 1 (.seq (.seq (.reg none [⟨(some 12), none, .mv (.t 0)⟩,
          ⟨(some 13), none, .mv (.t 5)⟩,
          ⟨(some 14), none, .ia 3 (.t 12) (.t 13)⟩,
          ⟨(some 15), none, .fa 0 (.t 14)⟩,
          ⟨(some 16), none, .ld false 1 (.t 15)⟩,
          ⟨(some 17), none, .mv (.t 1)⟩,
          ⟨(some 18), none, .bin .neq .i (.t 16) (.t 17)⟩] [0, 1, 5, 18])
       (.cond (.t 18)
        (.seq (.reg none [⟨(some 4), none, .mv (.k (V.i (-1)))⟩] [4])
         (.ret))
        (.skip)))
      (.seq (.reg none [⟨(some 19), none, .mv (.t 1)⟩,
         ⟨(some 20), none, .bin .add .i (.t 19) (.k (V.i 1))⟩,
         ⟨(some 1), none, .mv (.t 20)⟩] [0, 1, 5])
      (.seq (.seq (.reg none [⟨(some 21), none, .mv (.t 0)⟩,
          ⟨(some 22), none, .mv (.t 5)⟩,
          ⟨(some 23), none, .ia 3 (.t 21) (.t 22)⟩,
          ⟨(some 24), none, .fa 1 (.t 23)⟩,
          ⟨(some 25), none, .ld false 1 (.t 24)⟩,
          ⟨(some 26), none, .mv (.t 1)⟩,
          ⟨(some 27), none, .bin .neq .i (.t 25) (.t 26)⟩] [0, 1, 5, 27])
       (.cond (.t 27)
        (.seq (.reg none [⟨(some 4), none, .mv (.k (V.i (-1)))⟩] [4])
         (.ret))
        (.skip)))
      (.seq (.reg none [⟨(some 28), none, .mv (.t 1)⟩,
         ⟨(some 29), none, .bin .add .i (.t 28) (.k (V.i 1))⟩,
         ⟨(some 1), none, .mv (.t 29)⟩] [0, 1, 5])
      (.seq (.reg none [⟨(some 30), none, .mv (.t 0)⟩,
         ⟨(some 31), none, .mv (.t 5)⟩,
         ⟨(some 32), none, .ia 3 (.t 30) (.t 31)⟩,
         ⟨(some 33), none, .fa 2 (.t 32)⟩,
         ⟨(some 34), none, .ld false 1 (.t 33)⟩,
         ⟨(some 35), none, .mv (.t 1)⟩,
         ⟨(some 36), none, .call 66 true [(.t 34), (.t 35)]⟩,
         ⟨(some 1), none, .mv (.t 36)⟩] [0, 1, 5])
      (.seq (.reg none [⟨(some 37), none, .mv (.t 1)⟩,
         ⟨(some 38), none, .bin .lss .i (.t 37) (.k (V.i 0))⟩] [0, 1, 5, 38])
      (.cond (.t 38)
       (.seq (.reg none [⟨(some 4), none, .mv (.k (V.i (-1)))⟩] [4])
        (.ret))
       (.skip)))))))))
    (.reg none [⟨(some 10), none, .mv (.t 5)⟩,
      ⟨(some 11), none, .bin .add .i (.t 10) (.k (V.i 1))⟩,
      ⟨(some 5), none, .mv (.t 11)⟩] [0, 1, 5])))))
  (.seq (.reg none [⟨(some 39), none, .mv (.t 1)⟩,
     ⟨(some 4), none, .mv (.t 39)⟩] [4])
  (.ret)))
def rv99 : List RV := [.t 4]
open Go.Proofs Go.IntWalk
set_option linter.unusedVariables false
set_option maxRecDepth 100000
set_option maxHeartbeats 4000000
def L_heldChuteS_l1 (g : G) (t : TE) : List Chute → Int → LR Int Int
  | [], v1 =>
    (LR.out v1)
  | z1 :: ls1, v1 =>
    br (g.eq z1.Cell v1)
    (
     br (g.eq z1.Room (g.wrap .i64 (g.add v1 1)))
     (
      lP (L_heldItemS g t z1.Held (g.wrap .i64 (g.add (g.wrap .i64 (g.add v1 1)) 1))) fun x1 =>
      br (g.lt x1 0)
      (
       (LR.ret (-1)))
      (
       L_heldChuteS_l1 g t ls1 x1))
     (
      (LR.ret (-1))))
    (
     (LR.ret (-1)))
def L_heldChuteS (g : G) (t : TE) (a0 : List Chute) (a1 : Int) : Int :=
  lP (L_heldChuteS_l1 g t a0 a1) fun o1 => lrp o1 fun y1 =>
  y1
theorem fit99 : codeFit Try.prog Try.f99.ntmps (Try.f99.body.getD .skip) ir99 = true := by kernel_rfl
theorem c_L_heldChuteS {g : G} {t : TE} {a0 : List Chute} {a1 : Int} {r : Int} (hg : g = G.real) (ht : t = TE.real) (h : L_heldChuteS g t a0 a1 = r) : Fn Try.prog 99 [.c (.s 3 (t.r_Chute a0)), .c (.v (.int .i64 a1))] (.c (.r (.v (.int .i64 r)))) := by
  obtain ⟨X, hX⟩ := hide (.c (.r (.v (.int .i64 r))) : X)
  rw [← hX]
  refine fn_of (rvs := rv99) (j := ir99) Try.func99 rfl fit99 (Nat.le_of_ble_eq_true rfl) (by kernel_rfl) prog_mixed ?_
  intro g2 F hg2 hF
  obtain rfl : g2 = g := hg2.unique.trans hg.symm
  clear hg2
  obtain ⟨wrap, lt, le, eq, quo, rem, band, bor, bxor, shl, shr, nat, int, add, sub, mul, cat, seq, slt, sub3, byte, llen, nadd, nsub, dlen, dapp, dset, drep, rd, rda, up, rsub, dsub, all, sle, slen, hasI, putI, hasS, putS, imin, imax, fzc⟩ := g2
  obtain ⟨r_Item, d_Item, r_Chute, d_Chute, r_Inlet, d_Inlet, r_I64, d_I64, r_U8, d_U8, d_InletF⟩ := t
  unfold L_heldChuteS at h
  try dsimp only at h
  cbv
  obtain ⟨o1, ho1, h⟩ := of_lP h
  try dsimp only at h
  try rw [hg] at ho1
  try rw [ht] at ho1
  refine ABL.mk { p : Nat × Int × Int // p.1 ≤ a0.length ∧ p.2.1 = ((p.1 : Nat) : Int) ∧ L_heldChuteS_l1 G.real TE.real (List.drop p.1 a0) p.2.2 = o1 } (fun ⟨⟨k1, v2, v1⟩, _⟩ => ({ sl := [(0, .c (.r (.s 3 (r_Chute a0)))), (1, .c (.r (.v (.int .i64 v1)))), (5, .c (.r (.v (.int .i64 v2))))], tab := [] } : St)) 0 (fun p => a0.length - p.1.1) ⟨(0, 0, a1), Nat.zero_le _, rfl, ho1⟩ (Int) (fun y1 => ({ sl := [(1, .c (.r (.v (.int .i64 y1))))], tab := [] } : St)) 0 (fun y => o1 = LR.out y) ?_ ?_ ?_
  · refine Wk.of [] rfl rfl ?_ ?_
    · cbv
      all_goals exact ⟨⟨_, rfl, rfl⟩, ⟨_, rfl, rfl⟩, ⟨_, rfl, rfl⟩, trivial⟩
    · cbv
      all_goals exact trivial
  · rintro ⟨⟨k1, v2, v1⟩, hk1, hi1, h_1⟩ hq1
    have hm1 := (hq1.1 0 _ _ rfl)
    try dsimp only at hk1 hi1 h_1
    clear hq1
    cbv
    by_cases hc1_ : k1 < a0.length
    · have hb1 : lt v2 (llen (r_Chute a0)) = true := ltL_true_Chute hg ht hi1 hc1_
      have hs1 := stepL_Chute hg ht hi1 hc1_ hm1
      obtain ⟨z1, hz1⟩ := some_of_lt hc1_
      rw [drop_of_some hz1] at h_1
      rw [L_heldChuteS_l1] at h_1
      obtain ⟨z1_Cell, z1_Room, z1_Held⟩ := z1
      try rw [← hg] at h_1
      try rw [← ht] at h_1
      try dsimp only at h_1
      rw [hb1]
      cbv
      refine AStep.mk (nn_L hi1) ?_
      cbv
      refine AGet.mk _ (r_getL_Chute hg ht hi1 hz1) ?_
      cbv
      cases hb2 : (eq z1_Cell v1) with
      | true =>
        rw [br_true hb2] at h_1
        cbv
        refine AStep.mk (nn_L hi1) ?_
        cbv
        refine AGet.mk _ (r_getL_Chute hg ht hi1 hz1) ?_
        cbv
        cases hb3 : (eq z1_Room (wrap .i64 (add v1 1))) with
        | true =>
          rw [br_true hb3] at h_1
          cbv
          refine AStep.mk (nn_L hi1) ?_
          cbv
          refine AGet.mk _ (r_getL_Chute hg ht hi1 hz1) ?_
          cbv
          obtain ⟨x1, hx1, h_1⟩ := of_lP h_1
          try dsimp only at h_1
          refine ACall.mk _ _ rfl (hF _ _ _ (c_L_heldItemS hg ht hx1)) (.inl rfl) (Nat.le_of_ble_eq_true rfl) ?_
          cbv
          cases hb4 : (lt x1 0) with
          | true =>
            rw [br_true hb4] at h_1
            cbv
            subst h_1
            try dsimp only [lr, lrL, lrp, lrpL] at h
            subst h
            exact ARet.mk trivial hX.symm
          | false =>
            rw [br_false hb4] at h_1
            cbv
            try rw [hg] at h_1
            try rw [ht] at h_1
            refine ⟨⟨(k1 + 1, (wrap .i64 (add v2 1)), x1), hc1_, hs1, h_1⟩, Wk.of [] rfl rfl ?_ ?_, meas_L hc1_⟩
            · cbv
              all_goals exact ⟨⟨_, rfl, rfl⟩, ⟨_, rfl, rfl⟩, ⟨_, rfl, rfl⟩, trivial⟩
            · cbv
              all_goals exact trivial
        | false =>
          rw [br_false hb3] at h_1
          cbv
          subst h_1
          try dsimp only [lr, lrL, lrp, lrpL] at h
          subst h
          exact ARet.mk trivial hX.symm
      | false =>
        rw [br_false hb2] at h_1
        cbv
        subst h_1
        try dsimp only [lr, lrL, lrp, lrpL] at h
        subst h
        exact ARet.mk trivial hX.symm
    · have hb1 : lt v2 (llen (r_Chute a0)) = false := ltL_false_Chute hg ht hi1 hc1_
      rw [List.drop_of_length_le (Nat.le_of_not_lt hc1_)] at h_1
      rw [L_heldChuteS_l1] at h_1
      try rw [← hg] at h_1
      try rw [← ht] at h_1
      try dsimp only at h_1
      rw [hb1]
      cbv
      refine ⟨v1, Wk.of [] rfl rfl ?_ ?_, h_1.symm⟩
      · cbv
        all_goals exact ⟨⟨_, rfl, rfl⟩, trivial⟩
      · cbv
        all_goals exact trivial
  · rintro y1 hy1
    replace hy1 := hy1.symm
    subst hy1
    try dsimp only [lr, lrL, lrp, lrpL] at h
    cbv
    subst h
    exact ARet.mk trivial hX.symm
end Go.Vs
namespace Go.Vs
set_option maxRecDepth 100000
def ir100 : J :=
  .seq (.reg none [⟨(some 4), none, .mv (.k (V.i 0))⟩] [0, 1])
  (.seq (.seq (.reg none [⟨(some 5), none, .mv (.k (V.i 0))⟩] [0, 1, 5])
   (.bl 0 (.seq (.seq (.reg none [⟨(some 6), none, .mv (.t 5)⟩,
        ⟨(some 7), none, .mv (.t 0)⟩,
        ⟨(some 8), none, .len false (.t 7)⟩,
        ⟨(some 9), none, .bin .lss .i (.t 6) (.t 8)⟩] [0, 1, 5, 9])
     (.cond (.t 9)
      (.skip)
      (.exit 0)))
    (.seq (.block 1 (.seq (.seq (.reg none [⟨(some 12), none, .mv (.t 0)⟩,
          ⟨(some 13), none, .mv (.t 5)⟩,
          ⟨(some 14), none, .ia 2 (.t 12) (.t 13)⟩,
          ⟨(some 15), none, .fa 0 (.t 14)⟩,
          ⟨(some 16), none, .ld false 1 (.t 15)⟩,
          ⟨(some 17), none, .mv (.t 1)⟩,
          ⟨(some 18), none, .bin .neq .i (.t 16) (.t 17)⟩] [0, 1, 5, 18])
       (.cond (.t 18)
        (.seq (.reg none [⟨(some 4), none, .mv (.k (V.i (-1)))⟩] [4])
         (.ret))
        (.skip)))
      (.seq (.reg none [⟨(some 19), none, .mv (.t 1)⟩,
         ⟨(some 20), none, .bin .add .i (.t 19) (.k (V.i 1))⟩,
         ⟨(some 1), none, .mv (.t 20)⟩] [0, 1, 5])
      (.seq (.reg none [⟨(some 21), none, .mv (.t 0)⟩,
         ⟨(some 22), none, .mv (.t 5)⟩,
         ⟨(some 23), none, .ia 2 (.t 21) (.t 22)⟩,
         ⟨(some 24), none, .fa 1 (.t 23)⟩,
         ⟨(some 25), none, .ld false 1 (.t 24)⟩,
         ⟨(some 26), none, .mv (.t 1)⟩,
         ⟨(some 27), none, .call 66 true [(.t 25), (.t 26)]⟩,
         ⟨(some 1), none, .mv (.t 27)⟩] [0, 1, 5])
      (.seq (.reg none [⟨(some 28), none, .mv (.t 1)⟩,
         ⟨(some 29), none, .bin .lss .i (.t 28) (.k (V.i 0))⟩] [0, 1, 5, 29])
      (.cond (.t 29)
       (.seq (.reg none [⟨(some 4), none, .mv (.k (V.i (-1)))⟩] [4])
        (.ret))
       (.skip)))))))
    (.reg none [⟨(some 10), none, .mv (.t 5)⟩,
      ⟨(some 11), none, .bin .add .i (.t 10) (.k (V.i 1))⟩,
      ⟨(some 5), none, .mv (.t 11)⟩] [0, 1, 5])))))
  (.seq (.reg none [⟨(some 30), none, .mv (.t 1)⟩,
     ⟨(some 4), none, .mv (.t 30)⟩] [4])
  (.ret)))
def rv100 : List RV := [.t 4]
open Go.Proofs Go.IntWalk
set_option linter.unusedVariables false
set_option maxRecDepth 100000
set_option maxHeartbeats 4000000
def L_heldInletS_l1 (g : G) (t : TE) : List Inlet → Int → LR Int Int
  | [], v1 =>
    (LR.out v1)
  | z1 :: ls1, v1 =>
    br (g.eq z1.Cell v1)
    (
     lP (L_heldItemS g t z1.Wait (g.wrap .i64 (g.add v1 1))) fun x1 =>
     br (g.lt x1 0)
     (
      (LR.ret (-1)))
     (
      L_heldInletS_l1 g t ls1 x1))
    (
     (LR.ret (-1)))
def L_heldInletS (g : G) (t : TE) (a0 : List Inlet) (a1 : Int) : Int :=
  lP (L_heldInletS_l1 g t a0 a1) fun o1 => lrp o1 fun y1 =>
  y1
theorem fit100 : codeFit Try.prog Try.f100.ntmps (Try.f100.body.getD .skip) ir100 = true := by kernel_rfl
theorem c_L_heldInletS {g : G} {t : TE} {a0 : List Inlet} {a1 : Int} {r : Int} (hg : g = G.real) (ht : t = TE.real) (h : L_heldInletS g t a0 a1 = r) : Fn Try.prog 100 [.c (.s 2 (t.r_Inlet a0)), .c (.v (.int .i64 a1))] (.c (.r (.v (.int .i64 r)))) := by
  obtain ⟨X, hX⟩ := hide (.c (.r (.v (.int .i64 r))) : X)
  rw [← hX]
  refine fn_of (rvs := rv100) (j := ir100) Try.func100 rfl fit100 (Nat.le_of_ble_eq_true rfl) (by kernel_rfl) prog_mixed ?_
  intro g2 F hg2 hF
  obtain rfl : g2 = g := hg2.unique.trans hg.symm
  clear hg2
  obtain ⟨wrap, lt, le, eq, quo, rem, band, bor, bxor, shl, shr, nat, int, add, sub, mul, cat, seq, slt, sub3, byte, llen, nadd, nsub, dlen, dapp, dset, drep, rd, rda, up, rsub, dsub, all, sle, slen, hasI, putI, hasS, putS, imin, imax, fzc⟩ := g2
  obtain ⟨r_Item, d_Item, r_Chute, d_Chute, r_Inlet, d_Inlet, r_I64, d_I64, r_U8, d_U8, d_InletF⟩ := t
  unfold L_heldInletS at h
  try dsimp only at h
  cbv
  obtain ⟨o1, ho1, h⟩ := of_lP h
  try dsimp only at h
  try rw [hg] at ho1
  try rw [ht] at ho1
  refine ABL.mk { p : Nat × Int × Int // p.1 ≤ a0.length ∧ p.2.1 = ((p.1 : Nat) : Int) ∧ L_heldInletS_l1 G.real TE.real (List.drop p.1 a0) p.2.2 = o1 } (fun ⟨⟨k1, v2, v1⟩, _⟩ => ({ sl := [(0, .c (.r (.s 2 (r_Inlet a0)))), (1, .c (.r (.v (.int .i64 v1)))), (5, .c (.r (.v (.int .i64 v2))))], tab := [] } : St)) 0 (fun p => a0.length - p.1.1) ⟨(0, 0, a1), Nat.zero_le _, rfl, ho1⟩ (Int) (fun y1 => ({ sl := [(1, .c (.r (.v (.int .i64 y1))))], tab := [] } : St)) 0 (fun y => o1 = LR.out y) ?_ ?_ ?_
  · refine Wk.of [] rfl rfl ?_ ?_
    · cbv
      all_goals exact ⟨⟨_, rfl, rfl⟩, ⟨_, rfl, rfl⟩, ⟨_, rfl, rfl⟩, trivial⟩
    · cbv
      all_goals exact trivial
  · rintro ⟨⟨k1, v2, v1⟩, hk1, hi1, h_1⟩ hq1
    have hm1 := (hq1.1 0 _ _ rfl)
    try dsimp only at hk1 hi1 h_1
    clear hq1
    cbv
    by_cases hc1_ : k1 < a0.length
    · have hb1 : lt v2 (llen (r_Inlet a0)) = true := ltL_true_Inlet hg ht hi1 hc1_
      have hs1 := stepL_Inlet hg ht hi1 hc1_ hm1
      obtain ⟨z1, hz1⟩ := some_of_lt hc1_
      rw [drop_of_some hz1] at h_1
      rw [L_heldInletS_l1] at h_1
      obtain ⟨z1_Cell, z1_Wait⟩ := z1
      try rw [← hg] at h_1
      try rw [← ht] at h_1
      try dsimp only at h_1
      rw [hb1]
      cbv
      refine AStep.mk (nn_L hi1) ?_
      cbv
      refine AGet.mk _ (r_getL_Inlet hg ht hi1 hz1) ?_
      cbv
      cases hb2 : (eq z1_Cell v1) with
      | true =>
        rw [br_true hb2] at h_1
        cbv
        refine AStep.mk (nn_L hi1) ?_
        cbv
        refine AGet.mk _ (r_getL_Inlet hg ht hi1 hz1) ?_
        cbv
        obtain ⟨x1, hx1, h_1⟩ := of_lP h_1
        try dsimp only at h_1
        refine ACall.mk _ _ rfl (hF _ _ _ (c_L_heldItemS hg ht hx1)) (.inl rfl) (Nat.le_of_ble_eq_true rfl) ?_
        cbv
        cases hb3 : (lt x1 0) with
        | true =>
          rw [br_true hb3] at h_1
          cbv
          subst h_1
          try dsimp only [lr, lrL, lrp, lrpL] at h
          subst h
          exact ARet.mk trivial hX.symm
        | false =>
          rw [br_false hb3] at h_1
          cbv
          try rw [hg] at h_1
          try rw [ht] at h_1
          refine ⟨⟨(k1 + 1, (wrap .i64 (add v2 1)), x1), hc1_, hs1, h_1⟩, Wk.of [] rfl rfl ?_ ?_, meas_L hc1_⟩
          · cbv
            all_goals exact ⟨⟨_, rfl, rfl⟩, ⟨_, rfl, rfl⟩, ⟨_, rfl, rfl⟩, trivial⟩
          · cbv
            all_goals exact trivial
      | false =>
        rw [br_false hb2] at h_1
        cbv
        subst h_1
        try dsimp only [lr, lrL, lrp, lrpL] at h
        subst h
        exact ARet.mk trivial hX.symm
    · have hb1 : lt v2 (llen (r_Inlet a0)) = false := ltL_false_Inlet hg ht hi1 hc1_
      rw [List.drop_of_length_le (Nat.le_of_not_lt hc1_)] at h_1
      rw [L_heldInletS_l1] at h_1
      try rw [← hg] at h_1
      try rw [← ht] at h_1
      try dsimp only at h_1
      rw [hb1]
      cbv
      refine ⟨v1, Wk.of [] rfl rfl ?_ ?_, h_1.symm⟩
      · cbv
        all_goals exact ⟨⟨_, rfl, rfl⟩, trivial⟩
      · cbv
        all_goals exact trivial
  · rintro y1 hy1
    replace hy1 := hy1.symm
    subst hy1
    try dsimp only [lr, lrL, lrp, lrpL] at h
    cbv
    subst h
    exact ARet.mk trivial hX.symm
end Go.Vs
namespace Go.Vs
set_option maxRecDepth 100000
def ir50 : J :=
  .seq (.reg none [⟨(some 2), none, .box (.t 0)⟩,
     ⟨(some 4), none, .mv (.k (V.i 0))⟩] [1, 2])
  (.seq (.reg none [⟨(some 5), none, .fa 0 (.t 2)⟩,
     ⟨(some 6), none, .ld false 1 (.t 5)⟩,
     ⟨(some 7), none, .mv (.t 1)⟩,
     ⟨(some 8), none, .call 66 true [(.t 6), (.t 7)]⟩,
     ⟨(some 1), none, .mv (.t 8)⟩] [1, 2])
  (.seq (.seq (.reg none [⟨(some 9), none, .mv (.t 1)⟩,
      ⟨(some 10), none, .bin .lss .i (.t 9) (.k (V.i 0))⟩] [1, 2, 10])
   (.cond (.t 10)
    (.seq (.reg none [⟨(some 4), none, .mv (.k (V.i (-1)))⟩] [4])
     (.ret))
    (.skip)))
  (.seq (.reg none [⟨(some 11), none, .fa 1 (.t 2)⟩,
     ⟨(some 12), none, .ld false 1 (.t 11)⟩,
     ⟨(some 13), none, .mv (.t 1)⟩,
     ⟨(some 14), none, .call 99 true [(.t 12), (.t 13)]⟩,
     ⟨(some 1), none, .mv (.t 14)⟩] [1, 2])
  (.seq (.seq (.reg none [⟨(some 15), none, .mv (.t 1)⟩,
      ⟨(some 16), none, .bin .lss .i (.t 15) (.k (V.i 0))⟩] [1, 2, 16])
   (.cond (.t 16)
    (.seq (.reg none [⟨(some 4), none, .mv (.k (V.i (-1)))⟩] [4])
     (.ret))
    (.skip)))
  (.seq (.reg none [⟨(some 17), none, .fa 2 (.t 2)⟩,
     ⟨(some 18), none, .ld false 1 (.t 17)⟩,
     ⟨(some 19), none, .mv (.t 1)⟩,
     ⟨(some 20), none, .call 100 true [(.t 18), (.t 19)]⟩,
     ⟨(some 1), none, .mv (.t 20)⟩] [1, 2])
  (.seq (.seq (.reg none [⟨(some 21), none, .mv (.t 1)⟩,
      ⟨(some 22), none, .bin .lss .i (.t 21) (.k (V.i 0))⟩] [1, 2, 22])
   (.cond (.t 22)
    (.seq (.reg none [⟨(some 4), none, .mv (.k (V.i (-1)))⟩] [4])
     (.ret))
    (.skip)))
  (.seq (.reg none [⟨(some 23), none, .fa 3 (.t 2)⟩,
     ⟨(some 24), none, .ld false 1 (.t 23)⟩,
     ⟨(some 25), none, .mv (.t 1)⟩,
     ⟨(some 26), none, .call 75 true [(.t 24), (.t 25)]⟩,
     ⟨(some 1), none, .mv (.t 26)⟩] [1])
  (.seq (.seq (.reg none [⟨(some 27), none, .mv (.t 1)⟩,
      ⟨(some 28), none, .bin .lss .i (.t 27) (.k (V.i 0))⟩] [1, 28])
   (.cond (.t 28)
    (.seq (.reg none [⟨(some 4), none, .mv (.k (V.i (-1)))⟩] [4])
     (.ret))
    (.skip)))
  (.seq (.reg none [⟨(some 29), none, .mv (.t 1)⟩,
     ⟨(some 4), none, .mv (.t 29)⟩] [4])
  (.ret))))))))))
def rv50 : List RV := [.t 4]
open Go.Proofs Go.IntWalk
set_option linter.unusedVariables false
set_option maxRecDepth 100000
set_option maxHeartbeats 4000000
def L_heldCentre (g : G) (t : TE) (a0 : Centre) (a1 : Int) : Int :=
  lP (L_heldItemS g t a0.Belt a1) fun x1 =>
  br (g.lt x1 0)
  (
   (-1))
  (
   lP (L_heldChuteS g t a0.Chutes x1) fun x2 =>
   br (g.lt x2 0)
   (
    (-1))
   (
    lP (L_heldInletS g t a0.Inlets x2) fun x3 =>
    br (g.lt x3 0)
    (
     (-1))
    (
     lP (L_heldIntS g t a0.Plan x3) fun x4 =>
     br (g.lt x4 0)
     (
      (-1))
     (
      x4))))
theorem fit50 : codeFit Try.prog Try.f50.ntmps (Try.f50.body.getD .skip) ir50 = true := by kernel_rfl
theorem c_L_heldCentre {g : G} {t : TE} {a0 : Centre} {a1 : Int} {r : Int} (hg : g = G.real) (ht : t = TE.real) (h : L_heldCentre g t a0 a1 = r) : Fn Try.prog 50 [.g (Centre.rs t a0), .c (.v (.int .i64 a1))] (.c (.r (.v (.int .i64 r)))) := by
  obtain ⟨X, hX⟩ := hide (.c (.r (.v (.int .i64 r))) : X)
  rw [← hX]
  refine fn_of (rvs := rv50) (j := ir50) Try.func50 rfl fit50 (Nat.le_of_ble_eq_true rfl) (by kernel_rfl) prog_mixed ?_
  intro g2 F hg2 hF
  obtain rfl : g2 = g := hg2.unique.trans hg.symm
  clear hg2
  obtain ⟨wrap, lt, le, eq, quo, rem, band, bor, bxor, shl, shr, nat, int, add, sub, mul, cat, seq, slt, sub3, byte, llen, nadd, nsub, dlen, dapp, dset, drep, rd, rda, up, rsub, dsub, all, sle, slen, hasI, putI, hasS, putS, imin, imax, fzc⟩ := g2
  obtain ⟨r_Item, d_Item, r_Chute, d_Chute, r_Inlet, d_Inlet, r_I64, d_I64, r_U8, d_U8, d_InletF⟩ := t
  obtain ⟨a0_Belt, a0_Chutes, a0_Inlets, a0_Plan, a0_Now⟩ := a0
  unfold L_heldCentre at h
  try dsimp only at h
  cbv
  obtain ⟨x1, hx1, h⟩ := of_lP h
  try dsimp only at h
  refine ACall.mk _ _ rfl (hF _ _ _ (c_L_heldItemS hg ht hx1)) (.inl rfl) (Nat.le_of_ble_eq_true rfl) ?_
  cbv
  cases hb1 : (lt x1 0) with
  | true =>
    rw [br_true hb1] at h
    cbv
    subst h
    exact ARet.mk trivial hX.symm
  | false =>
    rw [br_false hb1] at h
    cbv
    obtain ⟨x2, hx2, h⟩ := of_lP h
    try dsimp only at h
    refine ACall.mk _ _ rfl (hF _ _ _ (c_L_heldChuteS hg ht hx2)) (.inl rfl) (Nat.le_of_ble_eq_true rfl) ?_
    cbv
    cases hb2 : (lt x2 0) with
    | true =>
      rw [br_true hb2] at h
      cbv
      subst h
      exact ARet.mk trivial hX.symm
    | false =>
      rw [br_false hb2] at h
      cbv
      obtain ⟨x3, hx3, h⟩ := of_lP h
      try dsimp only at h
      refine ACall.mk _ _ rfl (hF _ _ _ (c_L_heldInletS hg ht hx3)) (.inl rfl) (Nat.le_of_ble_eq_true rfl) ?_
      cbv
      cases hb3 : (lt x3 0) with
      | true =>
        rw [br_true hb3] at h
        cbv
        subst h
        exact ARet.mk trivial hX.symm
      | false =>
        rw [br_false hb3] at h
        cbv
        obtain ⟨x4, hx4, h⟩ := of_lP h
        try dsimp only at h
        refine ACall.mk _ _ rfl (hF _ _ _ (c_L_heldIntS hg ht hx4)) (.inl rfl) (Nat.le_of_ble_eq_true rfl) ?_
        cbv
        cases hb4 : (lt x4 0) with
        | true =>
          rw [br_true hb4] at h
          cbv
          subst h
          exact ARet.mk trivial hX.symm
        | false =>
          rw [br_false hb4] at h
          cbv
          subst h
          exact ARet.mk trivial hX.symm
end Go.Vs
