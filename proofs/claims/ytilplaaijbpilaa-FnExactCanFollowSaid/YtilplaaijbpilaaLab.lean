/- Part of the proofs of this seat's laws: Lab. No condition. -/
import Derived.Test.YtilplaaijbpilaaTy
import Derived.Test.YtilplaaijbpilaaTIRall
import Derived.Test.YtilplaaijbpilaaLaa
set_option linter.unusedVariables false
set_option linter.unusedSimpArgs false
set_option linter.unusedSectionVars false
namespace Go.Vs
set_option maxRecDepth 100000
def ir85 : J :=
  .seq (.reg none [⟨(some 4), none, .mv (.k (V.i 0))⟩] [0, 1])
  (.seq (.seq (.reg none [⟨(some 5), none, .mv (.t 1)⟩,
      ⟨(some 6), none, .mv (.t 0)⟩,
      ⟨(some 7), none, .bin .gtr .i (.t 5) (.t 6)⟩] [0, 1, 7])
   (.cond (.t 7)
    (.seq (.reg none [⟨(some 8), none, .mv (.t 1)⟩,
        ⟨(some 4), none, .mv (.t 8)⟩] [4])
     (.ret))
    (.skip)))
  (.seq (.reg none [⟨(some 9), none, .mv (.t 0)⟩,
     ⟨(some 4), none, .mv (.t 9)⟩] [4])
  (.ret)))
def rv85 : List RV := [.t 4]
open Go.Proofs Go.IntWalk
set_option linter.unusedVariables false
set_option maxRecDepth 100000
set_option maxHeartbeats 4000000
def S_Max (g : G) (t : TE) (a0 : Int) (a1 : Int) : Int :=
  br (g.lt a0 a1)
  (
   a1)
  (
   a0)
theorem fit85 : codeFit Try.prog Try.f85.ntmps (Try.f85.body.getD .skip) ir85 = true := by kernel_rfl
theorem c_S_Max {g : G} {t : TE} {a0 : Int} {a1 : Int} {r : Int} (hg : g = G.real) (ht : t = TE.real) (h : S_Max g t a0 a1 = r) : Fn Try.prog 85 [.c (.v (.int .i64 a0)), .c (.v (.int .i64 a1))] (.c (.r (.v (.int .i64 r)))) := by
  obtain ⟨X, hX⟩ := hide (.c (.r (.v (.int .i64 r))) : X)
  rw [← hX]
  refine fn_of (rvs := rv85) (j := ir85) Try.func85 rfl fit85 (Nat.le_of_ble_eq_true rfl) (by kernel_rfl) prog_mixed ?_
  intro g2 F hg2 hF
  obtain rfl : g2 = g := hg2.unique.trans hg.symm
  clear hg2
  obtain ⟨wrap, lt, le, eq, quo, rem, band, bor, bxor, shl, shr, nat, int, add, sub, mul, cat, seq, slt, sub3, byte, llen, nadd, nsub, dlen, dapp, dset, drep, rd, rda, up, rsub, dsub, all, sle, slen, hasI, putI, hasS, putS, imin, imax, fzc, bstr⟩ := g2
  obtain ⟨r_Leg, d_Leg, r_I64, d_I64, r_Booking, d_Booking, r_Trip, d_Trip, r_S, d_S, r_LI64, d_LI64, r_U8, d_U8, r_Fd⟩ := t
  unfold S_Max at h
  try dsimp only at h
  cbv
  cases hb1 : (lt a0 a1) with
  | true =>
    rw [br_true hb1] at h
    cbv
    subst h
    exact ARet.mk trivial hX.symm
  | false =>
    rw [br_false hb1] at h
    cbv
    subst h
    exact ARet.mk trivial hX.symm
end Go.Vs
namespace Go.Vs
set_option maxRecDepth 100000
def ir49 : J :=
  .seq (.reg none [⟨(some 6), none, .mv (.k (.c (.n 1)))⟩] [0, 1, 2])
  (.seq (.reg none [⟨(some 9), none, .bsl 1 []⟩,
     ⟨(some 7), none, .mv (.t 9)⟩] [0, 1, 2, 7])
  (.seq (.seq (.reg none [⟨(some 8), none, .mv (.k (V.i 0))⟩] [0, 1, 2, 7, 8])
   (.bl 0 (.seq (.seq (.reg none [⟨(some 10), none, .mv (.t 8)⟩,
        ⟨(some 11), none, .mv (.t 0)⟩,
        ⟨(some 12), none, .len false (.t 11)⟩,
        ⟨(some 13), none, .bin .lss .i (.t 10) (.t 12)⟩] [0, 1, 2, 7, 8, 13])
     (.cond (.t 13)
      (.skip)
      (.exit 0)))
    (.seq (.block 1 (.seq (.reg none [⟨(some 16), none, .mv (.t 8)⟩,
         ⟨(some 17), none, .mv (.t 1)⟩,
         ⟨(some 18), none, .bin .eql .i (.t 16) (.t 17)⟩] [0, 1, 2, 7, 8, 18])
      (.cond (.t 18)
       (.reg none [⟨(some 19), none, .mv (.t 7)⟩,
          ⟨(some 20), none, .mv (.t 2)⟩,
          ⟨(some 21), none, .call 85 true [(.t 20), (.k (V.i 0))]⟩,
          ⟨(some 22), none, .bsl 1 [(.t 21)]⟩,
          ⟨(some 23), none, .app 1 8 true (.t 19) (.t 22)⟩,
          ⟨(some 7), none, .mv (.t 23)⟩] [0, 1, 2, 7, 8])
       (.reg none [⟨(some 24), none, .mv (.t 7)⟩,
          ⟨(some 25), none, .bsl 1 [(.k (V.i (-1)))]⟩,
          ⟨(some 26), none, .app 1 8 true (.t 24) (.t 25)⟩,
          ⟨(some 7), none, .mv (.t 26)⟩] [0, 1, 2, 7, 8]))))
    (.reg none [⟨(some 14), none, .mv (.t 8)⟩,
      ⟨(some 15), none, .bin .add .i (.t 14) (.k (V.i 1))⟩,
      ⟨(some 8), none, .mv (.t 15)⟩] [0, 1, 2, 7, 8])))))
  (.seq (.reg none [⟨(some 27), none, .mv (.t 7)⟩,
     ⟨(some 6), none, .mv (.t 27)⟩] [6])
  (.ret))))
def rv49 : List RV := [.t 6]
open Go.Proofs Go.IntWalk
set_option linter.unusedVariables false
set_option maxRecDepth 100000
set_option maxHeartbeats 4000000
def S_l4First_l1 (g : G) (t : TE) (a1 : Int) (a2 : Int) : List ByteArray → Int → List Int → Option (List Int)
  | [], v1, w1 =>
    some w1
  | z1 :: ls1, v1, w1 =>
    br (g.eq v1 a1)
    (
     lP (S_Max g t a2 0) fun x1 =>
     lP ([x1]) fun (l2 : List Int) =>
     gd (((w1.length + l2.length) * 8 ≤ 70368744177664)) <|
     lP (w1 ++ l2) fun (l3 : List Int) =>
     S_l4First_l1 g t a1 a2 ls1 (g.wrap .i64 (g.add v1 1)) l3)
    (
     lP ([(-1)]) fun (l4 : List Int) =>
     gd (((w1.length + l4.length) * 8 ≤ 70368744177664)) <|
     lP (w1 ++ l4) fun (l5 : List Int) =>
     S_l4First_l1 g t a1 a2 ls1 (g.wrap .i64 (g.add v1 1)) l5)
def S_l4First (g : G) (t : TE) (a0 : List ByteArray) (a1 : Int) (a2 : Int) : Option (List Int) :=
  lP ([]) fun (l1 : List Int) =>
  cl (S_l4First_l1 g t a1 a2 a0 0 l1) fun y1 =>
  some y1
theorem fit49 : codeFit Try.prog Try.f49.ntmps (Try.f49.body.getD .skip) ir49 = true := by kernel_rfl
theorem c_S_l4First {g : G} {t : TE} {a0 : List ByteArray} {a1 : Int} {a2 : Int} {r : List Int} (hg : g = G.real) (ht : t = TE.real) (h : S_l4First g t a0 a1 a2 = some r) : Fn Try.prog 49 [.c (.s 1 (t.r_S a0)), .c (.v (.int .i64 a1)), .c (.v (.int .i64 a2))] (.c (.o 1 (t.d_I64 r))) := by
  obtain ⟨X, hX⟩ := hide (.c (.o 1 (t.d_I64 r)) : X)
  rw [← hX]
  refine fn_of (rvs := rv49) (j := ir49) Try.func49 rfl fit49 (Nat.le_of_ble_eq_true rfl) (by kernel_rfl) prog_mixed ?_
  intro g2 F hg2 hF
  obtain rfl : g2 = g := hg2.unique.trans hg.symm
  clear hg2
  obtain ⟨wrap, lt, le, eq, quo, rem, band, bor, bxor, shl, shr, nat, int, add, sub, mul, cat, seq, slt, sub3, byte, llen, nadd, nsub, dlen, dapp, dset, drep, rd, rda, up, rsub, dsub, all, sle, slen, hasI, putI, hasS, putS, imin, imax, fzc, bstr⟩ := g2
  obtain ⟨r_Leg, d_Leg, r_I64, d_I64, r_Booking, d_Booking, r_Trip, d_Trip, r_S, d_S, r_LI64, d_LI64, r_U8, d_U8, r_Fd⟩ := t
  unfold S_l4First at h
  try dsimp only at h
  cbv
  obtain ⟨l1, hl1, h⟩ := of_lP h
  try dsimp only at h
  refine ANew.mk (d_I64 l1) (dlen (d_I64 l1)) (by rw [← hl1]; exact lit_I64 hg ht []) (by rw [← hl1]; exact litn_I64 hg ht []) ?_
  cbv
  obtain ⟨o1, ho1, h⟩ := of_cl h
  try dsimp only at h
  try rw [hg] at ho1
  try rw [ht] at ho1
  refine ABL.mk { p : Nat × Int × List Int // p.1 ≤ a0.length ∧ p.2.1 = ((p.1 : Nat) : Int) ∧ S_l4First_l1 G.real TE.real a1 a2 (List.drop p.1 a0) p.2.1 p.2.2 = some o1 } (fun ⟨⟨k1, v1, w1⟩, _⟩ => ({ sl := [(0, .c (.r (.s 1 (r_S a0)))), (1, .c (.r (.v (.int .i64 a1)))), (2, .c (.r (.v (.int .i64 a2)))), (7, .c (.f 0 1 0 (dlen (d_I64 w1)))), (8, .c (.r (.v (.int .i64 v1))))], tab := [(0, some (.arr 1 (d_I64 w1)))] } : St)) 1 (fun p => a0.length - p.1.1) ⟨(0, 0, l1), Nat.zero_le _, rfl, ho1⟩ (List Int) (fun y1 => ({ sl := [(7, .c (.f 0 1 0 (dlen (d_I64 y1))))], tab := [(0, some (.arr 1 (d_I64 y1)))] } : St)) 1 (fun y => o1 = y) ?_ ?_ ?_
  · refine Wk.of [(0, some 16)] rfl rfl ?_ ?_
    · cbv
      all_goals exact ⟨⟨_, rfl, rfl⟩, ⟨_, rfl, rfl⟩, ⟨_, rfl, rfl⟩, ⟨_, rfl, rfl⟩, ⟨_, rfl, rfl⟩, trivial⟩
    · cbv
      all_goals exact ⟨⟨_, rfl, rfl⟩, trivial⟩
  · rintro ⟨⟨k1, v1, w1⟩, hk1, hi1, h_1⟩ hq1
    have hm1 := (hq1.1 0 _ _ rfl)
    try dsimp only at hk1 hi1 h_1
    clear hq1
    cbv
    by_cases hc1_ : k1 < a0.length
    · have hb1 : lt v1 (llen (r_S a0)) = true := ltL_true_S hg ht hi1 hc1_
      have hs1 := stepL_S hg ht hi1 hc1_ hm1
      obtain ⟨z1, hz1⟩ := some_of_lt hc1_
      rw [drop_of_some hz1] at h_1
      rw [S_l4First_l1] at h_1
      try rw [← hg] at h_1
      try rw [← ht] at h_1
      try dsimp only at h_1
      rw [hb1]
      cbv
      cases hb2 : (eq v1 a1) with
      | true =>
        rw [br_true hb2] at h_1
        cbv
        obtain ⟨x1, hx1, h_1⟩ := of_lP h_1
        try dsimp only at h_1
        refine ACall.mk _ _ rfl (hF _ _ _ (c_S_Max hg ht hx1)) (.inl rfl) (Nat.le_of_ble_eq_true rfl) ?_
        cbv
        obtain ⟨l2, hl2, h_1⟩ := of_lP h_1
        try dsimp only at h_1
        refine ANew.mk (d_I64 l2) (dlen (d_I64 l2)) (by rw [← hl2]; exact lit_I64 hg ht [x1]) (by rw [← hl2]; exact litn_I64 hg ht [x1]) ?_
        cbv
        obtain ⟨hc1, h_1⟩ := of_gd h_1
        refine AStep.mk ⟨⟨rfl, (dlen_I64 hg ht _)⟩, (app_ok_I64 hg ht (dlen_I64 hg ht _) rfl hc1)⟩ ?_
        cbv
        obtain ⟨l3, hl3, h_1⟩ := of_lP h_1
        try dsimp only at h_1
        refine ANew.mk (d_I64 l3) (dlen (d_I64 l3)) (by rw [← hl3]; exact app_I64 hg ht (dlen_I64 hg ht _) rfl) (by rw [← hl3]; exact appl_I64 hg ht (dlen_I64 hg ht _) rfl) ?_
        cbv
        try rw [hg] at h_1
        try rw [ht] at h_1
        refine ⟨⟨(k1 + 1, (wrap .i64 (add v1 1)), l3), hc1_, hs1, h_1⟩, Wk.of [(0, some 177)] rfl rfl ?_ ?_, meas_L hc1_⟩
        · cbv
          all_goals exact ⟨⟨_, rfl, rfl⟩, ⟨_, rfl, rfl⟩, ⟨_, rfl, rfl⟩, ⟨_, rfl, rfl⟩, ⟨_, rfl, rfl⟩, trivial⟩
        · cbv
          all_goals exact ⟨⟨_, rfl, rfl⟩, trivial⟩
      | false =>
        rw [br_false hb2] at h_1
        cbv
        obtain ⟨l4, hl4, h_1⟩ := of_lP h_1
        try dsimp only at h_1
        refine ANew.mk (d_I64 l4) (dlen (d_I64 l4)) (by rw [← hl4]; exact lit_I64 hg ht [(-1)]) (by rw [← hl4]; exact litn_I64 hg ht [(-1)]) ?_
        cbv
        obtain ⟨hc2, h_1⟩ := of_gd h_1
        refine AStep.mk ⟨⟨rfl, (dlen_I64 hg ht _)⟩, (app_ok_I64 hg ht (dlen_I64 hg ht _) rfl hc2)⟩ ?_
        cbv
        obtain ⟨l5, hl5, h_1⟩ := of_lP h_1
        try dsimp only at h_1
        refine ANew.mk (d_I64 l5) (dlen (d_I64 l5)) (by rw [← hl5]; exact app_I64 hg ht (dlen_I64 hg ht _) rfl) (by rw [← hl5]; exact appl_I64 hg ht (dlen_I64 hg ht _) rfl) ?_
        cbv
        try rw [hg] at h_1
        try rw [ht] at h_1
        refine ⟨⟨(k1 + 1, (wrap .i64 (add v1 1)), l5), hc1_, hs1, h_1⟩, Wk.of [(0, some 145)] rfl rfl ?_ ?_, meas_L hc1_⟩
        · cbv
          all_goals exact ⟨⟨_, rfl, rfl⟩, ⟨_, rfl, rfl⟩, ⟨_, rfl, rfl⟩, ⟨_, rfl, rfl⟩, ⟨_, rfl, rfl⟩, trivial⟩
        · cbv
          all_goals exact ⟨⟨_, rfl, rfl⟩, trivial⟩
    · have hb1 : lt v1 (llen (r_S a0)) = false := ltL_false_S hg ht hi1 hc1_
      rw [List.drop_of_length_le (Nat.le_of_not_lt hc1_)] at h_1
      rw [S_l4First_l1] at h_1
      try rw [← hg] at h_1
      try rw [← ht] at h_1
      try dsimp only at h_1
      rw [hb1]
      cbv
      refine ⟨w1, Wk.of [(0, some 0)] rfl rfl ?_ ?_, (Option.some.inj h_1).symm⟩
      · cbv
        all_goals exact ⟨⟨_, rfl, rfl⟩, trivial⟩
      · cbv
        all_goals exact ⟨⟨_, rfl, rfl⟩, trivial⟩
  · rintro y1 hy1
    replace hy1 := hy1.symm
    subst hy1
    try dsimp only [lr, lrL, lrp, lrpL] at h
    cbv
    obtain rfl := Option.some.inj h
    exact ARet.mk ⟨rfl, (dlen_I64 hg ht _)⟩ hX.symm
end Go.Vs
namespace Go.Vs
set_option maxRecDepth 100000
def ir86 : J :=
  .seq (.reg none [⟨(some 2), none, .mv (.k (.c (.n 1)))⟩] [0])
  (.seq (.reg none [⟨(some 3), none, .bsl 1 []⟩,
     ⟨(some 4), none, .mv (.t 0)⟩,
     ⟨(some 5), none, .app 1 8 false (.t 3) (.t 4)⟩,
     ⟨(some 2), none, .mv (.t 5)⟩] [2])
  (.ret))
def rv86 : List RV := [.t 2]
open Go.Proofs Go.IntWalk
set_option linter.unusedVariables false
set_option maxRecDepth 100000
set_option maxHeartbeats 4000000
def S_l1Ints (g : G) (t : TE) (a0 : List Int) : Option (List Int) :=
  lP ([]) fun (l1 : List Int) =>
  gd (((l1.length + a0.length) * 8 ≤ 70368744177664)) <|
  lP (l1 ++ a0) fun (l2 : List Int) =>
  some l2
theorem fit86 : codeFit Try.prog Try.f86.ntmps (Try.f86.body.getD .skip) ir86 = true := by kernel_rfl
theorem c_S_l1Ints {g : G} {t : TE} {a0 : List Int} {r : List Int} (hg : g = G.real) (ht : t = TE.real) (h : S_l1Ints g t a0 = some r) : Fn Try.prog 86 [.c (.s 1 (t.r_I64 a0))] (.c (.o 1 (t.d_I64 r))) := by
  obtain ⟨X, hX⟩ := hide (.c (.o 1 (t.d_I64 r)) : X)
  rw [← hX]
  refine fn_of (rvs := rv86) (j := ir86) Try.func86 rfl fit86 (Nat.le_of_ble_eq_true rfl) (by kernel_rfl) prog_mixed ?_
  intro g2 F hg2 hF
  obtain rfl : g2 = g := hg2.unique.trans hg.symm
  clear hg2
  obtain ⟨wrap, lt, le, eq, quo, rem, band, bor, bxor, shl, shr, nat, int, add, sub, mul, cat, seq, slt, sub3, byte, llen, nadd, nsub, dlen, dapp, dset, drep, rd, rda, up, rsub, dsub, all, sle, slen, hasI, putI, hasS, putS, imin, imax, fzc, bstr⟩ := g2
  obtain ⟨r_Leg, d_Leg, r_I64, d_I64, r_Booking, d_Booking, r_Trip, d_Trip, r_S, d_S, r_LI64, d_LI64, r_U8, d_U8, r_Fd⟩ := t
  unfold S_l1Ints at h
  try dsimp only at h
  cbv
  obtain ⟨l1, hl1, h⟩ := of_lP h
  try dsimp only at h
  refine ANew.mk (d_I64 l1) (dlen (d_I64 l1)) (by rw [← hl1]; exact lit_I64 hg ht []) (by rw [← hl1]; exact litn_I64 hg ht []) ?_
  cbv
  obtain ⟨hc1, h⟩ := of_gd h
  refine AStep.mk (app_ok_I64 hg ht (dlen_I64 hg ht _) (up_I64 hg ht _) hc1) ?_
  cbv
  obtain ⟨l2, hl2, h⟩ := of_lP h
  try dsimp only at h
  refine ANew.mk (d_I64 l2) (dlen (d_I64 l2)) (by rw [← hl2]; exact app_I64 hg ht (dlen_I64 hg ht _) (up_I64 hg ht _)) (by rw [← hl2]; exact appl_I64 hg ht (dlen_I64 hg ht _) (up_I64 hg ht _)) ?_
  cbv
  obtain rfl := Option.some.inj h
  exact ARet.mk ⟨rfl, (dlen_I64 hg ht _)⟩ hX.symm
end Go.Vs
namespace Go.Vs
set_option maxRecDepth 100000
def ir88 : J :=
  .seq (.reg none [⟨(some 3), none, .box (.t 0)⟩,
     ⟨(some 6), none, .mv (.k (V.i 0))⟩] [1, 2, 3])
  (.seq (.seq (.reg none [⟨(some 7), none, .mv (.t 2)⟩] [1, 3, 7])
   (.cond (.t 7)
    (.seq (.reg none [⟨(some 8), none, .mv (.t 1)⟩,
        ⟨(some 6), none, .mv (.t 8)⟩] [6])
     (.ret))
    (.skip)))
  (.seq (.reg none [⟨(some 9), none, .mv (.t 1)⟩,
     ⟨(some 10), none, .fa 2 (.t 3)⟩,
     ⟨(some 11), none, .ld false 1 (.t 10)⟩,
     ⟨(some 12), none, .bin .add .i (.t 9) (.t 11)⟩,
     ⟨(some 6), none, .mv (.t 12)⟩] [6])
  (.ret)))
def rv88 : List RV := [.t 6]
open Go.Proofs Go.IntWalk
set_option linter.unusedVariables false
set_option maxRecDepth 100000
set_option maxHeartbeats 4000000
def S_l4Ready (g : G) (t : TE) (a0 : Network) (a1 : Int) (a2 : Bool) : Int :=
  br a2
  (
   a1)
  (
   (g.wrap .i64 (g.add a1 a0.Change)))
theorem fit88 : codeFit Try.prog Try.f88.ntmps (Try.f88.body.getD .skip) ir88 = true := by kernel_rfl
theorem c_S_l4Ready {g : G} {t : TE} {a0 : Network} {a1 : Int} {a2 : Bool} {r : Int} (hg : g = G.real) (ht : t = TE.real) (h : S_l4Ready g t a0 a1 a2 = r) : Fn Try.prog 88 [.g (Network.rs t a0), .c (.v (.int .i64 a1)), .c (.v (.bool a2))] (.c (.r (.v (.int .i64 r)))) := by
  obtain ⟨X, hX⟩ := hide (.c (.r (.v (.int .i64 r))) : X)
  rw [← hX]
  refine fn_of (rvs := rv88) (j := ir88) Try.func88 rfl fit88 (Nat.le_of_ble_eq_true rfl) (by kernel_rfl) prog_mixed ?_
  intro g2 F hg2 hF
  obtain rfl : g2 = g := hg2.unique.trans hg.symm
  clear hg2
  obtain ⟨wrap, lt, le, eq, quo, rem, band, bor, bxor, shl, shr, nat, int, add, sub, mul, cat, seq, slt, sub3, byte, llen, nadd, nsub, dlen, dapp, dset, drep, rd, rda, up, rsub, dsub, all, sle, slen, hasI, putI, hasS, putS, imin, imax, fzc, bstr⟩ := g2
  obtain ⟨r_Leg, d_Leg, r_I64, d_I64, r_Booking, d_Booking, r_Trip, d_Trip, r_S, d_S, r_LI64, d_LI64, r_U8, d_U8, r_Fd⟩ := t
  obtain ⟨a0_Legs, a0_Off, a0_Change⟩ := a0
  unfold S_l4Ready at h
  try dsimp only at h
  cbv
  cases hb1 : a2 with
  | true =>
    rw [br_true hb1] at h
    cbv
    subst h
    exact ARet.mk trivial hX.symm
  | false =>
    rw [br_false hb1] at h
    cbv
    subst h
    exact ARet.mk trivial hX.symm
end Go.Vs
namespace Go.Vs
set_option maxRecDepth 100000
def ir113 : J :=
  .seq (.reg none [⟨(some 3), none, .box (.t 0)⟩,
     ⟨(some 6), none, .mv (.k (V.i 0))⟩] [1, 2, 3])
  (.seq (.seq (.reg none [⟨(some 7), none, .mv (.k (V.i 0))⟩] [1, 2, 3, 7])
   (.bl 0 (.seq (.seq (.reg none [⟨(some 8), none, .mv (.t 7)⟩,
        ⟨(some 9), none, .bin .leq .i (.t 8) (.k (V.i 60))⟩] [1, 2, 3, 7, 9])
     (.cond (.t 9)
      (.skip)
      (.exit 0)))
    (.seq (.block 1 (.seq (.reg none [⟨(some 12), none, .ld true 3 (.t 3)⟩,
         ⟨(some 13), none, .mv (.t 1)⟩,
         ⟨(some 14), none, .mv (.t 7)⟩,
         ⟨(some 15), none, .call 82 true [(.t 12), (.t 13), (.t 14)]⟩,
         ⟨(some 16), none, .mv (.t 15)⟩,
         ⟨(some 17), (some (16, true)), .ld true 3 (.t 3)⟩,
         ⟨(some 18), (some (16, true)), .mv (.t 1)⟩,
         ⟨(some 19), (some (16, true)), .mv (.t 7)⟩,
         ⟨(some 20), (some (16, true)), .bld [.r (.v (.int .i64 0)), .r (.v (.int .i64 0))] [(0, 1, (.t 18)), (1, 1, (.t 19))]⟩,
         ⟨(some 21), (some (16, true)), .call 64 true [(.t 17), (.t 20)]⟩,
         ⟨(some 22), (some (16, true)), .mv (.t 2)⟩,
         ⟨(some 23), (some (16, true)), .bin .geq .i (.t 21) (.t 22)⟩,
         ⟨(some 24), none, .pick (.t 16) (.t 23) (.k (V.b false))⟩] [1, 2, 3, 7, 24])
      (.cond (.t 24)
       (.seq (.reg none [⟨(some 25), none, .mv (.t 7)⟩,
           ⟨(some 6), none, .mv (.t 25)⟩] [6])
        (.ret))
       (.skip))))
    (.reg none [⟨(some 10), none, .mv (.t 7)⟩,
      ⟨(some 11), none, .bin .add .i (.t 10) (.k (V.i 1))⟩,
      ⟨(some 7), none, .mv (.t 11)⟩] [1, 2, 3, 7])))))
  (.seq (.reg none [⟨(some 6), none, .mv (.k (V.i (-1)))⟩] [6])
  (.ret)))
def rv113 : List RV := [.t 6]
open Go.Proofs Go.IntWalk
set_option linter.unusedVariables false
set_option maxRecDepth 100000
set_option maxHeartbeats 4000000
def S_l3Next_l1 (g : G) (t : TE) (a0 : Network) (a1 : Int) (a2 : Int) : Nat → Int → Option (LR Int Unit)
  | 0, v1 =>
    some (LR.out ())
  | n1 + 1, v1 =>
    cl (S_l3Runs g t a0 a1 v1) fun x1 =>
    br x1
    (
     cl (S_l3Starts g t a0 (Trip.mk a1 v1)) fun x2 =>
     br (g.le a2 x2)
     (
      some (LR.ret v1))
     (
      S_l3Next_l1 g t a0 a1 a2 n1 (g.wrap .i64 (g.add v1 1))))
    (
     S_l3Next_l1 g t a0 a1 a2 n1 (g.wrap .i64 (g.add v1 1)))
def S_l3Next (g : G) (t : TE) (a0 : Network) (a1 : Int) (a2 : Int) : Option Int :=
  cl (S_l3Next_l1 g t a0 a1 a2 (cntLe 0 60) 0) fun o1 => lr o1 fun y1 =>
  some (-1)
theorem fit113 : codeFit Try.prog Try.f113.ntmps (Try.f113.body.getD .skip) ir113 = true := by kernel_rfl
theorem c_S_l3Next {g : G} {t : TE} {a0 : Network} {a1 : Int} {a2 : Int} {r : Int} (hg : g = G.real) (ht : t = TE.real) (h : S_l3Next g t a0 a1 a2 = some r) : Fn Try.prog 113 [.g (Network.rs t a0), .c (.v (.int .i64 a1)), .c (.v (.int .i64 a2))] (.c (.r (.v (.int .i64 r)))) := by
  obtain ⟨X, hX⟩ := hide (.c (.r (.v (.int .i64 r))) : X)
  rw [← hX]
  refine fn_of (rvs := rv113) (j := ir113) Try.func113 rfl fit113 (Nat.le_of_ble_eq_true rfl) (by kernel_rfl) prog_mixed ?_
  intro g2 F hg2 hF
  obtain rfl : g2 = g := hg2.unique.trans hg.symm
  clear hg2
  obtain ⟨wrap, lt, le, eq, quo, rem, band, bor, bxor, shl, shr, nat, int, add, sub, mul, cat, seq, slt, sub3, byte, llen, nadd, nsub, dlen, dapp, dset, drep, rd, rda, up, rsub, dsub, all, sle, slen, hasI, putI, hasS, putS, imin, imax, fzc, bstr⟩ := g2
  obtain ⟨r_Leg, d_Leg, r_I64, d_I64, r_Booking, d_Booking, r_Trip, d_Trip, r_S, d_S, r_LI64, d_LI64, r_U8, d_U8, r_Fd⟩ := t
  obtain ⟨a0_Legs, a0_Off, a0_Change⟩ := a0
  unfold S_l3Next at h
  try dsimp only at h
  cbv
  obtain ⟨o1, ho1, h⟩ := of_cl h
  try dsimp only at h
  try rw [hg] at ho1
  try rw [ht] at ho1
  refine ABL.mk { p : Nat × Int // p.1 = cntLe p.2 60 ∧ 0 ≤ p.2 ∧ S_l3Next_l1 G.real TE.real (Network.mk a0_Legs a0_Off a0_Change) a1 a2 p.1 p.2 = some o1 } (fun ⟨⟨n1, v1⟩, _⟩ => ({ sl := [(1, .c (.r (.v (.int .i64 a1)))), (2, .c (.r (.v (.int .i64 a2)))), (3, .c (.p 0 3 0 0)), (7, .c (.r (.v (.int .i64 v1))))], tab := [(0, some (.foc 3 [] [.r (.s 6 (r_Leg a0_Legs)), .r (.s 1 (r_I64 a0_Off)), .r (.v (.int .i64 a0_Change))] []))] } : St)) 1 (fun p => p.1.1) ⟨(cntLe 0 60, 0), rfl, Int.le_refl _, ho1⟩ (Unit) (fun _ => ({ sl := [], tab := [] } : St)) 0 (fun y => o1 = LR.out y) ?_ ?_ ?_
  · refine Wk.of [(0, some 0)] rfl rfl ?_ ?_
    · cbv
      all_goals exact ⟨⟨_, rfl, rfl⟩, ⟨_, rfl, rfl⟩, ⟨_, rfl, rfl⟩, ⟨_, rfl, rfl⟩, trivial⟩
    · cbv
      all_goals exact ⟨⟨_, rfl, _, rfl, rfl, rfl, rfl, trivial⟩, trivial⟩
  · rintro ⟨⟨n1, v1⟩, hn1, hi1, h_1⟩ hq1
    try dsimp only at hn1 hi1 h_1
    clear hq1
    cbv
    rcases n1 with _ | n1
    · have hb1 : le v1 60 = false := leC_false hg hn1
      rw [S_l3Next_l1] at h_1
      try rw [← hg] at h_1
      try rw [← ht] at h_1
      try dsimp only at h_1
      rw [hb1]
      cbv
      refine ⟨(), Wk.of [] rfl rfl ?_ ?_, (Option.some.inj h_1).symm⟩
      · cbv
        all_goals exact trivial
      · cbv
        all_goals exact trivial
    · have hb1 : le v1 60 = true := leC_true hg hn1
      have hl1 := leC_le hn1
      have hs1 := stepleC hg hn1 hi1 (by decide) (by decide)
      rw [S_l3Next_l1] at h_1
      try rw [← hg] at h_1
      try rw [← ht] at h_1
      try dsimp only at h_1
      rw [hb1]
      cbv
      obtain ⟨x1, hx1, h_1⟩ := of_cl h_1
      try dsimp only at h_1
      refine ACall.mk _ _ rfl (hF _ _ _ (c_S_l3Runs hg ht hx1)) (.inl rfl) (Nat.le_of_ble_eq_true rfl) ?_
      cbv
      cases hb2 : x1 with
      | true =>
        rw [br_true hb2] at h_1
        cbv
        try (rw [hb2]; cbv)
        try (rw [hb2]; cbv)
        try (rw [hb2]; cbv)
        try (rw [hb2]; cbv)
        obtain ⟨x2, hx2, h_1⟩ := of_cl h_1
        try dsimp only at h_1
        refine ACall.mk _ _ rfl (hF _ _ _ (c_S_l3Starts hg ht hx2)) (.inl rfl) (Nat.le_of_ble_eq_true rfl) ?_
        cbv
        try (rw [hb2]; cbv)
        try (rw [hb2]; cbv)
        try (rw [hb2]; cbv)
        cases hb3 : (le a2 x2) with
        | true =>
          rw [br_true hb3] at h_1
          cbv
          obtain rfl := Option.some.inj h_1
          try dsimp only [lr, lrL, lrp, lrpL] at h
          obtain rfl := Option.some.inj h
          exact ARet.mk trivial hX.symm
        | false =>
          rw [br_false hb3] at h_1
          cbv
          try rw [hg] at h_1
          try rw [ht] at h_1
          refine ⟨⟨(n1, (wrap .i64 (add v1 1))), hs1.1, hs1.2, h_1⟩, Wk.of [(0, some 0)] rfl rfl ?_ ?_, Nat.lt_succ_self _⟩
          · cbv
            all_goals exact ⟨⟨_, rfl, rfl⟩, ⟨_, rfl, rfl⟩, ⟨_, rfl, rfl⟩, ⟨_, rfl, rfl⟩, trivial⟩
          · cbv
            all_goals exact ⟨⟨_, rfl, _, rfl, rfl, rfl, rfl, trivial⟩, trivial⟩
      | false =>
        rw [br_false hb2] at h_1
        cbv
        try (rw [hb2]; cbv)
        try (rw [hb2]; cbv)
        try (rw [hb2]; cbv)
        try (rw [hb2]; cbv)
        try (rw [hb2]; cbv)
        try (rw [hb2]; cbv)
        try (rw [hb2]; cbv)
        try rw [hg] at h_1
        try rw [ht] at h_1
        refine ⟨⟨(n1, (wrap .i64 (add v1 1))), hs1.1, hs1.2, h_1⟩, Wk.of [(0, some 0)] rfl rfl ?_ ?_, Nat.lt_succ_self _⟩
        · cbv
          all_goals exact ⟨⟨_, rfl, rfl⟩, ⟨_, rfl, rfl⟩, ⟨_, rfl, rfl⟩, ⟨_, rfl, rfl⟩, trivial⟩
        · cbv
          all_goals exact ⟨⟨_, rfl, _, rfl, rfl, rfl, rfl, trivial⟩, trivial⟩
  · rintro _ hy1
    replace hy1 := hy1.symm
    subst hy1
    try dsimp only [lr, lrL, lrp, lrpL] at h
    cbv
    obtain rfl := Option.some.inj h
    exact ARet.mk trivial hX.symm
end Go.Vs
namespace Go.Vs
set_option maxRecDepth 100000
def ir108 : J :=
  .seq (.reg none [⟨(some 4), none, .box (.t 0)⟩,
     ⟨(some 8), none, .mv (.k (.c (.n 1)))⟩] [1, 2, 3, 4])
  (.seq (.reg none [⟨(some 15), none, .mv (.t 2)⟩,
     ⟨(some 16), none, .call 86 true [(.t 15)]⟩,
     ⟨(some 9), none, .mv (.t 16)⟩] [1, 2, 3, 4, 9])
  (.seq (.seq (.reg none [⟨(some 10), none, .mv (.k (V.i 0))⟩] [1, 2, 3, 4, 9, 10])
   (.bl 0 (.seq (.seq (.reg none [⟨(some 17), none, .mv (.t 10)⟩,
        ⟨(some 18), none, .fa 0 (.t 4)⟩,
        ⟨(some 19), none, .ld false 1 (.t 18)⟩,
        ⟨(some 20), none, .len false (.t 19)⟩,
        ⟨(some 21), none, .bin .lss .i (.t 17) (.t 20)⟩] [1, 2, 3, 4, 9, 10, 21])
     (.cond (.t 21)
      (.skip)
      (.exit 0)))
    (.seq (.block 1 (.seq (.reg none [⟨(some 24), none, .mv (.t 1)⟩,
         ⟨(some 25), none, .fa 0 (.t 4)⟩,
         ⟨(some 26), none, .ld false 1 (.t 25)⟩,
         ⟨(some 27), none, .mv (.t 10)⟩,
         ⟨(some 28), none, .ia 6 (.t 26) (.t 27)⟩,
         ⟨(some 29), none, .fa 0 (.t 28)⟩,
         ⟨(some 30), none, .ld false 1 (.t 29)⟩,
         ⟨(some 31), none, .call 47 true [(.t 24), (.t 30)]⟩,
         ⟨(some 11), none, .mv (.t 31)⟩] [1, 2, 3, 4, 9, 10, 11])
      (.seq (.reg none [⟨(some 32), none, .mv (.t 1)⟩,
         ⟨(some 33), none, .fa 0 (.t 4)⟩,
         ⟨(some 34), none, .ld false 1 (.t 33)⟩,
         ⟨(some 35), none, .mv (.t 10)⟩,
         ⟨(some 36), none, .ia 6 (.t 34) (.t 35)⟩,
         ⟨(some 37), none, .fa 1 (.t 36)⟩,
         ⟨(some 38), none, .ld false 1 (.t 37)⟩,
         ⟨(some 39), none, .call 47 true [(.t 32), (.t 38)]⟩,
         ⟨(some 12), none, .mv (.t 39)⟩] [1, 2, 3, 4, 9, 10, 11, 12])
      (.seq (.seq (.reg none [⟨(some 40), none, .mv (.t 2)⟩,
          ⟨(some 41), none, .mv (.t 11)⟩,
          ⟨(some 42), none, .ia 1 (.t 40) (.t 41)⟩,
          ⟨(some 43), none, .ld false 1 (.t 42)⟩,
          ⟨(some 44), none, .bin .lss .i (.t 43) (.k (V.i 0))⟩] [1, 2, 3, 4, 9, 10, 11, 12, 44])
       (.cond (.t 44)
        (.exit 1)
        (.skip)))
      (.seq (.reg (some [[], [], [], [], [], [3, 4], [3, 4, 5], [], [], [7, 8], [2, 3, 4, 5, 6, 7, 8, 9], [0, 1, 2, 3, 4, 5, 6, 7, 8, 9, 10], [0, 1, 2, 3, 4, 5, 6, 7, 8, 9, 10, 11]]) [⟨(some 45), none, .ld true 3 (.t 4)⟩,
         ⟨(some 46), none, .mv (.t 10)⟩,
         ⟨(some 47), none, .ld true 3 (.t 4)⟩,
         ⟨(some 48), none, .mv (.t 2)⟩,
         ⟨(some 49), none, .mv (.t 11)⟩,
         ⟨(some 50), none, .ia 1 (.t 48) (.t 49)⟩,
         ⟨(some 51), none, .ld false 1 (.t 50)⟩,
         ⟨(some 52), none, .mv (.t 11)⟩,
         ⟨(some 53), none, .mv (.t 3)⟩,
         ⟨(some 54), none, .bin .eql .i (.t 52) (.t 53)⟩,
         ⟨(some 55), none, .call 88 true [(.t 47), (.t 51), (.t 54)]⟩,
         ⟨(some 56), none, .call 113 true [(.t 45), (.t 46), (.t 55)]⟩,
         ⟨(some 13), none, .mv (.t 56)⟩] [1, 2, 3, 4, 9, 10, 12, 13])
      (.seq (.seq (.reg none [⟨(some 57), none, .mv (.t 13)⟩,
          ⟨(some 58), none, .bin .lss .i (.t 57) (.k (V.i 0))⟩] [1, 2, 3, 4, 9, 10, 12, 13, 58])
       (.cond (.t 58)
        (.exit 1)
        (.skip)))
      (.seq (.reg none [⟨(some 59), none, .ld true 3 (.t 4)⟩,
         ⟨(some 60), none, .mv (.t 10)⟩,
         ⟨(some 61), none, .mv (.t 13)⟩,
         ⟨(some 62), none, .bld [.r (.v (.int .i64 0)), .r (.v (.int .i64 0))] [(0, 1, (.t 60)), (1, 1, (.t 61))]⟩,
         ⟨(some 63), none, .call 65 true [(.t 59), (.t 62)]⟩,
         ⟨(some 14), none, .mv (.t 63)⟩] [1, 2, 3, 4, 9, 10, 12, 14])
      (.seq (.reg none [⟨(some 64), none, .mv (.t 9)⟩,
         ⟨(some 65), none, .mv (.t 12)⟩,
         ⟨(some 66), none, .ia 1 (.t 64) (.t 65)⟩,
         ⟨(some 67), none, .ld false 1 (.t 66)⟩,
         ⟨(some 68), none, .bin .lss .i (.t 67) (.k (V.i 0))⟩,
         ⟨(some 69), none, .mv (.t 68)⟩,
         ⟨(some 70), (some (69, false)), .mv (.t 14)⟩,
         ⟨(some 71), (some (69, false)), .mv (.t 9)⟩,
         ⟨(some 72), (some (69, false)), .mv (.t 12)⟩,
         ⟨(some 73), (some (69, false)), .ia 1 (.t 71) (.t 72)⟩,
         ⟨(some 74), (some (69, false)), .ld false 1 (.t 73)⟩,
         ⟨(some 75), (some (69, false)), .bin .lss .i (.t 70) (.t 74)⟩,
         ⟨(some 76), none, .pick (.t 69) (.k (V.b true)) (.t 75)⟩] [1, 2, 3, 4, 9, 10, 12, 14, 76])
      (.cond (.t 76)
       (.reg none [⟨(some 77), none, .mv (.t 9)⟩,
          ⟨(some 78), none, .mv (.t 12)⟩,
          ⟨(some 79), none, .mv (.t 14)⟩,
          ⟨(some 80), none, .ia 1 (.t 77) (.t 78)⟩,
          ⟨none, none, .st 1 (.t 80) (.t 79)⟩] [1, 2, 3, 4, 9, 10])
       (.skip))))))))))
    (.reg none [⟨(some 22), none, .mv (.t 10)⟩,
      ⟨(some 23), none, .bin .add .i (.t 22) (.k (V.i 1))⟩,
      ⟨(some 10), none, .mv (.t 23)⟩] [1, 2, 3, 4, 9, 10])))))
  (.seq (.reg none [⟨(some 81), none, .mv (.t 9)⟩,
     ⟨(some 8), none, .mv (.t 81)⟩] [8])
  (.ret))))
def rv108 : List RV := [.t 8]
open Go.Proofs Go.IntWalk
set_option linter.unusedVariables false
set_option maxRecDepth 100000
set_option maxHeartbeats 4000000
def S_l4Round_l1 (g : G) (t : TE) (a0 : Network) (a1 : List ByteArray) (a2 : List Int) (a3 : Int) : List Leg → Int → List Int → Option (List Int)
  | [], v1, w1 =>
    some w1
  | z1 :: ls1, v1, w1 =>
    lP (S_l4Index g t a1 z1.From) fun x2 =>
    lP (S_l4Index g t a1 z1.To) fun x3 =>
    gd (((0 : Int) ≤ x2)) <|
    gt a2 (g.nat x2) fun x4 =>
    br (g.lt x4 0)
    (
     S_l4Round_l1 g t a0 a1 a2 a3 ls1 (g.wrap .i64 (g.add v1 1)) w1)
    (
     gd (((0 : Int) ≤ x2)) <|
     lP (S_l4Ready g t a0 x4 (g.eq x2 a3)) fun x5 =>
     cl (S_l3Next g t a0 v1 x5) fun x6 =>
     br (g.lt x6 0)
     (
      S_l4Round_l1 g t a0 a1 a2 a3 ls1 (g.wrap .i64 (g.add v1 1)) w1)
     (
      cl (S_l3Ends g t a0 (Trip.mk v1 x6)) fun x7 =>
      gd (((0 : Int) ≤ x3 ∧ x3 < (((g.dlen (t.d_I64 w1)) : Nat) : Int))) <|
      gt w1 (g.nat x3) fun x8 =>
      br (g.lt x8 0)
      (
       gd (((0 : Int) ≤ x3 ∧ x3 < (((g.dlen (t.d_I64 w1)) : Nat) : Int))) <|
       lP (List.set w1 (g.nat x3) x7) fun (l1 : List Int) =>
       S_l4Round_l1 g t a0 a1 a2 a3 ls1 (g.wrap .i64 (g.add v1 1)) l1)
      (
       gd (((0 : Int) ≤ x3 ∧ x3 < (((g.dlen (t.d_I64 w1)) : Nat) : Int))) <|
       br (g.lt x7 x8)
       (
        gd (((0 : Int) ≤ x3 ∧ x3 < (((g.dlen (t.d_I64 w1)) : Nat) : Int))) <|
        lP (List.set w1 (g.nat x3) x7) fun (l2 : List Int) =>
        S_l4Round_l1 g t a0 a1 a2 a3 ls1 (g.wrap .i64 (g.add v1 1)) l2)
       (
        S_l4Round_l1 g t a0 a1 a2 a3 ls1 (g.wrap .i64 (g.add v1 1)) w1))))
def S_l4Round (g : G) (t : TE) (a0 : Network) (a1 : List ByteArray) (a2 : List Int) (a3 : Int) : Option (List Int) :=
  cl (S_l1Ints g t a2) fun x1 =>
  cl (S_l4Round_l1 g t a0 a1 a2 a3 a0.Legs 0 x1) fun y1 =>
  some y1
theorem fit108 : codeFit Try.prog Try.f108.ntmps (Try.f108.body.getD .skip) ir108 = true := by kernel_rfl
theorem c_S_l4Round {g : G} {t : TE} {a0 : Network} {a1 : List ByteArray} {a2 : List Int} {a3 : Int} {r : List Int} (hg : g = G.real) (ht : t = TE.real) (h : S_l4Round g t a0 a1 a2 a3 = some r) : Fn Try.prog 108 [.g (Network.rs t a0), .c (.s 1 (t.r_S a1)), .c (.s 1 (t.r_I64 a2)), .c (.v (.int .i64 a3))] (.c (.o 1 (t.d_I64 r))) := by
  obtain ⟨X, hX⟩ := hide (.c (.o 1 (t.d_I64 r)) : X)
  rw [← hX]
  refine fn_of (rvs := rv108) (j := ir108) Try.func108 rfl fit108 (Nat.le_of_ble_eq_true rfl) (by kernel_rfl) prog_mixed ?_
  intro g2 F hg2 hF
  obtain rfl : g2 = g := hg2.unique.trans hg.symm
  clear hg2
  obtain ⟨wrap, lt, le, eq, quo, rem, band, bor, bxor, shl, shr, nat, int, add, sub, mul, cat, seq, slt, sub3, byte, llen, nadd, nsub, dlen, dapp, dset, drep, rd, rda, up, rsub, dsub, all, sle, slen, hasI, putI, hasS, putS, imin, imax, fzc, bstr⟩ := g2
  obtain ⟨r_Leg, d_Leg, r_I64, d_I64, r_Booking, d_Booking, r_Trip, d_Trip, r_S, d_S, r_LI64, d_LI64, r_U8, d_U8, r_Fd⟩ := t
  obtain ⟨a0_Legs, a0_Off, a0_Change⟩ := a0
  unfold S_l4Round at h
  try dsimp only at h
  cbv
  obtain ⟨x1, hx1, h⟩ := of_cl h
  try dsimp only at h
  refine ACall.mk _ _ rfl (hF _ _ _ (c_S_l1Ints hg ht hx1)) (.inl rfl) (Nat.le_of_ble_eq_true rfl) ?_
  cbv
  obtain ⟨o1, ho1, h⟩ := of_cl h
  try dsimp only at h
  try rw [hg] at ho1
  try rw [ht] at ho1
  refine ABL.mk { p : Nat × Int × List Int // p.1 ≤ a0_Legs.length ∧ p.2.1 = ((p.1 : Nat) : Int) ∧ S_l4Round_l1 G.real TE.real (Network.mk a0_Legs a0_Off a0_Change) a1 a2 a3 (List.drop p.1 a0_Legs) p.2.1 p.2.2 = some o1 } (fun ⟨⟨k1, v1, w1⟩, _⟩ => ({ sl := [(1, .c (.r (.s 1 (r_S a1)))), (2, .c (.r (.s 1 (r_I64 a2)))), (3, .c (.r (.v (.int .i64 a3)))), (4, .c (.p 0 3 0 0)), (9, .c (.f 1 1 0 (dlen (d_I64 w1)))), (10, .c (.r (.v (.int .i64 v1))))], tab := [(0, some (.foc 3 [] [.r (.s 6 (r_Leg a0_Legs)), .r (.s 1 (r_I64 a0_Off)), .r (.v (.int .i64 a0_Change))] [])), (1, some (.arr 1 (d_I64 w1)))] } : St)) 2 (fun p => a0_Legs.length - p.1.1) ⟨(0, 0, x1), Nat.zero_le _, rfl, ho1⟩ (List Int) (fun y1 => ({ sl := [(9, .c (.f 0 1 0 (dlen (d_I64 y1))))], tab := [(0, some (.arr 1 (d_I64 y1)))] } : St)) 1 (fun y => o1 = y) ?_ ?_ ?_
  · refine Wk.of [(0, some 0), (1, some 48)] rfl rfl ?_ ?_
    · cbv
      all_goals exact ⟨⟨_, rfl, rfl⟩, ⟨_, rfl, rfl⟩, ⟨_, rfl, rfl⟩, ⟨_, rfl, rfl⟩, ⟨_, rfl, rfl⟩, ⟨_, rfl, rfl⟩, trivial⟩
    · cbv
      all_goals exact ⟨⟨_, rfl, _, rfl, rfl, rfl, rfl, trivial⟩, ⟨_, rfl, rfl⟩, trivial⟩
  · rintro ⟨⟨k1, v1, w1⟩, hk1, hi1, h_1⟩ hq1
    have hm1 := (hq1.2.2.1 0 _ _ _ _ 0 _ _ rfl rfl)
    try dsimp only at hk1 hi1 h_1
    clear hq1
    cbv
    by_cases hc1_ : k1 < a0_Legs.length
    · have hb1 : lt v1 (llen (r_Leg a0_Legs)) = true := ltL_true_Leg hg ht hi1 hc1_
      have hs1 := stepL_Leg hg ht hi1 hc1_ hm1
      obtain ⟨z1, hz1⟩ := some_of_lt hc1_
      rw [drop_of_some hz1] at h_1
      rw [S_l4Round_l1] at h_1
      obtain ⟨z1_From, z1_To, z1_Start, z1_Takes, z1_Days, z1_Room⟩ := z1
      try rw [← hg] at h_1
      try rw [← ht] at h_1
      try dsimp only at h_1
      rw [hb1]
      cbv
      refine AStep.mk (nn_L hi1) ?_
      cbv
      refine AGet.mk _ (r_getL_Leg hg ht hi1 hz1) ?_
      cbv
      obtain ⟨x2, hx2, h_1⟩ := of_lP h_1
      try dsimp only at h_1
      refine ACall.mk _ _ rfl (hF _ _ _ (c_S_l4Index hg ht hx2)) (.inl rfl) (Nat.le_of_ble_eq_true rfl) ?_
      cbv
      refine AStep.mk (nn_L hi1) ?_
      cbv
      refine AGet.mk _ (r_getL_Leg hg ht hi1 hz1) ?_
      cbv
      obtain ⟨x3, hx3, h_1⟩ := of_lP h_1
      try dsimp only at h_1
      refine ACall.mk _ _ rfl (hF _ _ _ (c_S_l4Index hg ht hx3)) (.inl rfl) (Nat.le_of_ble_eq_true rfl) ?_
      cbv
      obtain ⟨hc1, h_1⟩ := of_gd h_1
      refine AStep.mk hc1 ?_
      cbv
      obtain ⟨x4, hx4, h_1⟩ := of_gt h_1
      try dsimp only at h_1
      refine AGet.mk _ (r_get_I64 hg ht hx4) ?_
      cbv
      cases hb2 : (lt x4 0) with
      | true =>
        rw [br_true hb2] at h_1
        cbv
        try rw [hg] at h_1
        try rw [ht] at h_1
        refine ⟨⟨(k1 + 1, (wrap .i64 (add v1 1)), w1), hc1_, hs1, h_1⟩, Wk.of [(0, some 0), (1, some 1)] rfl rfl ?_ ?_, meas_L hc1_⟩
        · cbv
          all_goals exact ⟨⟨_, rfl, rfl⟩, ⟨_, rfl, rfl⟩, ⟨_, rfl, rfl⟩, ⟨_, rfl, rfl⟩, ⟨_, rfl, rfl⟩, ⟨_, rfl, rfl⟩, trivial⟩
        · cbv
          all_goals exact ⟨⟨_, rfl, _, rfl, rfl, rfl, rfl, trivial⟩, ⟨_, rfl, rfl⟩, trivial⟩
      | false =>
        rw [br_false hb2] at h_1
        cbv
        obtain ⟨hc2, h_1⟩ := of_gd h_1
        refine AStep.mk hc2 ?_
        cbv
        refine AGet.mk _ (r_get_I64 hg ht hx4) ?_
        cbv
        obtain ⟨x5, hx5, h_1⟩ := of_lP h_1
        try dsimp only at h_1
        refine ACall.mk _ _ rfl (hF _ _ _ (c_S_l4Ready hg ht hx5)) (.inl rfl) (Nat.le_of_ble_eq_true rfl) ?_
        cbv
        obtain ⟨x6, hx6, h_1⟩ := of_cl h_1
        try dsimp only at h_1
        refine ACall.mk _ _ rfl (hF _ _ _ (c_S_l3Next hg ht hx6)) (.inl rfl) (Nat.le_of_ble_eq_true rfl) ?_
        cbv
        cases hb3 : (lt x6 0) with
        | true =>
          rw [br_true hb3] at h_1
          cbv
          try rw [hg] at h_1
          try rw [ht] at h_1
          refine ⟨⟨(k1 + 1, (wrap .i64 (add v1 1)), w1), hc1_, hs1, h_1⟩, Wk.of [(0, some 0), (1, some 1)] rfl rfl ?_ ?_, meas_L hc1_⟩
          · cbv
            all_goals exact ⟨⟨_, rfl, rfl⟩, ⟨_, rfl, rfl⟩, ⟨_, rfl, rfl⟩, ⟨_, rfl, rfl⟩, ⟨_, rfl, rfl⟩, ⟨_, rfl, rfl⟩, trivial⟩
          · cbv
            all_goals exact ⟨⟨_, rfl, _, rfl, rfl, rfl, rfl, trivial⟩, ⟨_, rfl, rfl⟩, trivial⟩
        | false =>
          rw [br_false hb3] at h_1
          cbv
          obtain ⟨x7, hx7, h_1⟩ := of_cl h_1
          try dsimp only at h_1
          refine ACall.mk _ _ rfl (hF _ _ _ (c_S_l3Ends hg ht hx7)) (.inl rfl) (Nat.le_of_ble_eq_true rfl) ?_
          cbv
          obtain ⟨hc3, h_1⟩ := of_gd h_1
          refine AStep.mk hc3 ?_
          cbv
          obtain ⟨x8, hx8, h_1⟩ := of_gt h_1
          try dsimp only at h_1
          refine AGet.mk _ (d_get_I64 hg ht hx8) ?_
          cbv
          cases hb4 : (lt x8 0) with
          | true =>
            rw [br_true hb4] at h_1
            cbv
            try (rw [hb4]; cbv)
            try (rw [hb4]; cbv)
            try (rw [hb4]; cbv)
            try (rw [hb4]; cbv)
            try (rw [hb4]; cbv)
            try (rw [hb4]; cbv)
            obtain ⟨hc4, h_1⟩ := of_gd h_1
            refine AStep.mk hc4 ?_
            cbv
            refine AGet.mk _ (d_get_I64 hg ht hx8) ?_
            cbv
            obtain ⟨l1, hl1, h_1⟩ := of_lP h_1
            try dsimp only at h_1
            refine ANew.mk (d_I64 l1) _ (by rw [← hl1]; exact dset_I64 hg ht _ _ x7) rfl ?_
            have hnl1 : (dlen (d_I64 w1)) = (d_I64 l1).length := (by rw [← hl1, dsetl_I64 ht]; exact (dlen_I64 hg ht _))
            cbv
            try rw [hg] at h_1
            try rw [ht] at h_1
            refine ⟨⟨(k1 + 1, (wrap .i64 (add v1 1)), l1), hc1_, hs1, h_1⟩, Wk.of [(0, some 0), (1, some 1)] rfl rfl ?_ ?_, meas_L hc1_⟩
            · cbv
              all_goals try rw [show (dlen (d_I64 w1)) = (dlen (d_I64 l1)) from (hnl1).trans (dlen_I64 hg ht _).symm]
              all_goals exact ⟨⟨_, rfl, rfl⟩, ⟨_, rfl, rfl⟩, ⟨_, rfl, rfl⟩, ⟨_, rfl, rfl⟩, ⟨_, rfl, rfl⟩, ⟨_, rfl, rfl⟩, trivial⟩
            · cbv
              all_goals try rw [show (dlen (d_I64 w1)) = (dlen (d_I64 l1)) from (hnl1).trans (dlen_I64 hg ht _).symm]
              all_goals exact ⟨⟨_, rfl, _, rfl, rfl, rfl, rfl, trivial⟩, ⟨_, rfl, rfl⟩, trivial⟩
          | false =>
            rw [br_false hb4] at h_1
            cbv
            try (rw [hb4]; cbv)
            try (rw [hb4]; cbv)
            try (rw [hb4]; cbv)
            obtain ⟨hc5, h_1⟩ := of_gd h_1
            refine AStep.mk hc5 ?_
            cbv
            try (rw [hb4]; cbv)
            refine AGet.mk _ (d_get_I64 hg ht hx8) ?_
            cbv
            try (rw [hb4]; cbv)
            try (rw [hb4]; cbv)
            cases hb5 : (lt x7 x8) with
            | true =>
              rw [br_true hb5] at h_1
              cbv
              obtain ⟨hc6, h_1⟩ := of_gd h_1
              refine AStep.mk hc6 ?_
              cbv
              refine AGet.mk _ (d_get_I64 hg ht hx8) ?_
              cbv
              obtain ⟨l2, hl2, h_1⟩ := of_lP h_1
              try dsimp only at h_1
              refine ANew.mk (d_I64 l2) _ (by rw [← hl2]; exact dset_I64 hg ht _ _ x7) rfl ?_
              have hnl2 : (dlen (d_I64 w1)) = (d_I64 l2).length := (by rw [← hl2, dsetl_I64 ht]; exact (dlen_I64 hg ht _))
              cbv
              try rw [hg] at h_1
              try rw [ht] at h_1
              refine ⟨⟨(k1 + 1, (wrap .i64 (add v1 1)), l2), hc1_, hs1, h_1⟩, Wk.of [(0, some 0), (1, some 1)] rfl rfl ?_ ?_, meas_L hc1_⟩
              · cbv
                all_goals try rw [show (dlen (d_I64 w1)) = (dlen (d_I64 l2)) from (hnl2).trans (dlen_I64 hg ht _).symm]
                all_goals exact ⟨⟨_, rfl, rfl⟩, ⟨_, rfl, rfl⟩, ⟨_, rfl, rfl⟩, ⟨_, rfl, rfl⟩, ⟨_, rfl, rfl⟩, ⟨_, rfl, rfl⟩, trivial⟩
              · cbv
                all_goals try rw [show (dlen (d_I64 w1)) = (dlen (d_I64 l2)) from (hnl2).trans (dlen_I64 hg ht _).symm]
                all_goals exact ⟨⟨_, rfl, _, rfl, rfl, rfl, rfl, trivial⟩, ⟨_, rfl, rfl⟩, trivial⟩
            | false =>
              rw [br_false hb5] at h_1
              cbv
              try rw [hg] at h_1
              try rw [ht] at h_1
              refine ⟨⟨(k1 + 1, (wrap .i64 (add v1 1)), w1), hc1_, hs1, h_1⟩, Wk.of [(0, some 0), (1, some 1)] rfl rfl ?_ ?_, meas_L hc1_⟩
              · cbv
                all_goals exact ⟨⟨_, rfl, rfl⟩, ⟨_, rfl, rfl⟩, ⟨_, rfl, rfl⟩, ⟨_, rfl, rfl⟩, ⟨_, rfl, rfl⟩, ⟨_, rfl, rfl⟩, trivial⟩
              · cbv
                all_goals exact ⟨⟨_, rfl, _, rfl, rfl, rfl, rfl, trivial⟩, ⟨_, rfl, rfl⟩, trivial⟩
    · have hb1 : lt v1 (llen (r_Leg a0_Legs)) = false := ltL_false_Leg hg ht hi1 hc1_
      rw [List.drop_of_length_le (Nat.le_of_not_lt hc1_)] at h_1
      rw [S_l4Round_l1] at h_1
      try rw [← hg] at h_1
      try rw [← ht] at h_1
      try dsimp only at h_1
      rw [hb1]
      cbv
      refine ⟨w1, Wk.of [(0, some 1)] rfl rfl ?_ ?_, (Option.some.inj h_1).symm⟩
      · cbv
        all_goals exact ⟨⟨_, rfl, rfl⟩, trivial⟩
      · cbv
        all_goals exact ⟨⟨_, rfl, rfl⟩, trivial⟩
  · rintro y1 hy1
    replace hy1 := hy1.symm
    subst hy1
    try dsimp only [lr, lrL, lrp, lrpL] at h
    cbv
    obtain rfl := Option.some.inj h
    exact ARet.mk ⟨rfl, (dlen_I64 hg ht _)⟩ hX.symm
end Go.Vs
namespace Go.Vs
set_option maxRecDepth 100000
def ir99 : J :=
  .seq (.reg none [⟨(some 4), none, .box (.t 0)⟩,
     ⟨(some 8), none, .mv (.k (.c (.n 1)))⟩] [1, 2, 3, 4])
  (.seq (.reg none [⟨(some 13), none, .ld true 3 (.t 4)⟩,
     ⟨(some 14), none, .call 46 true [(.t 13)]⟩,
     ⟨(some 9), none, .mv (.t 14)⟩] [1, 2, 3, 4, 9])
  (.seq (.reg none [⟨(some 15), none, .mv (.t 9)⟩,
     ⟨(some 16), none, .mv (.t 1)⟩,
     ⟨(some 17), none, .call 47 true [(.t 15), (.t 16)]⟩,
     ⟨(some 10), none, .mv (.t 17)⟩] [2, 3, 4, 9, 10])
  (.seq (.seq (.reg none [⟨(some 18), none, .ld true 3 (.t 4)⟩,
      ⟨(some 19), none, .call 61 true [(.t 18)]⟩,
      ⟨(some 20), none, .not (.t 19)⟩,
      ⟨(some 21), none, .mv (.t 20)⟩,
      ⟨(some 22), (some (21, false)), .mv (.t 10)⟩,
      ⟨(some 23), (some (21, false)), .bin .lss .i (.t 22) (.k (V.i 0))⟩,
      ⟨(some 24), none, .pick (.t 21) (.k (V.b true)) (.t 23)⟩,
      ⟨(some 25), none, .mv (.t 24)⟩,
      ⟨(some 26), (some (25, false)), .mv (.t 2)⟩,
      ⟨(some 27), (some (25, false)), .bin .gtr .i (.t 26) (.k (V.i 100000))⟩,
      ⟨(some 28), none, .pick (.t 25) (.k (V.b true)) (.t 27)⟩,
      ⟨(some 29), none, .mv (.t 28)⟩,
      ⟨(some 30), (some (29, false)), .mv (.t 3)⟩,
      ⟨(some 31), (some (29, false)), .bin .lss .i (.t 30) (.k (V.i 0))⟩,
      ⟨(some 32), none, .pick (.t 29) (.k (V.b true)) (.t 31)⟩] [2, 3, 4, 9, 10, 32])
   (.cond (.t 32)
    (.seq (.reg none [⟨(some 33), none, .bsl 1 []⟩,
        ⟨(some 8), none, .mv (.t 33)⟩] [8])
     (.ret))
    (.skip)))
  (.seq (.reg none [⟨(some 34), none, .mv (.t 9)⟩,
     ⟨(some 35), none, .mv (.t 10)⟩,
     ⟨(some 36), none, .mv (.t 2)⟩,
     ⟨(some 37), none, .call 49 true [(.t 34), (.t 35), (.t 36)]⟩,
     ⟨(some 11), none, .mv (.t 37)⟩] [3, 4, 9, 10, 11])
  (.seq (.seq (.reg none [⟨(some 12), none, .mv (.k (V.i 0))⟩] [3, 4, 9, 10, 11, 12])
   (.bl 0 (.seq (.seq (.reg none [⟨(some 38), none, .mv (.t 12)⟩,
        ⟨(some 39), none, .mv (.t 3)⟩,
        ⟨(some 40), none, .bin .lss .i (.t 38) (.t 39)⟩,
        ⟨(some 41), none, .mv (.t 40)⟩,
        ⟨(some 42), (some (41, true)), .mv (.t 12)⟩,
        ⟨(some 43), (some (41, true)), .mv (.t 9)⟩,
        ⟨(some 44), (some (41, true)), .len false (.t 43)⟩,
        ⟨(some 45), (some (41, true)), .bin .lss .i (.t 42) (.t 44)⟩,
        ⟨(some 46), none, .pick (.t 41) (.t 45) (.k (V.b false))⟩] [3, 4, 9, 10, 11, 12, 46])
     (.cond (.t 46)
      (.skip)
      (.exit 0)))
    (.seq (.block 1 (.reg none [⟨(some 49), none, .ld true 3 (.t 4)⟩,
        ⟨(some 50), none, .mv (.t 9)⟩,
        ⟨(some 51), none, .mv (.t 11)⟩,
        ⟨(some 52), none, .mv (.t 10)⟩,
        ⟨(some 53), none, .call 108 true [(.t 49), (.t 50), (.t 51), (.t 52)]⟩,
        ⟨(some 11), none, .mv (.t 53)⟩] [3, 4, 9, 10, 11, 12]))
    (.reg none [⟨(some 47), none, .mv (.t 12)⟩,
      ⟨(some 48), none, .bin .add .i (.t 47) (.k (V.i 1))⟩,
      ⟨(some 12), none, .mv (.t 48)⟩] [3, 4, 9, 10, 11, 12])))))
  (.seq (.reg none [⟨(some 54), none, .mv (.t 11)⟩,
     ⟨(some 8), none, .mv (.t 54)⟩] [8])
  (.ret)))))))
def rv99 : List RV := [.t 8]
open Go.Proofs Go.IntWalk
set_option linter.unusedVariables false
set_option maxRecDepth 100000
set_option maxHeartbeats 4000000
def S_BestArrivals_l1 (g : G) (t : TE) (a0 : Network) (x1 : List ByteArray) (x2 : Int) : Nat → Int → List Int → Option (List Int)
  | 0, v1, w1 =>
    some w1
  | n1 + 1, v1, w1 =>
    br (g.lt v1 (g.int (g.dlen (t.d_S x1))))
    (
     cl (S_l4Round g t a0 x1 w1 x2) fun x5 =>
     S_BestArrivals_l1 g t a0 x1 x2 n1 (g.wrap .i64 (g.add v1 1)) x5)
    (
     some w1)
def S_BestArrivals (g : G) (t : TE) (a0 : Network) (a1 : ByteArray) (a2 : Int) (a3 : Int) : Option (List Int) :=
  cl (S_PlacesOf g t a0) fun x1 =>
  lP (S_l4Index g t x1 a1) fun x2 =>
  cl (S_IsNetwork g t a0) fun x3 =>
  br x3
  (
   br (g.lt x2 0)
   (
    lP ([]) fun (l1 : List Int) =>
    some l1)
   (
    br (g.lt 100000 a2)
    (
     lP ([]) fun (l2 : List Int) =>
     some l2)
    (
     br (g.lt a3 0)
     (
      lP ([]) fun (l3 : List Int) =>
      some l3)
     (
      cl (S_l4First g t x1 x2 a2) fun x4 =>
      gd ((a3 ≤ 9223372036854775807)) <|
      cl (S_BestArrivals_l1 g t a0 x1 x2 (cntLt 0 a3) 0 x4) fun y1 =>
      some y1))))
  (
   lP ([]) fun (l4 : List Int) =>
   some l4)
theorem fit99 : codeFit Try.prog Try.f99.ntmps (Try.f99.body.getD .skip) ir99 = true := by kernel_rfl
theorem c_S_BestArrivals {g : G} {t : TE} {a0 : Network} {a1 : ByteArray} {a2 : Int} {a3 : Int} {r : List Int} (hg : g = G.real) (ht : t = TE.real) (h : S_BestArrivals g t a0 a1 a2 a3 = some r) : Fn Try.prog 99 [.g (Network.rs t a0), .c (.v (.string a1)), .c (.v (.int .i64 a2)), .c (.v (.int .i64 a3))] (.c (.o 1 (t.d_I64 r))) := by
  obtain ⟨X, hX⟩ := hide (.c (.o 1 (t.d_I64 r)) : X)
  rw [← hX]
  refine fn_of (rvs := rv99) (j := ir99) Try.func99 rfl fit99 (Nat.le_of_ble_eq_true rfl) (by kernel_rfl) prog_mixed ?_
  intro g2 F hg2 hF
  obtain rfl : g2 = g := hg2.unique.trans hg.symm
  clear hg2
  obtain ⟨wrap, lt, le, eq, quo, rem, band, bor, bxor, shl, shr, nat, int, add, sub, mul, cat, seq, slt, sub3, byte, llen, nadd, nsub, dlen, dapp, dset, drep, rd, rda, up, rsub, dsub, all, sle, slen, hasI, putI, hasS, putS, imin, imax, fzc, bstr⟩ := g2
  obtain ⟨r_Leg, d_Leg, r_I64, d_I64, r_Booking, d_Booking, r_Trip, d_Trip, r_S, d_S, r_LI64, d_LI64, r_U8, d_U8, r_Fd⟩ := t
  obtain ⟨a0_Legs, a0_Off, a0_Change⟩ := a0
  have hfr_I64 : ∀ l, freshDss (d_I64 l) = true := fresh_I64 ht
  unfold S_BestArrivals at h
  try dsimp only at h
  cbv
  obtain ⟨x1, hx1, h⟩ := of_cl h
  try dsimp only at h
  refine ACall.mk _ _ rfl (hF _ _ _ (c_S_PlacesOf hg ht hx1)) (.inl rfl) (Nat.le_of_ble_eq_true rfl) ?_
  cbv
  refine AStep.mk (lend_S ht (dlen_S hg ht _)) ?_
  cbv
  obtain ⟨x2, hx2, h⟩ := of_lP h
  try dsimp only at h
  refine ACall.mk _ _ (by rw [show rd (d_S x1) 0 (dlen (d_S x1)) = r_S x1 from rdw_S hg ht (dlen_S hg ht _)]; try rfl) (hF _ _ _ (c_S_l4Index hg ht hx2)) (.inr rfl) (Nat.le_of_ble_eq_true rfl) ?_
  cbv
  obtain ⟨x3, hx3, h⟩ := of_cl h
  try dsimp only at h
  refine ACall.mk _ _ rfl (hF _ _ _ (c_S_IsNetwork hg ht hx3)) (.inl rfl) (Nat.le_of_ble_eq_true rfl) ?_
  cbv
  cases hb1 : x3 with
  | true =>
    rw [br_true hb1] at h
    cbv
    try (rw [hb1]; cbv)
    try (rw [hb1]; cbv)
    cases hb2 : (lt x2 0) with
    | true =>
      rw [br_true hb2] at h
      cbv
      try (rw [hb2]; cbv)
      try (rw [hb2]; cbv)
      obtain ⟨l1, hl1, h⟩ := of_lP h
      try dsimp only at h
      refine ANew.mk (d_I64 l1) (dlen (d_I64 l1)) (by rw [← hl1]; exact lit_I64 hg ht []) (by rw [← hl1]; exact litn_I64 hg ht []) ?_
      cbv
      obtain rfl := Option.some.inj h
      exact ARet.mk ⟨rfl, (dlen_I64 hg ht _)⟩ hX.symm
    | false =>
      rw [br_false hb2] at h
      cbv
      try (rw [hb2]; cbv)
      try (rw [hb2]; cbv)
      cases hb3 : (lt 100000 a2) with
      | true =>
        rw [br_true hb3] at h
        cbv
        try (rw [hb3]; cbv)
        try (rw [hb3]; cbv)
        obtain ⟨l2, hl2, h⟩ := of_lP h
        try dsimp only at h
        refine ANew.mk (d_I64 l2) (dlen (d_I64 l2)) (by rw [← hl2]; exact lit_I64 hg ht []) (by rw [← hl2]; exact litn_I64 hg ht []) ?_
        cbv
        obtain rfl := Option.some.inj h
        exact ARet.mk ⟨rfl, (dlen_I64 hg ht _)⟩ hX.symm
      | false =>
        rw [br_false hb3] at h
        cbv
        try (rw [hb3]; cbv)
        try (rw [hb3]; cbv)
        cases hb4 : (lt a3 0) with
        | true =>
          rw [br_true hb4] at h
          cbv
          obtain ⟨l3, hl3, h⟩ := of_lP h
          try dsimp only at h
          refine ANew.mk (d_I64 l3) (dlen (d_I64 l3)) (by rw [← hl3]; exact lit_I64 hg ht []) (by rw [← hl3]; exact litn_I64 hg ht []) ?_
          cbv
          obtain rfl := Option.some.inj h
          exact ARet.mk ⟨rfl, (dlen_I64 hg ht _)⟩ hX.symm
        | false =>
          rw [br_false hb4] at h
          cbv
          refine AStep.mk (lend_S ht (dlen_S hg ht _)) ?_
          cbv
          obtain ⟨x4, hx4, h⟩ := of_cl h
          try dsimp only at h
          refine ACall.mk _ _ (by rw [show rd (d_S x1) 0 (dlen (d_S x1)) = r_S x1 from rdw_S hg ht (dlen_S hg ht _)]; try rfl) (hF _ _ _ (c_S_l4First hg ht hx4)) (.inr (by simp only [Go.Vs.X.fresh, Go.Vs.X.freshs, freshD, freshDs, Bool.and_self, hfr_I64])) (Nat.le_of_ble_eq_true rfl) ?_
          cbv
          obtain ⟨hB1, h⟩ := of_gd h
          obtain ⟨o1, ho1, h⟩ := of_cl h
          try dsimp only at h
          try rw [hg] at ho1
          try rw [ht] at ho1
          refine ABL.mk { p : Nat × Int × List Int // p.1 = cntLt p.2.1 a3 ∧ 0 ≤ p.2.1 ∧ S_BestArrivals_l1 G.real TE.real (Network.mk a0_Legs a0_Off a0_Change) x1 x2 p.1 p.2.1 p.2.2 = some o1 } (fun ⟨⟨n1, v1, w1⟩, _⟩ => ({ sl := [(3, .c (.r (.v (.int .i64 a3)))), (4, .c (.p 0 3 0 0)), (9, .c (.f 1 1 0 (dlen (d_S x1)))), (10, .c (.r (.v (.int .i64 x2)))), (11, .c (.f 2 1 0 (dlen (d_I64 w1)))), (12, .c (.r (.v (.int .i64 v1))))], tab := [(0, some (.foc 3 [] [.r (.s 6 (r_Leg a0_Legs)), .r (.s 1 (r_I64 a0_Off)), .r (.v (.int .i64 a0_Change))] [])), (1, some (.arr 1 (d_S x1))), (2, some (.arr 1 (d_I64 w1)))] } : St)) 3 (fun p => p.1.1) ⟨(cntLt 0 a3, 0, x4), rfl, Int.le_refl _, ho1⟩ (List Int) (fun y1 => ({ sl := [(11, .c (.f 0 1 0 (dlen (d_I64 y1))))], tab := [(0, some (.arr 1 (d_I64 y1)))] } : St)) 1 (fun y => o1 = y) ?_ ?_ ?_
          · refine Wk.of [(0, some 0), (1, some 48), (2, some 432)] rfl rfl ?_ ?_
            · cbv
              all_goals exact ⟨⟨_, rfl, rfl⟩, ⟨_, rfl, rfl⟩, ⟨_, rfl, rfl⟩, ⟨_, rfl, rfl⟩, ⟨_, rfl, rfl⟩, ⟨_, rfl, rfl⟩, trivial⟩
            · cbv
              all_goals exact ⟨⟨_, rfl, _, rfl, rfl, rfl, rfl, trivial⟩, ⟨_, rfl, rfl⟩, ⟨_, rfl, rfl⟩, trivial⟩
          · rintro ⟨⟨n1, v1, w1⟩, hn1, hi1, h_1⟩ hq1
            try dsimp only at hn1 hi1 h_1
            clear hq1
            cbv
            rcases n1 with _ | n1
            · have hb5 : lt v1 a3 = false := ltC_false hg hn1
              rw [S_BestArrivals_l1] at h_1
              try rw [← hg] at h_1
              try rw [← ht] at h_1
              try dsimp only at h_1
              rw [hb5]
              cbv
              try (rw [hb5]; cbv)
              try (rw [hb5]; cbv)
              try (rw [hb5]; cbv)
              try (rw [hb5]; cbv)
              refine ⟨w1, Wk.of [(0, some 2)] rfl rfl ?_ ?_, (Option.some.inj h_1).symm⟩
              · cbv
                all_goals exact ⟨⟨_, rfl, rfl⟩, trivial⟩
              · cbv
                all_goals exact ⟨⟨_, rfl, rfl⟩, trivial⟩
            · have hb5 : lt v1 a3 = true := ltC_true hg hn1
              have hl1 := ltC_le hn1
              have hs1 := stepltC hg hn1 hi1 hB1 (by decide)
              rw [S_BestArrivals_l1] at h_1
              try rw [← hg] at h_1
              try rw [← ht] at h_1
              try dsimp only at h_1
              rw [hb5]
              cbv
              try (rw [hb5]; cbv)
              try (rw [hb5]; cbv)
              try (rw [hb5]; cbv)
              try (rw [hb5]; cbv)
              cases hb6 : (lt v1 (int (dlen (d_S x1)))) with
              | true =>
                rw [br_true hb6] at h_1
                cbv
                refine AStep.mk ⟨(lend_S ht (dlen_S hg ht _)), (lend_I64 ht (dlen_I64 hg ht _))⟩ ?_
                cbv
                obtain ⟨x5, hx5, h_1⟩ := of_cl h_1
                try dsimp only at h_1
                refine ACall.mk _ _ (by rw [show rd (d_S x1) 0 (dlen (d_S x1)) = r_S x1 from rdw_S hg ht (dlen_S hg ht _), show rd (d_I64 w1) 0 (dlen (d_I64 w1)) = r_I64 w1 from rdw_I64 hg ht (dlen_I64 hg ht _)]; try rfl) (hF _ _ _ (c_S_l4Round hg ht hx5)) (.inr (by simp only [Go.Vs.X.fresh, Go.Vs.X.freshs, freshD, freshDs, Bool.and_self, hfr_I64])) (Nat.le_of_ble_eq_true rfl) ?_
                cbv
                try rw [hg] at h_1
                try rw [ht] at h_1
                refine ⟨⟨(n1, (wrap .i64 (add v1 1)), x5), hs1.1, hs1.2, h_1⟩, Wk.of [(0, some 0), (1, some 1), (2, some 211)] rfl rfl ?_ ?_, Nat.lt_succ_self _⟩
                · cbv
                  all_goals exact ⟨⟨_, rfl, rfl⟩, ⟨_, rfl, rfl⟩, ⟨_, rfl, rfl⟩, ⟨_, rfl, rfl⟩, ⟨_, rfl, rfl⟩, ⟨_, rfl, rfl⟩, trivial⟩
                · cbv
                  all_goals exact ⟨⟨_, rfl, _, rfl, rfl, rfl, rfl, trivial⟩, ⟨_, rfl, rfl⟩, ⟨_, rfl, rfl⟩, trivial⟩
              | false =>
                rw [br_false hb6] at h_1
                cbv
                refine ⟨w1, Wk.of [(0, some 2)] rfl rfl ?_ ?_, (Option.some.inj h_1).symm⟩
                · cbv
                  all_goals exact ⟨⟨_, rfl, rfl⟩, trivial⟩
                · cbv
                  all_goals exact ⟨⟨_, rfl, rfl⟩, trivial⟩
          · rintro y1 hy1
            replace hy1 := hy1.symm
            subst hy1
            try dsimp only [lr, lrL, lrp, lrpL] at h
            cbv
            obtain rfl := Option.some.inj h
            exact ARet.mk ⟨rfl, (dlen_I64 hg ht _)⟩ hX.symm
  | false =>
    rw [br_false hb1] at h
    cbv
    try (rw [hb1]; cbv)
    try (rw [hb1]; cbv)
    obtain ⟨l4, hl4, h⟩ := of_lP h
    try dsimp only at h
    refine ANew.mk (d_I64 l4) (dlen (d_I64 l4)) (by rw [← hl4]; exact lit_I64 hg ht []) (by rw [← hl4]; exact litn_I64 hg ht []) ?_
    cbv
    obtain rfl := Option.some.inj h
    exact ARet.mk ⟨rfl, (dlen_I64 hg ht _)⟩ hX.symm
end Go.Vs
namespace Go.Vs
set_option maxRecDepth 100000
def ir66 : J :=
  .seq (.reg none [⟨(some 4), none, .box (.t 0)⟩,
     ⟨(some 8), none, .mv (.k (V.i 0))⟩] [1, 2, 3, 4])
  (.seq (.reg none [⟨(some 12), none, .ld true 3 (.t 4)⟩,
     ⟨(some 13), none, .call 46 true [(.t 12)]⟩,
     ⟨(some 9), none, .mv (.t 13)⟩] [1, 2, 3, 4, 9])
  (.seq (.reg none [⟨(some 14), none, .mv (.t 9)⟩,
     ⟨(some 15), none, .mv (.t 2)⟩,
     ⟨(some 16), none, .call 47 true [(.t 14), (.t 15)]⟩,
     ⟨(some 10), none, .mv (.t 16)⟩] [1, 3, 4, 9, 10])
  (.seq (.reg none [⟨(some 17), none, .ld true 3 (.t 4)⟩,
     ⟨(some 18), none, .mv (.t 1)⟩,
     ⟨(some 19), none, .mv (.t 3)⟩,
     ⟨(some 20), none, .mv (.t 9)⟩,
     ⟨(some 21), none, .len false (.t 20)⟩,
     ⟨(some 22), none, .call 99 true [(.t 17), (.t 18), (.t 19), (.t 21)]⟩,
     ⟨(some 11), none, .mv (.t 22)⟩] [10, 11])
  (.seq (.seq (.reg none [⟨(some 23), none, .mv (.t 10)⟩,
      ⟨(some 24), none, .bin .lss .i (.t 23) (.k (V.i 0))⟩,
      ⟨(some 25), none, .mv (.t 24)⟩,
      ⟨(some 26), (some (25, false)), .mv (.t 11)⟩,
      ⟨(some 27), (some (25, false)), .len false (.t 26)⟩,
      ⟨(some 28), (some (25, false)), .bin .eql .i (.t 27) (.k (V.i 0))⟩,
      ⟨(some 29), none, .pick (.t 25) (.k (V.b true)) (.t 28)⟩] [10, 11, 29])
   (.cond (.t 29)
    (.seq (.reg none [⟨(some 8), none, .mv (.k (V.i (-1)))⟩] [8])
     (.ret))
    (.skip)))
  (.seq (.reg none [⟨(some 30), none, .mv (.t 11)⟩,
     ⟨(some 31), none, .mv (.t 10)⟩,
     ⟨(some 32), none, .ia 1 (.t 30) (.t 31)⟩,
     ⟨(some 33), none, .ld false 1 (.t 32)⟩,
     ⟨(some 8), none, .mv (.t 33)⟩] [8])
  (.ret))))))
def rv66 : List RV := [.t 8]
open Go.Proofs Go.IntWalk
set_option linter.unusedVariables false
set_option maxRecDepth 100000
set_option maxHeartbeats 4000000
def S_EarliestAt (g : G) (t : TE) (a0 : Network) (a1 : ByteArray) (a2 : ByteArray) (a3 : Int) : Option Int :=
  cl (S_PlacesOf g t a0) fun x1 =>
  lP (S_l4Index g t x1 a2) fun x2 =>
  cl (S_BestArrivals g t a0 a1 a3 (g.int (g.dlen (t.d_S x1)))) fun x3 =>
  br (g.lt x2 0)
  (
   some (-1))
  (
   br (g.eq (g.int (g.dlen (t.d_I64 x3))) 0)
   (
    some (-1))
   (
    gd (((0 : Int) ≤ x2 ∧ x2 < (((g.dlen (t.d_I64 x3)) : Nat) : Int))) <|
    gt x3 (g.nat x2) fun x4 =>
    some x4))
theorem fit66 : codeFit Try.prog Try.f66.ntmps (Try.f66.body.getD .skip) ir66 = true := by kernel_rfl
theorem c_S_EarliestAt {g : G} {t : TE} {a0 : Network} {a1 : ByteArray} {a2 : ByteArray} {a3 : Int} {r : Int} (hg : g = G.real) (ht : t = TE.real) (h : S_EarliestAt g t a0 a1 a2 a3 = some r) : Fn Try.prog 66 [.g (Network.rs t a0), .c (.v (.string a1)), .c (.v (.string a2)), .c (.v (.int .i64 a3))] (.c (.r (.v (.int .i64 r)))) := by
  obtain ⟨X, hX⟩ := hide (.c (.r (.v (.int .i64 r))) : X)
  rw [← hX]
  refine fn_of (rvs := rv66) (j := ir66) Try.func66 rfl fit66 (Nat.le_of_ble_eq_true rfl) (by kernel_rfl) prog_mixed ?_
  intro g2 F hg2 hF
  obtain rfl : g2 = g := hg2.unique.trans hg.symm
  clear hg2
  obtain ⟨wrap, lt, le, eq, quo, rem, band, bor, bxor, shl, shr, nat, int, add, sub, mul, cat, seq, slt, sub3, byte, llen, nadd, nsub, dlen, dapp, dset, drep, rd, rda, up, rsub, dsub, all, sle, slen, hasI, putI, hasS, putS, imin, imax, fzc, bstr⟩ := g2
  obtain ⟨r_Leg, d_Leg, r_I64, d_I64, r_Booking, d_Booking, r_Trip, d_Trip, r_S, d_S, r_LI64, d_LI64, r_U8, d_U8, r_Fd⟩ := t
  obtain ⟨a0_Legs, a0_Off, a0_Change⟩ := a0
  unfold S_EarliestAt at h
  try dsimp only at h
  cbv
  obtain ⟨x1, hx1, h⟩ := of_cl h
  try dsimp only at h
  refine ACall.mk _ _ rfl (hF _ _ _ (c_S_PlacesOf hg ht hx1)) (.inl rfl) (Nat.le_of_ble_eq_true rfl) ?_
  cbv
  refine AStep.mk (lend_S ht (dlen_S hg ht _)) ?_
  cbv
  obtain ⟨x2, hx2, h⟩ := of_lP h
  try dsimp only at h
  refine ACall.mk _ _ (by rw [show rd (d_S x1) 0 (dlen (d_S x1)) = r_S x1 from rdw_S hg ht (dlen_S hg ht _)]; try rfl) (hF _ _ _ (c_S_l4Index hg ht hx2)) (.inr rfl) (Nat.le_of_ble_eq_true rfl) ?_
  cbv
  obtain ⟨x3, hx3, h⟩ := of_cl h
  try dsimp only at h
  refine ACall.mk _ _ rfl (hF _ _ _ (c_S_BestArrivals hg ht hx3)) (.inl rfl) (Nat.le_of_ble_eq_true rfl) ?_
  cbv
  cases hb1 : (lt x2 0) with
  | true =>
    rw [br_true hb1] at h
    cbv
    try (rw [hb1]; cbv)
    try (rw [hb1]; cbv)
    try (rw [hb1]; cbv)
    obtain rfl := Option.some.inj h
    exact ARet.mk trivial hX.symm
  | false =>
    rw [br_false hb1] at h
    cbv
    try (rw [hb1]; cbv)
    try (rw [hb1]; cbv)
    try (rw [hb1]; cbv)
    cases hb2 : (eq (int (dlen (d_I64 x3))) 0) with
    | true =>
      rw [br_true hb2] at h
      cbv
      obtain rfl := Option.some.inj h
      exact ARet.mk trivial hX.symm
    | false =>
      rw [br_false hb2] at h
      cbv
      obtain ⟨hc1, h⟩ := of_gd h
      refine AStep.mk hc1 ?_
      cbv
      obtain ⟨x4, hx4, h⟩ := of_gt h
      try dsimp only at h
      refine AGet.mk _ (d_get_I64 hg ht hx4) ?_
      cbv
      obtain rfl := Option.some.inj h
      exact ARet.mk trivial hX.symm
end Go.Vs
namespace Go.Vs
set_option maxRecDepth 100000
def ir35 : J :=
  .seq (.reg none [⟨(some 3), none, .box (.t 0)⟩,
     ⟨(some 4), none, .box (.t 1)⟩,
     ⟨(some 6), none, .mv (.k (V.i 0))⟩] [2, 3, 4])
  (.seq (.seq (.reg none [⟨(some 7), none, .fa 0 (.t 4)⟩,
      ⟨(some 8), none, .ld false 1 (.t 7)⟩,
      ⟨(some 9), none, .mv (.t 2)⟩,
      ⟨(some 10), none, .bin .eql .s (.t 8) (.t 9)⟩] [2, 3, 4, 10])
   (.cond (.t 10)
    (.seq (.reg none [⟨(some 11), none, .fa 1 (.t 4)⟩,
        ⟨(some 12), none, .ld false 1 (.t 11)⟩,
        ⟨(some 6), none, .mv (.t 12)⟩] [6])
     (.ret))
    (.skip)))
  (.seq (.reg none [⟨(some 13), none, .ld true 3 (.t 3)⟩,
     ⟨(some 14), none, .fa 0 (.t 4)⟩,
     ⟨(some 15), none, .ld false 1 (.t 14)⟩,
     ⟨(some 16), none, .mv (.t 2)⟩,
     ⟨(some 17), none, .fa 1 (.t 4)⟩,
     ⟨(some 18), none, .ld false 1 (.t 17)⟩,
     ⟨(some 19), none, .call 66 true [(.t 13), (.t 15), (.t 16), (.t 18)]⟩,
     ⟨(some 6), none, .mv (.t 19)⟩] [6])
  (.ret)))
def rv35 : List RV := [.t 6]
open Go.Proofs Go.IntWalk
set_option linter.unusedVariables false
set_option maxRecDepth 100000
set_option maxHeartbeats 4000000
def S_l8Reach (g : G) (t : TE) (a0 : Network) (a1 : Spot) (a2 : ByteArray) : Option Int :=
  br (g.seq a1.Place a2)
  (
   some a1.At)
  (
   cl (S_EarliestAt g t a0 a1.Place a2 a1.At) fun x1 =>
   some x1)
theorem fit35 : codeFit Try.prog Try.f35.ntmps (Try.f35.body.getD .skip) ir35 = true := by kernel_rfl
theorem c_S_l8Reach {g : G} {t : TE} {a0 : Network} {a1 : Spot} {a2 : ByteArray} {r : Int} (hg : g = G.real) (ht : t = TE.real) (h : S_l8Reach g t a0 a1 a2 = some r) : Fn Try.prog 35 [.g (Network.rs t a0), .g (Spot.rs t a1), .c (.v (.string a2))] (.c (.r (.v (.int .i64 r)))) := by
  obtain ⟨X, hX⟩ := hide (.c (.r (.v (.int .i64 r))) : X)
  rw [← hX]
  refine fn_of (rvs := rv35) (j := ir35) Try.func35 rfl fit35 (Nat.le_of_ble_eq_true rfl) (by kernel_rfl) prog_mixed ?_
  intro g2 F hg2 hF
  obtain rfl : g2 = g := hg2.unique.trans hg.symm
  clear hg2
  obtain ⟨wrap, lt, le, eq, quo, rem, band, bor, bxor, shl, shr, nat, int, add, sub, mul, cat, seq, slt, sub3, byte, llen, nadd, nsub, dlen, dapp, dset, drep, rd, rda, up, rsub, dsub, all, sle, slen, hasI, putI, hasS, putS, imin, imax, fzc, bstr⟩ := g2
  obtain ⟨r_Leg, d_Leg, r_I64, d_I64, r_Booking, d_Booking, r_Trip, d_Trip, r_S, d_S, r_LI64, d_LI64, r_U8, d_U8, r_Fd⟩ := t
  obtain ⟨a0_Legs, a0_Off, a0_Change⟩ := a0
  obtain ⟨a1_Place, a1_At⟩ := a1
  unfold S_l8Reach at h
  try dsimp only at h
  cbv
  cases hb1 : (seq a1_Place a2) with
  | true =>
    rw [br_true hb1] at h
    cbv
    obtain rfl := Option.some.inj h
    exact ARet.mk trivial hX.symm
  | false =>
    rw [br_false hb1] at h
    cbv
    obtain ⟨x1, hx1, h⟩ := of_cl h
    try dsimp only at h
    refine ACall.mk _ _ rfl (hF _ _ _ (c_S_EarliestAt hg ht hx1)) (.inl rfl) (Nat.le_of_ble_eq_true rfl) ?_
    cbv
    obtain rfl := Option.some.inj h
    exact ARet.mk trivial hX.symm
end Go.Vs
namespace Go.Vs
set_option maxRecDepth 100000
def ir67 (s_k0 : ByteArray) : J :=
  .seq (.reg none [⟨(some 2), none, .box (.t 0)⟩,
     ⟨(some 3), none, .box (.t 1)⟩,
     ⟨(some 4), none, .mv (.k (.c (.r (.v (.string s_k0)))))⟩] [2, 3])
  (.seq (.block 0 (.seq (.reg none [⟨(some 6), none, .ld true 3 (.t 2)⟩,
       ⟨(some 7), none, .ld true 6 (.t 3)⟩,
       ⟨(some 8), none, .call 32 true [(.t 6), (.t 7)]⟩,
       ⟨(some 9), none, .not (.t 8)⟩,
       ⟨(some 5), none, .mv (.t 9)⟩] [2, 3, 5])
    (.cond (.t 5)
     (.seq (.reg none [⟨(some 4), none, .mv (.k (.c (.r (.v (.string s_k0)))))⟩] [4])
      (.ret))
     (.seq (.reg none [⟨(some 11), none, .fa 2 (.t 3)⟩,
         ⟨(some 12), none, .ld false 1 (.t 11)⟩,
         ⟨(some 13), none, .bin .eql .i (.t 12) (.k (V.i 3))⟩,
         ⟨(some 10), none, .mv (.t 13)⟩] [2, 3, 10])
      (.cond (.t 10)
       (.seq (.reg none [⟨(some 14), none, .fa 0 (.t 2)⟩,
           ⟨(some 15), none, .ld false 1 (.t 14)⟩,
           ⟨(some 16), none, .fa 4 (.t 3)⟩,
           ⟨(some 17), none, .fa 0 (.t 16)⟩,
           ⟨(some 18), none, .ld false 1 (.t 17)⟩,
           ⟨(some 19), none, .ia 6 (.t 15) (.t 18)⟩,
           ⟨(some 20), none, .fa 0 (.t 19)⟩,
           ⟨(some 21), none, .ld false 1 (.t 20)⟩,
           ⟨(some 4), none, .mv (.t 21)⟩] [4])
        (.ret))
       (.seq (.reg none [⟨(some 23), none, .fa 2 (.t 3)⟩,
           ⟨(some 24), none, .ld false 1 (.t 23)⟩,
           ⟨(some 25), none, .bin .eql .i (.t 24) (.k (V.i 2))⟩,
           ⟨(some 22), none, .mv (.t 25)⟩] [2, 3, 22])
        (.cond (.t 22)
         (.seq (.reg none [⟨(some 26), none, .fa 0 (.t 2)⟩,
             ⟨(some 27), none, .ld false 1 (.t 26)⟩,
             ⟨(some 28), none, .fa 4 (.t 3)⟩,
             ⟨(some 29), none, .fa 0 (.t 28)⟩,
             ⟨(some 30), none, .ld false 1 (.t 29)⟩,
             ⟨(some 31), none, .ia 6 (.t 27) (.t 30)⟩,
             ⟨(some 32), none, .fa 1 (.t 31)⟩,
             ⟨(some 33), none, .ld false 1 (.t 32)⟩,
             ⟨(some 4), none, .mv (.t 33)⟩] [4])
          (.ret))
         (.skip))))))))
  (.seq (.reg none [⟨(some 34), none, .fa 3 (.t 3)⟩,
     ⟨(some 35), none, .ld false 1 (.t 34)⟩,
     ⟨(some 4), none, .mv (.t 35)⟩] [4])
  (.ret)))
def rv67 : List RV := [.t 4]
open Go.Proofs Go.IntWalk
set_option linter.unusedVariables false
set_option maxRecDepth 100000
set_option maxHeartbeats 4000000
def S_PlaceOf (g : G) (t : TE) (a0 : Network) (a1 : Scan) : Option ByteArray :=
  cl (S_IsScan g t a0 (Scan.mk a1.Thing a1.At a1.Kind a1.Place (Trip.mk a1.Trip.Leg a1.Trip.Day))) fun x1 =>
  br x1
  (
   br (g.eq a1.Kind 3)
   (
    gd (((0 : Int) ≤ a1.Trip.Leg)) <|
    gt a0.Legs (g.nat a1.Trip.Leg) fun x2 =>
    some x2.From)
   (
    br (g.eq a1.Kind 2)
    (
     gd (((0 : Int) ≤ a1.Trip.Leg)) <|
     gt a0.Legs (g.nat a1.Trip.Leg) fun x3 =>
     some x3.To)
    (
     some a1.Place)))
  (
   some str_k0)
theorem fit67 : codeFit Try.prog Try.f67.ntmps (Try.f67.body.getD .skip) (ir67 str_k0) = true := by kernel_rfl
theorem c_S_PlaceOf {g : G} {t : TE} {a0 : Network} {a1 : Scan} {r : ByteArray} (hg : g = G.real) (ht : t = TE.real) (h : S_PlaceOf g t a0 a1 = some r) : Fn Try.prog 67 [.g (Network.rs t a0), .g (Scan.rs t a1)] (.c (.r (.v (.string r)))) := by
  obtain ⟨X, hX⟩ := hide (.c (.r (.v (.string r))) : X)
  rw [← hX]
  refine fn_of (rvs := rv67) (j := (ir67 str_k0)) Try.func67 rfl fit67 (Nat.le_of_ble_eq_true rfl) (by kernel_rfl) prog_mixed ?_
  intro g2 F hg2 hF
  obtain rfl : g2 = g := hg2.unique.trans hg.symm
  clear hg2
  obtain ⟨wrap, lt, le, eq, quo, rem, band, bor, bxor, shl, shr, nat, int, add, sub, mul, cat, seq, slt, sub3, byte, llen, nadd, nsub, dlen, dapp, dset, drep, rd, rda, up, rsub, dsub, all, sle, slen, hasI, putI, hasS, putS, imin, imax, fzc, bstr⟩ := g2
  obtain ⟨r_Leg, d_Leg, r_I64, d_I64, r_Booking, d_Booking, r_Trip, d_Trip, r_S, d_S, r_LI64, d_LI64, r_U8, d_U8, r_Fd⟩ := t
  obtain ⟨a0_Legs, a0_Off, a0_Change⟩ := a0
  obtain ⟨a1_Thing, a1_At, a1_Kind, a1_Place, ⟨a1_Trip_Leg, a1_Trip_Day⟩⟩ := a1
  unfold S_PlaceOf at h
  try dsimp only at h
  obtain ⟨s_k0, hs_k0⟩ : ∃ s, str_k0 = s := ⟨_, rfl⟩
  try rw [hs_k0] at h
  rw [hs_k0]
  cbv
  obtain ⟨x1, hx1, h⟩ := of_cl h
  try dsimp only at h
  refine ACall.mk _ _ rfl (hF _ _ _ (c_S_IsScan hg ht hx1)) (.inl rfl) (Nat.le_of_ble_eq_true rfl) ?_
  cbv
  cases hb1 : x1 with
  | true =>
    rw [br_true hb1] at h
    cbv
    cases hb2 : (eq a1_Kind 3) with
    | true =>
      rw [br_true hb2] at h
      cbv
      obtain ⟨hc1, h⟩ := of_gd h
      refine AStep.mk hc1 ?_
      cbv
      obtain ⟨x2, hx2, h⟩ := of_gt h
      obtain ⟨x2_From, x2_To, x2_Start, x2_Takes, x2_Days, x2_Room⟩ := x2
      try dsimp only at h
      refine AGet.mk _ (r_get_Leg hg ht hx2) ?_
      cbv
      obtain rfl := Option.some.inj h
      exact ARet.mk trivial hX.symm
    | false =>
      rw [br_false hb2] at h
      cbv
      cases hb3 : (eq a1_Kind 2) with
      | true =>
        rw [br_true hb3] at h
        cbv
        obtain ⟨hc2, h⟩ := of_gd h
        refine AStep.mk hc2 ?_
        cbv
        obtain ⟨x3, hx3, h⟩ := of_gt h
        obtain ⟨x3_From, x3_To, x3_Start, x3_Takes, x3_Days, x3_Room⟩ := x3
        try dsimp only at h
        refine AGet.mk _ (r_get_Leg hg ht hx3) ?_
        cbv
        obtain rfl := Option.some.inj h
        exact ARet.mk trivial hX.symm
      | false =>
        rw [br_false hb3] at h
        cbv
        obtain rfl := Option.some.inj h
        exact ARet.mk trivial hX.symm
  | false =>
    rw [br_false hb1] at h
    cbv
    obtain rfl := Option.some.inj h
    exact ARet.mk trivial hX.symm
end Go.Vs
namespace Go.Vs
set_option maxRecDepth 100000
def ir36 : J :=
  .seq (.reg none [⟨(some 2), none, .box (.t 0)⟩,
     ⟨(some 3), none, .box (.t 1)⟩,
     ⟨(some 4), none, .alloc [.r (.v (.string .empty)), .r (.v (.int .i64 0))]⟩] [2, 3, 4])
  (.seq (.block 0 (.seq (.reg none [⟨(some 6), none, .ld true 3 (.t 2)⟩,
       ⟨(some 7), none, .ld true 6 (.t 3)⟩,
       ⟨(some 8), none, .call 32 true [(.t 6), (.t 7)]⟩,
       ⟨(some 9), none, .not (.t 8)⟩,
       ⟨(some 5), none, .mv (.t 9)⟩] [2, 3, 4, 5])
    (.cond (.t 5)
     (.seq (.reg none [⟨(some 10), none, .bld [.r (.v (.string .empty)), .r (.v (.int .i64 0))] []⟩,
         ⟨none, none, .st 2 (.t 4) (.t 10)⟩] [4])
      (.ret))
     (.seq (.reg none [⟨(some 12), none, .fa 2 (.t 3)⟩,
         ⟨(some 13), none, .ld false 1 (.t 12)⟩,
         ⟨(some 14), none, .bin .eql .i (.t 13) (.k (V.i 3))⟩,
         ⟨(some 11), none, .mv (.t 14)⟩] [2, 3, 4, 11])
      (.cond (.t 11)
       (.seq (.reg (some [[], [0], [], [2], [2, 3], [0, 1, 2, 3, 4], [0, 1, 2, 3, 4, 5], [0, 1, 2, 3, 4, 5, 6], [], [], [9], [8, 9, 10], [0, 1, 2, 3, 4, 5, 6, 7, 8, 9, 10, 11], [0, 1, 2, 3, 4, 5, 6, 7, 8, 9, 10, 11, 12]]) [⟨(some 15), none, .fa 0 (.t 2)⟩,
           ⟨(some 16), none, .ld false 1 (.t 15)⟩,
           ⟨(some 17), none, .fa 4 (.t 3)⟩,
           ⟨(some 18), none, .fa 0 (.t 17)⟩,
           ⟨(some 19), none, .ld false 1 (.t 18)⟩,
           ⟨(some 20), none, .ia 6 (.t 16) (.t 19)⟩,
           ⟨(some 21), none, .fa 1 (.t 20)⟩,
           ⟨(some 22), none, .ld false 1 (.t 21)⟩,
           ⟨(some 23), none, .ld true 3 (.t 2)⟩,
           ⟨(some 24), none, .fa 4 (.t 3)⟩,
           ⟨(some 25), none, .ld true 2 (.t 24)⟩,
           ⟨(some 26), none, .call 65 true [(.t 23), (.t 25)]⟩,
           ⟨(some 27), none, .bld [.r (.v (.string .empty)), .r (.v (.int .i64 0))] [(0, 1, (.t 22)), (1, 1, (.t 26))]⟩,
           ⟨none, none, .st 2 (.t 4) (.t 27)⟩] [4])
        (.ret))
       (.skip))))))
  (.seq (.reg (some [[], [], [0, 1], [], [3], [0, 1, 2, 3, 4], [0, 1, 2, 3, 4, 5]]) [⟨(some 28), none, .ld true 3 (.t 2)⟩,
     ⟨(some 29), none, .ld true 6 (.t 3)⟩,
     ⟨(some 30), none, .call 67 true [(.t 28), (.t 29)]⟩,
     ⟨(some 31), none, .fa 1 (.t 3)⟩,
     ⟨(some 32), none, .ld false 1 (.t 31)⟩,
     ⟨(some 33), none, .bld [.r (.v (.string .empty)), .r (.v (.int .i64 0))] [(0, 1, (.t 30)), (1, 1, (.t 32))]⟩,
     ⟨none, none, .st 2 (.t 4) (.t 33)⟩] [4])
  (.ret)))
def rv36 : List RV := [.c 4 true 2]
open Go.Proofs Go.IntWalk
set_option linter.unusedVariables false
set_option maxRecDepth 100000
set_option maxHeartbeats 4000000
def S_SpotBehind (g : G) (t : TE) (a0 : Network) (a1 : Scan) : Option Spot :=
  cl (S_IsScan g t a0 (Scan.mk a1.Thing a1.At a1.Kind a1.Place (Trip.mk a1.Trip.Leg a1.Trip.Day))) fun x1 =>
  br x1
  (
   br (g.eq a1.Kind 3)
   (
    gd (((0 : Int) ≤ a1.Trip.Leg)) <|
    gt a0.Legs (g.nat a1.Trip.Leg) fun x2 =>
    cl (S_l3Ends g t a0 (Trip.mk a1.Trip.Leg a1.Trip.Day)) fun x3 =>
    some (Spot.mk x2.To x3))
   (
    cl (S_PlaceOf g t a0 (Scan.mk a1.Thing a1.At a1.Kind a1.Place (Trip.mk a1.Trip.Leg a1.Trip.Day))) fun x4 =>
    some (Spot.mk x4 a1.At)))
  (
   some (Spot.mk ByteArray.empty 0))
theorem fit36 : codeFit Try.prog Try.f36.ntmps (Try.f36.body.getD .skip) ir36 = true := by kernel_rfl
theorem c_S_SpotBehind {g : G} {t : TE} {a0 : Network} {a1 : Scan} {r : Spot} (hg : g = G.real) (ht : t = TE.real) (h : S_SpotBehind g t a0 a1 = some r) : Fn Try.prog 36 [.g (Network.rs t a0), .g (Scan.rs t a1)] (.g (Spot.ds t r)) := by
  obtain ⟨X, hX⟩ := hide (.g (Spot.ds t r) : X)
  rw [← hX]
  refine fn_of (rvs := rv36) (j := ir36) Try.func36 rfl fit36 (Nat.le_of_ble_eq_true rfl) (by kernel_rfl) prog_mixed ?_
  intro g2 F hg2 hF
  obtain rfl : g2 = g := hg2.unique.trans hg.symm
  clear hg2
  obtain ⟨wrap, lt, le, eq, quo, rem, band, bor, bxor, shl, shr, nat, int, add, sub, mul, cat, seq, slt, sub3, byte, llen, nadd, nsub, dlen, dapp, dset, drep, rd, rda, up, rsub, dsub, all, sle, slen, hasI, putI, hasS, putS, imin, imax, fzc, bstr⟩ := g2
  obtain ⟨r_Leg, d_Leg, r_I64, d_I64, r_Booking, d_Booking, r_Trip, d_Trip, r_S, d_S, r_LI64, d_LI64, r_U8, d_U8, r_Fd⟩ := t
  obtain ⟨a0_Legs, a0_Off, a0_Change⟩ := a0
  obtain ⟨a1_Thing, a1_At, a1_Kind, a1_Place, ⟨a1_Trip_Leg, a1_Trip_Day⟩⟩ := a1
  unfold S_SpotBehind at h
  try dsimp only at h
  cbv
  obtain ⟨x1, hx1, h⟩ := of_cl h
  try dsimp only at h
  refine ACall.mk _ _ rfl (hF _ _ _ (c_S_IsScan hg ht hx1)) (.inl rfl) (Nat.le_of_ble_eq_true rfl) ?_
  cbv
  cases hb1 : x1 with
  | true =>
    rw [br_true hb1] at h
    cbv
    cases hb2 : (eq a1_Kind 3) with
    | true =>
      rw [br_true hb2] at h
      cbv
      obtain ⟨hc1, h⟩ := of_gd h
      refine AStep.mk hc1 ?_
      cbv
      obtain ⟨x2, hx2, h⟩ := of_gt h
      obtain ⟨x2_From, x2_To, x2_Start, x2_Takes, x2_Days, x2_Room⟩ := x2
      try dsimp only at h
      refine AGet.mk _ (r_get_Leg hg ht hx2) ?_
      cbv
      obtain ⟨x3, hx3, h⟩ := of_cl h
      try dsimp only at h
      refine ACall.mk _ _ rfl (hF _ _ _ (c_S_l3Ends hg ht hx3)) (.inl rfl) (Nat.le_of_ble_eq_true rfl) ?_
      cbv
      obtain rfl := Option.some.inj h
      exact ARet.mk trivial hX.symm
    | false =>
      rw [br_false hb2] at h
      cbv
      obtain ⟨x4, hx4, h⟩ := of_cl h
      try dsimp only at h
      refine ACall.mk _ _ rfl (hF _ _ _ (c_S_PlaceOf hg ht hx4)) (.inl rfl) (Nat.le_of_ble_eq_true rfl) ?_
      cbv
      obtain rfl := Option.some.inj h
      exact ARet.mk trivial hX.symm
  | false =>
    rw [br_false hb1] at h
    cbv
    obtain rfl := Option.some.inj h
    exact ARet.mk trivial hX.symm
end Go.Vs
namespace Go.Vs
set_option maxRecDepth 100000
def ir8 : J :=
  .seq (.reg none [⟨(some 3), none, .box (.t 0)⟩,
     ⟨(some 4), none, .box (.t 1)⟩,
     ⟨(some 5), none, .box (.t 2)⟩,
     ⟨(some 6), none, .mv (.k (V.b false))⟩] [3, 4, 5])
  (.seq (.seq (.reg none [⟨(some 9), none, .ld true 3 (.t 3)⟩,
      ⟨(some 10), none, .ld true 6 (.t 4)⟩,
      ⟨(some 11), none, .call 32 true [(.t 9), (.t 10)]⟩,
      ⟨(some 12), none, .not (.t 11)⟩,
      ⟨(some 13), none, .mv (.t 12)⟩,
      ⟨(some 14), (some (13, false)), .ld true 3 (.t 3)⟩,
      ⟨(some 15), (some (13, false)), .ld true 6 (.t 5)⟩,
      ⟨(some 16), (some (13, false)), .call 32 true [(.t 14), (.t 15)]⟩,
      ⟨(some 17), (some (13, false)), .not (.t 16)⟩,
      ⟨(some 18), none, .pick (.t 13) (.k (V.b true)) (.t 17)⟩,
      ⟨(some 19), none, .mv (.t 18)⟩,
      ⟨(some 20), (some (19, false)), .fa 0 (.t 4)⟩,
      ⟨(some 21), (some (19, false)), .ld false 1 (.t 20)⟩,
      ⟨(some 22), (some (19, false)), .fa 0 (.t 5)⟩,
      ⟨(some 23), (some (19, false)), .ld false 1 (.t 22)⟩,
      ⟨(some 24), (some (19, false)), .bin .neq .i (.t 21) (.t 23)⟩,
      ⟨(some 25), none, .pick (.t 19) (.k (V.b true)) (.t 24)⟩,
      ⟨(some 26), none, .mv (.t 25)⟩,
      ⟨(some 27), (some (26, false)), .fa 2 (.t 4)⟩,
      ⟨(some 28), (some (26, false)), .ld false 1 (.t 27)⟩,
      ⟨(some 29), (some (26, false)), .bin .eql .i (.t 28) (.k (V.i 4))⟩,
      ⟨(some 30), none, .pick (.t 26) (.k (V.b true)) (.t 29)⟩,
      ⟨(some 31), none, .mv (.t 30)⟩,
      ⟨(some 32), (some (31, false)), .ld true 6 (.t 4)⟩,
      ⟨(some 33), (some (31, false)), .ld true 6 (.t 5)⟩,
      ⟨(some 34), (some (31, false)), .call 33 true [(.t 32), (.t 33)]⟩,
      ⟨(some 35), (some (31, false)), .bin .geq .i (.t 34) (.k (V.i 0))⟩,
      ⟨(some 36), none, .pick (.t 31) (.k (V.b true)) (.t 35)⟩] [3, 4, 5, 36])
   (.cond (.t 36)
    (.seq (.reg none [⟨(some 6), none, .mv (.k (V.b false))⟩] [6])
     (.ret))
    (.skip)))
  (.seq (.seq (.reg none [⟨(some 37), none, .fa 2 (.t 4)⟩,
      ⟨(some 38), none, .ld false 1 (.t 37)⟩,
      ⟨(some 39), none, .bin .eql .i (.t 38) (.k (V.i 3))⟩,
      ⟨(some 40), none, .mv (.t 39)⟩,
      ⟨(some 41), (some (40, true)), .fa 2 (.t 5)⟩,
      ⟨(some 42), (some (40, true)), .ld false 1 (.t 41)⟩,
      ⟨(some 43), (some (40, true)), .bin .eql .i (.t 42) (.k (V.i 2))⟩,
      ⟨(some 44), none, .pick (.t 40) (.t 43) (.k (V.b false))⟩,
      ⟨(some 45), none, .mv (.t 44)⟩,
      ⟨(some 46), (some (45, true)), .fa 4 (.t 4)⟩,
      ⟨(some 47), (some (45, true)), .ld true 2 (.t 46)⟩,
      ⟨(some 48), (some (45, true)), .fa 4 (.t 5)⟩,
      ⟨(some 49), (some (45, true)), .ld true 2 (.t 48)⟩,
      ⟨(some 50), (some (45, true)), .eqs false [.i, .i] (.t 47) (.t 49)⟩,
      ⟨(some 51), none, .pick (.t 45) (.t 50) (.k (V.b false))⟩] [3, 4, 5, 51])
   (.cond (.t 51)
    (.seq (.reg none [⟨(some 6), none, .mv (.k (V.b true))⟩] [6])
     (.ret))
    (.skip)))
  (.seq (.reg none [⟨(some 52), none, .ld true 3 (.t 3)⟩,
     ⟨(some 53), none, .ld true 6 (.t 5)⟩,
     ⟨(some 54), none, .call 34 true [(.t 52), (.t 53)]⟩,
     ⟨(some 7), none, .alloc [.r (.v (.string .empty)), .r (.v (.int .i64 0))]⟩,
     ⟨none, none, .st 2 (.t 7) (.t 54)⟩] [3, 4, 7])
  (.seq (.reg (some [[], [], [], [1, 2], [], [4], [0, 1, 2, 3, 4, 5], [0, 1, 2, 3, 4, 5, 6]]) [⟨(some 55), none, .ld true 3 (.t 3)⟩,
     ⟨(some 56), none, .ld true 3 (.t 3)⟩,
     ⟨(some 57), none, .ld true 6 (.t 4)⟩,
     ⟨(some 58), none, .call 36 true [(.t 56), (.t 57)]⟩,
     ⟨(some 59), none, .fa 0 (.t 7)⟩,
     ⟨(some 60), none, .ld false 1 (.t 59)⟩,
     ⟨(some 61), none, .call 35 true [(.t 55), (.t 58), (.t 60)]⟩,
     ⟨(some 8), none, .mv (.t 61)⟩] [7, 8])
  (.seq (.reg none [⟨(some 62), none, .mv (.t 8)⟩,
     ⟨(some 63), none, .bin .geq .i (.t 62) (.k (V.i 0))⟩,
     ⟨(some 64), none, .mv (.t 63)⟩,
     ⟨(some 65), (some (64, true)), .mv (.t 8)⟩,
     ⟨(some 66), (some (64, true)), .fa 1 (.t 7)⟩,
     ⟨(some 67), (some (64, true)), .ld false 1 (.t 66)⟩,
     ⟨(some 68), (some (64, true)), .bin .leq .i (.t 65) (.t 67)⟩,
     ⟨(some 69), none, .pick (.t 64) (.t 68) (.k (V.b false))⟩,
     ⟨(some 6), none, .mv (.t 69)⟩] [6])
  (.ret))))))
def rv8 : List RV := [.t 6]
open Go.Proofs Go.IntWalk
set_option linter.unusedVariables false
set_option maxRecDepth 100000
set_option maxHeartbeats 4000000
def S_CanFollow (g : G) (t : TE) (a0 : Network) (a1 : Scan) (a2 : Scan) : Option Bool :=
  cl (S_IsScan g t a0 (Scan.mk a1.Thing a1.At a1.Kind a1.Place (Trip.mk a1.Trip.Leg a1.Trip.Day))) fun x1 =>
  br x1
  (
   cl (S_IsScan g t a0 (Scan.mk a2.Thing a2.At a2.Kind a2.Place (Trip.mk a2.Trip.Leg a2.Trip.Day))) fun x2 =>
   br x2
   (
    br (g.eq a1.Thing a2.Thing)
    (
     br (g.eq a1.Kind 4)
     (
      some false)
     (
      cl (S_CompareScans g t (Scan.mk a1.Thing a1.At a1.Kind a1.Place (Trip.mk a1.Trip.Leg a1.Trip.Day)) (Scan.mk a2.Thing a2.At a2.Kind a2.Place (Trip.mk a2.Trip.Leg a2.Trip.Day))) fun x3 =>
      br (g.le 0 x3)
      (
       some false)
      (
       br (g.eq a1.Kind 3)
       (
        br (g.eq a2.Kind 2)
        (
         br (g.all [(g.eq a1.Trip.Leg a2.Trip.Leg), (g.eq a1.Trip.Day a2.Trip.Day)])
         (
          some true)
         (
          cl (S_SpotBefore g t a0 (Scan.mk a2.Thing a2.At a2.Kind a2.Place (Trip.mk a2.Trip.Leg a2.Trip.Day))) fun x4 =>
          cl (S_SpotBehind g t a0 (Scan.mk a1.Thing a1.At a1.Kind a1.Place (Trip.mk a1.Trip.Leg a1.Trip.Day))) fun x5 =>
          cl (S_l8Reach g t a0 x5 x4.Place) fun x6 =>
          br (g.le 0 x6)
          (
           some (g.le x6 x4.At))
          (
           some false)))
        (
         cl (S_SpotBefore g t a0 (Scan.mk a2.Thing a2.At a2.Kind a2.Place (Trip.mk a2.Trip.Leg a2.Trip.Day))) fun x7 =>
         cl (S_SpotBehind g t a0 (Scan.mk a1.Thing a1.At a1.Kind a1.Place (Trip.mk a1.Trip.Leg a1.Trip.Day))) fun x8 =>
         cl (S_l8Reach g t a0 x8 x7.Place) fun x9 =>
         br (g.le 0 x9)
         (
          some (g.le x9 x7.At))
         (
          some false)))
       (
        cl (S_SpotBefore g t a0 (Scan.mk a2.Thing a2.At a2.Kind a2.Place (Trip.mk a2.Trip.Leg a2.Trip.Day))) fun x10 =>
        cl (S_SpotBehind g t a0 (Scan.mk a1.Thing a1.At a1.Kind a1.Place (Trip.mk a1.Trip.Leg a1.Trip.Day))) fun x11 =>
        cl (S_l8Reach g t a0 x11 x10.Place) fun x12 =>
        br (g.le 0 x12)
        (
         some (g.le x12 x10.At))
        (
         some false)))))
    (
     some false))
   (
    some false))
  (
   some false)
theorem fit8 : codeFit Try.prog Try.f8.ntmps (Try.f8.body.getD .skip) ir8 = true := by kernel_rfl
theorem c_S_CanFollow {g : G} {t : TE} {a0 : Network} {a1 : Scan} {a2 : Scan} {r : Bool} (hg : g = G.real) (ht : t = TE.real) (h : S_CanFollow g t a0 a1 a2 = some r) : Fn Try.prog 8 [.g (Network.rs t a0), .g (Scan.rs t a1), .g (Scan.rs t a2)] (.c (.r (.v (.bool r)))) := by
  obtain ⟨X, hX⟩ := hide (.c (.r (.v (.bool r))) : X)
  rw [← hX]
  refine fn_of (rvs := rv8) (j := ir8) Try.func8 rfl fit8 (Nat.le_of_ble_eq_true rfl) (by kernel_rfl) prog_mixed ?_
  intro g2 F hg2 hF
  obtain rfl : g2 = g := hg2.unique.trans hg.symm
  clear hg2
  obtain ⟨wrap, lt, le, eq, quo, rem, band, bor, bxor, shl, shr, nat, int, add, sub, mul, cat, seq, slt, sub3, byte, llen, nadd, nsub, dlen, dapp, dset, drep, rd, rda, up, rsub, dsub, all, sle, slen, hasI, putI, hasS, putS, imin, imax, fzc, bstr⟩ := g2
  obtain ⟨r_Leg, d_Leg, r_I64, d_I64, r_Booking, d_Booking, r_Trip, d_Trip, r_S, d_S, r_LI64, d_LI64, r_U8, d_U8, r_Fd⟩ := t
  obtain ⟨a0_Legs, a0_Off, a0_Change⟩ := a0
  obtain ⟨a1_Thing, a1_At, a1_Kind, a1_Place, ⟨a1_Trip_Leg, a1_Trip_Day⟩⟩ := a1
  obtain ⟨a2_Thing, a2_At, a2_Kind, a2_Place, ⟨a2_Trip_Leg, a2_Trip_Day⟩⟩ := a2
  unfold S_CanFollow at h
  try dsimp only at h
  cbv
  obtain ⟨x1, hx1, h⟩ := of_cl h
  try dsimp only at h
  refine ACall.mk _ _ rfl (hF _ _ _ (c_S_IsScan hg ht hx1)) (.inl rfl) (Nat.le_of_ble_eq_true rfl) ?_
  cbv
  cases hb1 : x1 with
  | true =>
    rw [br_true hb1] at h
    cbv
    try (rw [hb1]; cbv)
    try (rw [hb1]; cbv)
    obtain ⟨x2, hx2, h⟩ := of_cl h
    try dsimp only at h
    refine ACall.mk _ _ rfl (hF _ _ _ (c_S_IsScan hg ht hx2)) (.inl rfl) (Nat.le_of_ble_eq_true rfl) ?_
    cbv
    try (rw [hb1]; cbv)
    try (rw [hb1]; cbv)
    cases hb2 : x2 with
    | true =>
      rw [br_true hb2] at h
      cbv
      try (rw [hb2]; cbv)
      try (rw [hb2]; cbv)
      try (rw [hb2]; cbv)
      try (rw [hb2]; cbv)
      try (rw [hb2]; cbv)
      cases hb3 : (eq a1_Thing a2_Thing) with
      | true =>
        rw [br_true hb3] at h
        cbv
        try (rw [hb3]; cbv)
        try (rw [hb3]; cbv)
        try (rw [hb3]; cbv)
        cases hb4 : (eq a1_Kind 4) with
        | true =>
          rw [br_true hb4] at h
          cbv
          try (rw [hb4]; cbv)
          try (rw [hb4]; cbv)
          try (rw [hb4]; cbv)
          try (rw [hb4]; cbv)
          obtain rfl := Option.some.inj h
          exact ARet.mk trivial hX.symm
        | false =>
          rw [br_false hb4] at h
          cbv
          try (rw [hb4]; cbv)
          try (rw [hb4]; cbv)
          obtain ⟨x3, hx3, h⟩ := of_cl h
          try dsimp only at h
          refine ACall.mk _ _ rfl (hF _ _ _ (c_S_CompareScans hg ht hx3)) (.inl rfl) (Nat.le_of_ble_eq_true rfl) ?_
          cbv
          try (rw [hb4]; cbv)
          try (rw [hb4]; cbv)
          cases hb5 : (le 0 x3) with
          | true =>
            rw [br_true hb5] at h
            cbv
            obtain rfl := Option.some.inj h
            exact ARet.mk trivial hX.symm
          | false =>
            rw [br_false hb5] at h
            cbv
            cases hb6 : (eq a1_Kind 3) with
            | true =>
              rw [br_true hb6] at h
              cbv
              try (rw [hb6]; cbv)
              try (rw [hb6]; cbv)
              try (rw [hb6]; cbv)
              cases hb7 : (eq a2_Kind 2) with
              | true =>
                rw [br_true hb7] at h
                cbv
                try (rw [hb7]; cbv)
                try (rw [hb7]; cbv)
                try (rw [hb7]; cbv)
                try (rw [hb7]; cbv)
                try (rw [hb7]; cbv)
                cases hb8 : (all [(eq a1_Trip_Leg a2_Trip_Leg), (eq a1_Trip_Day a2_Trip_Day)]) with
                | true =>
                  rw [br_true hb8] at h
                  cbv
                  obtain rfl := Option.some.inj h
                  exact ARet.mk trivial hX.symm
                | false =>
                  rw [br_false hb8] at h
                  cbv
                  obtain ⟨x4, hx4, h⟩ := of_cl h
                  obtain ⟨x4_Place, x4_At⟩ := x4
                  try dsimp only at h
                  refine ACall.mk _ _ rfl (hF _ _ _ (c_S_SpotBefore hg ht hx4)) (.inl rfl) (Nat.le_of_ble_eq_true rfl) ?_
                  cbv
                  obtain ⟨x5, hx5, h⟩ := of_cl h
                  obtain ⟨x5_Place, x5_At⟩ := x5
                  try dsimp only at h
                  refine ACall.mk _ _ rfl (hF _ _ _ (c_S_SpotBehind hg ht hx5)) (.inl rfl) (Nat.le_of_ble_eq_true rfl) ?_
                  cbv
                  obtain ⟨x6, hx6, h⟩ := of_cl h
                  try dsimp only at h
                  refine ACall.mk _ _ rfl (hF _ _ _ (c_S_l8Reach hg ht hx6)) (.inl rfl) (Nat.le_of_ble_eq_true rfl) ?_
                  cbv
                  cases hb9 : (le 0 x6) with
                  | true =>
                    rw [br_true hb9] at h
                    cbv
                    try (rw [hb9]; cbv)
                    try (rw [hb9]; cbv)
                    try (rw [hb9]; cbv)
                    try (rw [hb9]; cbv)
                    obtain rfl := Option.some.inj h
                    exact ARet.mk trivial hX.symm
                  | false =>
                    rw [br_false hb9] at h
                    cbv
                    try (rw [hb9]; cbv)
                    try (rw [hb9]; cbv)
                    try (rw [hb9]; cbv)
                    try (rw [hb9]; cbv)
                    obtain rfl := Option.some.inj h
                    exact ARet.mk trivial hX.symm
              | false =>
                rw [br_false hb7] at h
                cbv
                try (rw [hb7]; cbv)
                try (rw [hb7]; cbv)
                try (rw [hb7]; cbv)
                try (rw [hb7]; cbv)
                try (rw [hb7]; cbv)
                obtain ⟨x7, hx7, h⟩ := of_cl h
                obtain ⟨x7_Place, x7_At⟩ := x7
                try dsimp only at h
                refine ACall.mk _ _ rfl (hF _ _ _ (c_S_SpotBefore hg ht hx7)) (.inl rfl) (Nat.le_of_ble_eq_true rfl) ?_
                cbv
                obtain ⟨x8, hx8, h⟩ := of_cl h
                obtain ⟨x8_Place, x8_At⟩ := x8
                try dsimp only at h
                refine ACall.mk _ _ rfl (hF _ _ _ (c_S_SpotBehind hg ht hx8)) (.inl rfl) (Nat.le_of_ble_eq_true rfl) ?_
                cbv
                obtain ⟨x9, hx9, h⟩ := of_cl h
                try dsimp only at h
                refine ACall.mk _ _ rfl (hF _ _ _ (c_S_l8Reach hg ht hx9)) (.inl rfl) (Nat.le_of_ble_eq_true rfl) ?_
                cbv
                cases hb10 : (le 0 x9) with
                | true =>
                  rw [br_true hb10] at h
                  cbv
                  try (rw [hb10]; cbv)
                  try (rw [hb10]; cbv)
                  try (rw [hb10]; cbv)
                  try (rw [hb10]; cbv)
                  obtain rfl := Option.some.inj h
                  exact ARet.mk trivial hX.symm
                | false =>
                  rw [br_false hb10] at h
                  cbv
                  try (rw [hb10]; cbv)
                  try (rw [hb10]; cbv)
                  try (rw [hb10]; cbv)
                  try (rw [hb10]; cbv)
                  obtain rfl := Option.some.inj h
                  exact ARet.mk trivial hX.symm
            | false =>
              rw [br_false hb6] at h
              cbv
              try (rw [hb6]; cbv)
              try (rw [hb6]; cbv)
              try (rw [hb6]; cbv)
              obtain ⟨x10, hx10, h⟩ := of_cl h
              obtain ⟨x10_Place, x10_At⟩ := x10
              try dsimp only at h
              refine ACall.mk _ _ rfl (hF _ _ _ (c_S_SpotBefore hg ht hx10)) (.inl rfl) (Nat.le_of_ble_eq_true rfl) ?_
              cbv
              obtain ⟨x11, hx11, h⟩ := of_cl h
              obtain ⟨x11_Place, x11_At⟩ := x11
              try dsimp only at h
              refine ACall.mk _ _ rfl (hF _ _ _ (c_S_SpotBehind hg ht hx11)) (.inl rfl) (Nat.le_of_ble_eq_true rfl) ?_
              cbv
              obtain ⟨x12, hx12, h⟩ := of_cl h
              try dsimp only at h
              refine ACall.mk _ _ rfl (hF _ _ _ (c_S_l8Reach hg ht hx12)) (.inl rfl) (Nat.le_of_ble_eq_true rfl) ?_
              cbv
              cases hb11 : (le 0 x12) with
              | true =>
                rw [br_true hb11] at h
                cbv
                try (rw [hb11]; cbv)
                try (rw [hb11]; cbv)
                try (rw [hb11]; cbv)
                try (rw [hb11]; cbv)
                obtain rfl := Option.some.inj h
                exact ARet.mk trivial hX.symm
              | false =>
                rw [br_false hb11] at h
                cbv
                try (rw [hb11]; cbv)
                try (rw [hb11]; cbv)
                try (rw [hb11]; cbv)
                try (rw [hb11]; cbv)
                obtain rfl := Option.some.inj h
                exact ARet.mk trivial hX.symm
      | false =>
        rw [br_false hb3] at h
        cbv
        try (rw [hb3]; cbv)
        try (rw [hb3]; cbv)
        try (rw [hb3]; cbv)
        obtain rfl := Option.some.inj h
        exact ARet.mk trivial hX.symm
    | false =>
      rw [br_false hb2] at h
      cbv
      try (rw [hb2]; cbv)
      try (rw [hb2]; cbv)
      try (rw [hb2]; cbv)
      try (rw [hb2]; cbv)
      try (rw [hb2]; cbv)
      obtain rfl := Option.some.inj h
      exact ARet.mk trivial hX.symm
  | false =>
    rw [br_false hb1] at h
    cbv
    try (rw [hb1]; cbv)
    try (rw [hb1]; cbv)
    try (rw [hb1]; cbv)
    try (rw [hb1]; cbv)
    obtain rfl := Option.some.inj h
    exact ARet.mk trivial hX.symm
end Go.Vs
namespace Go.Vs
set_option maxRecDepth 100000
def ir68 : J :=
  .seq (.reg none [⟨(some 1), none, .box (.t 0)⟩,
     ⟨(some 2), none, .alloc [.r (.v (.string .empty)), .r (.v (.string .empty)), .r (.v (.int .i64 0)), .r (.v (.int .i64 0)), .r (.v (.int .i64 0)), .r (.v (.int .i64 0))]⟩] [1, 2])
  (.seq (.reg none [⟨(some 3), none, .alloc [.r (.v (.string .empty)), .r (.v (.string .empty)), .r (.v (.int .i64 0)), .r (.v (.int .i64 0)), .r (.v (.int .i64 0)), .r (.v (.int .i64 0))]⟩] [1, 2, 3])
  (.seq (.reg none [⟨(some 4), none, .fa 0 (.t 1)⟩,
     ⟨(some 5), none, .ld false 1 (.t 4)⟩,
     ⟨(some 6), none, .fa 0 (.t 3)⟩,
     ⟨none, none, .st 1 (.t 6) (.t 5)⟩] [1, 2, 3])
  (.seq (.reg none [⟨(some 7), none, .fa 1 (.t 1)⟩,
     ⟨(some 8), none, .ld false 1 (.t 7)⟩,
     ⟨(some 9), none, .fa 1 (.t 3)⟩,
     ⟨none, none, .st 1 (.t 9) (.t 8)⟩] [1, 2, 3])
  (.seq (.reg none [⟨(some 10), none, .fa 2 (.t 1)⟩,
     ⟨(some 11), none, .ld false 1 (.t 10)⟩,
     ⟨(some 12), none, .fa 2 (.t 3)⟩,
     ⟨none, none, .st 1 (.t 12) (.t 11)⟩] [1, 2, 3])
  (.seq (.reg none [⟨(some 13), none, .fa 3 (.t 1)⟩,
     ⟨(some 14), none, .ld false 1 (.t 13)⟩,
     ⟨(some 15), none, .fa 3 (.t 3)⟩,
     ⟨none, none, .st 1 (.t 15) (.t 14)⟩] [1, 2, 3])
  (.seq (.reg none [⟨(some 16), none, .fa 4 (.t 1)⟩,
     ⟨(some 17), none, .ld false 1 (.t 16)⟩,
     ⟨(some 18), none, .fa 4 (.t 3)⟩,
     ⟨none, none, .st 1 (.t 18) (.t 17)⟩] [1, 2, 3])
  (.seq (.reg none [⟨(some 19), none, .fa 5 (.t 1)⟩,
     ⟨(some 20), none, .ld false 1 (.t 19)⟩,
     ⟨(some 21), none, .fa 5 (.t 3)⟩,
     ⟨none, none, .st 1 (.t 21) (.t 20)⟩] [2, 3])
  (.seq (.reg none [⟨(some 22), none, .ld true 6 (.t 3)⟩,
     ⟨none, none, .st 6 (.t 2) (.t 22)⟩] [2])
  (.ret)))))))))
def rv68 : List RV := [.c 2 true 6]
open Go.Proofs Go.IntWalk
set_option linter.unusedVariables false
set_option maxRecDepth 100000
set_option maxHeartbeats 4000000
def L_toLeg (g : G) (t : TE) (a0 : Leg) : Leg :=
  a0
theorem fit68 : codeFit Try.prog Try.f68.ntmps (Try.f68.body.getD .skip) ir68 = true := by kernel_rfl
theorem c_L_toLeg {g : G} {t : TE} {a0 : Leg} {r : Leg} (hg : g = G.real) (ht : t = TE.real) (h : L_toLeg g t a0 = r) : Fn Try.prog 68 [.g (Leg.rs t a0)] (.g (Leg.ds t r)) := by
  obtain ⟨X, hX⟩ := hide (.g (Leg.ds t r) : X)
  rw [← hX]
  refine fn_of (rvs := rv68) (j := ir68) Try.func68 rfl fit68 (Nat.le_of_ble_eq_true rfl) (by kernel_rfl) prog_mixed ?_
  intro g2 F hg2 hF
  obtain rfl : g2 = g := hg2.unique.trans hg.symm
  clear hg2
  obtain ⟨wrap, lt, le, eq, quo, rem, band, bor, bxor, shl, shr, nat, int, add, sub, mul, cat, seq, slt, sub3, byte, llen, nadd, nsub, dlen, dapp, dset, drep, rd, rda, up, rsub, dsub, all, sle, slen, hasI, putI, hasS, putS, imin, imax, fzc, bstr⟩ := g2
  obtain ⟨r_Leg, d_Leg, r_I64, d_I64, r_Booking, d_Booking, r_Trip, d_Trip, r_S, d_S, r_LI64, d_LI64, r_U8, d_U8, r_Fd⟩ := t
  obtain ⟨a0_From, a0_To, a0_Start, a0_Takes, a0_Days, a0_Room⟩ := a0
  unfold L_toLeg at h
  try dsimp only at h
  cbv
  subst h
  exact ARet.mk trivial hX.symm
end Go.Vs
namespace Go.Vs
set_option maxRecDepth 100000
def ir37 : J :=
  .seq (.reg none [⟨(some 2), none, .mv (.k (.c (.n 6)))⟩] [0])
  (.seq (.reg none [⟨(some 5), none, .mv (.t 0)⟩,
     ⟨(some 6), none, .len false (.t 5)⟩,
     ⟨(some 7), none, .mk 6 64 [.r (.v (.string .empty)), .r (.v (.string .empty)), .r (.v (.int .i64 0)), .r (.v (.int .i64 0)), .r (.v (.int .i64 0)), .r (.v (.int .i64 0))] (.t 6)⟩,
     ⟨(some 3), none, .mv (.t 7)⟩] [0, 3])
  (.seq (.seq (.reg none [⟨(some 4), none, .mv (.k (V.i 0))⟩] [0, 3, 4])
   (.bl 0 (.seq (.seq (.reg none [⟨(some 8), none, .mv (.t 4)⟩,
        ⟨(some 9), none, .mv (.t 0)⟩,
        ⟨(some 10), none, .len false (.t 9)⟩,
        ⟨(some 11), none, .bin .lss .i (.t 8) (.t 10)⟩] [0, 3, 4, 11])
     (.cond (.t 11)
      (.skip)
      (.exit 0)))
    (.seq (.block 1 (.reg none [⟨(some 14), none, .mv (.t 3)⟩,
        ⟨(some 15), none, .mv (.t 4)⟩,
        ⟨(some 16), none, .mv (.t 0)⟩,
        ⟨(some 17), none, .mv (.t 4)⟩,
        ⟨(some 18), none, .ia 6 (.t 16) (.t 17)⟩,
        ⟨(some 19), none, .ld true 6 (.t 18)⟩,
        ⟨(some 20), none, .call 68 true [(.t 19)]⟩,
        ⟨(some 21), none, .ia 6 (.t 14) (.t 15)⟩,
        ⟨none, none, .st 6 (.t 21) (.t 20)⟩] [0, 3, 4]))
    (.reg none [⟨(some 12), none, .mv (.t 4)⟩,
      ⟨(some 13), none, .bin .add .i (.t 12) (.k (V.i 1))⟩,
      ⟨(some 4), none, .mv (.t 13)⟩] [0, 3, 4])))))
  (.seq (.reg none [⟨(some 22), none, .mv (.t 3)⟩,
     ⟨(some 2), none, .mv (.t 22)⟩] [2])
  (.ret))))
def rv37 : List RV := [.t 2]
open Go.Proofs Go.IntWalk
set_option linter.unusedVariables false
set_option maxRecDepth 100000
set_option maxHeartbeats 4000000
def L_toLegS_l1 (g : G) (t : TE) : List Leg → Int → List Leg → Option (List Leg)
  | [], v1, w1 =>
    some w1
  | z1 :: ls1, v1, w1 =>
    lP (L_toLeg g t z1) fun x1 =>
    gd (((0 : Int) ≤ v1 ∧ v1 < (((g.dlen (t.d_Leg w1)) : Nat) : Int))) <|
    gt w1 (g.nat v1) fun x2 =>
    lP (List.set w1 (g.nat v1) (Leg.mk x1.From x1.To x1.Start x1.Takes x1.Days x1.Room)) fun (l2 : List Leg) =>
    L_toLegS_l1 g t ls1 (g.wrap .i64 (g.add v1 1)) l2
def L_toLegS (g : G) (t : TE) (a0 : List Leg) : Option (List Leg) :=
  gd (((0 : Int) ≤ (g.llen (t.r_Leg a0)) ∧ 64 * (g.llen (t.r_Leg a0)) ≤ 70368744177664 ∧ (g.llen (t.r_Leg a0)) ≤ 4611686018427387904)) <|
  lP (List.replicate (g.nat (g.llen (t.r_Leg a0))) (Leg.mk ByteArray.empty ByteArray.empty 0 0 0 0)) fun (l1 : List Leg) =>
  cl (L_toLegS_l1 g t a0 0 l1) fun y1 =>
  some y1
theorem fit37 : codeFit Try.prog Try.f37.ntmps (Try.f37.body.getD .skip) ir37 = true := by kernel_rfl
theorem c_L_toLegS {g : G} {t : TE} {a0 : List Leg} {r : List Leg} (hg : g = G.real) (ht : t = TE.real) (h : L_toLegS g t a0 = some r) : Fn Try.prog 37 [.c (.s 6 (t.r_Leg a0))] (.c (.o 6 (t.d_Leg r))) := by
  obtain ⟨X, hX⟩ := hide (.c (.o 6 (t.d_Leg r)) : X)
  rw [← hX]
  refine fn_of (rvs := rv37) (j := ir37) Try.func37 rfl fit37 (Nat.le_of_ble_eq_true rfl) (by kernel_rfl) prog_mixed ?_
  intro g2 F hg2 hF
  obtain rfl : g2 = g := hg2.unique.trans hg.symm
  clear hg2
  obtain ⟨wrap, lt, le, eq, quo, rem, band, bor, bxor, shl, shr, nat, int, add, sub, mul, cat, seq, slt, sub3, byte, llen, nadd, nsub, dlen, dapp, dset, drep, rd, rda, up, rsub, dsub, all, sle, slen, hasI, putI, hasS, putS, imin, imax, fzc, bstr⟩ := g2
  obtain ⟨r_Leg, d_Leg, r_I64, d_I64, r_Booking, d_Booking, r_Trip, d_Trip, r_S, d_S, r_LI64, d_LI64, r_U8, d_U8, r_Fd⟩ := t
  unfold L_toLegS at h
  try dsimp only at h
  cbv
  obtain ⟨hc2, h⟩ := of_gd h
  refine AStep.mk (mk_ok hc2) ?_
  cbv
  obtain ⟨l1, hl1, h⟩ := of_lP h
  try dsimp only at h
  refine ANew.mk (d_Leg l1) (dlen (d_Leg l1)) (by rw [← hl1]; exact drep_Leg hg ht _ (Leg.mk ByteArray.empty ByteArray.empty 0 0 0 0)) (by rw [← hl1]; exact drepn_Leg hg ht _ (Leg.mk ByteArray.empty ByteArray.empty 0 0 0 0)) ?_
  cbv
  obtain ⟨o1, ho1, h⟩ := of_cl h
  try dsimp only at h
  try rw [hg] at ho1
  try rw [ht] at ho1
  refine ABL.mk { p : Nat × Int × List Leg // p.1 ≤ a0.length ∧ p.2.1 = ((p.1 : Nat) : Int) ∧ L_toLegS_l1 G.real TE.real (List.drop p.1 a0) p.2.1 p.2.2 = some o1 } (fun ⟨⟨k1, v1, w1⟩, _⟩ => ({ sl := [(0, .c (.r (.s 6 (r_Leg a0)))), (3, .c (.f 0 6 0 (dlen (d_Leg w1)))), (4, .c (.r (.v (.int .i64 v1))))], tab := [(0, some (.arr 6 (d_Leg w1)))] } : St)) 1 (fun p => a0.length - p.1.1) ⟨(0, 0, l1), Nat.zero_le _, rfl, ho1⟩ (List Leg) (fun y1 => ({ sl := [(3, .c (.f 0 6 0 (dlen (d_Leg y1))))], tab := [(0, some (.arr 6 (d_Leg y1)))] } : St)) 1 (fun y => o1 = y) ?_ ?_ ?_
  · refine Wk.of [(0, some 48)] rfl rfl ?_ ?_
    · cbv
      all_goals exact ⟨⟨_, rfl, rfl⟩, ⟨_, rfl, rfl⟩, ⟨_, rfl, rfl⟩, trivial⟩
    · cbv
      all_goals exact ⟨⟨_, rfl, rfl⟩, trivial⟩
  · rintro ⟨⟨k1, v1, w1⟩, hk1, hi1, h_1⟩ hq1
    have hm1 := (hq1.1 0 _ _ rfl)
    try dsimp only at hk1 hi1 h_1
    clear hq1
    cbv
    by_cases hc1_ : k1 < a0.length
    · have hb1 : lt v1 (llen (r_Leg a0)) = true := ltL_true_Leg hg ht hi1 hc1_
      have hs1 := stepL_Leg hg ht hi1 hc1_ hm1
      obtain ⟨z1, hz1⟩ := some_of_lt hc1_
      rw [drop_of_some hz1] at h_1
      rw [L_toLegS_l1] at h_1
      obtain ⟨z1_From, z1_To, z1_Start, z1_Takes, z1_Days, z1_Room⟩ := z1
      try rw [← hg] at h_1
      try rw [← ht] at h_1
      try dsimp only at h_1
      rw [hb1]
      cbv
      refine AStep.mk (nn_L hi1) ?_
      cbv
      refine AGet.mk _ (r_getL_Leg hg ht hi1 hz1) ?_
      cbv
      obtain ⟨x1, hx1, h_1⟩ := of_lP h_1
      obtain ⟨x1_From, x1_To, x1_Start, x1_Takes, x1_Days, x1_Room⟩ := x1
      try dsimp only at h_1
      refine ACall.mk _ _ rfl (hF _ _ _ (c_L_toLeg hg ht hx1)) (.inl rfl) (Nat.le_of_ble_eq_true rfl) ?_
      cbv
      obtain ⟨hc1, h_1⟩ := of_gd h_1
      refine AStep.mk hc1 ?_
      cbv
      obtain ⟨x2, hx2, h_1⟩ := of_gt h_1
      obtain ⟨x2_From, x2_To, x2_Start, x2_Takes, x2_Days, x2_Room⟩ := x2
      try dsimp only at h_1
      refine AGet.mk _ (d_get_Leg hg ht hx2) ?_
      cbv
      obtain ⟨l2, hl2, h_1⟩ := of_lP h_1
      try dsimp only at h_1
      refine ANew.mk (d_Leg l2) _ (by rw [← hl2]; exact dset_Leg hg ht _ _ (Leg.mk x1_From x1_To x1_Start x1_Takes x1_Days x1_Room)) rfl ?_
      have hnl2 : (dlen (d_Leg w1)) = (d_Leg l2).length := (by rw [← hl2, dsetl_Leg ht]; exact (dlen_Leg hg ht _))
      cbv
      try rw [hg] at h_1
      try rw [ht] at h_1
      refine ⟨⟨(k1 + 1, (wrap .i64 (add v1 1)), l2), hc1_, hs1, h_1⟩, Wk.of [(0, some 0)] rfl rfl ?_ ?_, meas_L hc1_⟩
      · cbv
        all_goals try rw [show (dlen (d_Leg w1)) = (dlen (d_Leg l2)) from (hnl2).trans (dlen_Leg hg ht _).symm]
        all_goals exact ⟨⟨_, rfl, rfl⟩, ⟨_, rfl, rfl⟩, ⟨_, rfl, rfl⟩, trivial⟩
      · cbv
        all_goals try rw [show (dlen (d_Leg w1)) = (dlen (d_Leg l2)) from (hnl2).trans (dlen_Leg hg ht _).symm]
        all_goals exact ⟨⟨_, rfl, rfl⟩, trivial⟩
    · have hb1 : lt v1 (llen (r_Leg a0)) = false := ltL_false_Leg hg ht hi1 hc1_
      rw [List.drop_of_length_le (Nat.le_of_not_lt hc1_)] at h_1
      rw [L_toLegS_l1] at h_1
      try rw [← hg] at h_1
      try rw [← ht] at h_1
      try dsimp only at h_1
      rw [hb1]
      cbv
      refine ⟨w1, Wk.of [(0, some 0)] rfl rfl ?_ ?_, (Option.some.inj h_1).symm⟩
      · cbv
        all_goals exact ⟨⟨_, rfl, rfl⟩, trivial⟩
      · cbv
        all_goals exact ⟨⟨_, rfl, rfl⟩, trivial⟩
  · rintro y1 hy1
    replace hy1 := hy1.symm
    subst hy1
    try dsimp only [lr, lrL, lrp, lrpL] at h
    cbv
    obtain rfl := Option.some.inj h
    exact ARet.mk ⟨rfl, (dlen_Leg hg ht _)⟩ hX.symm
end Go.Vs
namespace Go.Vs
set_option maxRecDepth 100000
def ir38 : J :=
  .seq (.reg none [⟨(some 2), none, .mv (.k (.c (.n 1)))⟩] [0])
  (.seq (.reg none [⟨(some 5), none, .mv (.t 0)⟩,
     ⟨(some 6), none, .len false (.t 5)⟩,
     ⟨(some 7), none, .mk 1 8 [.r (.v (.int .i64 0))] (.t 6)⟩,
     ⟨(some 3), none, .mv (.t 7)⟩] [0, 3])
  (.seq (.seq (.reg none [⟨(some 4), none, .mv (.k (V.i 0))⟩] [0, 3, 4])
   (.bl 0 (.seq (.seq (.reg none [⟨(some 8), none, .mv (.t 4)⟩,
        ⟨(some 9), none, .mv (.t 0)⟩,
        ⟨(some 10), none, .len false (.t 9)⟩,
        ⟨(some 11), none, .bin .lss .i (.t 8) (.t 10)⟩] [0, 3, 4, 11])
     (.cond (.t 11)
      (.skip)
      (.exit 0)))
    (.seq (.block 1 (.reg none [⟨(some 14), none, .mv (.t 3)⟩,
        ⟨(some 15), none, .mv (.t 4)⟩,
        ⟨(some 16), none, .mv (.t 0)⟩,
        ⟨(some 17), none, .mv (.t 4)⟩,
        ⟨(some 18), none, .ia 1 (.t 16) (.t 17)⟩,
        ⟨(some 19), none, .ld false 1 (.t 18)⟩,
        ⟨(some 20), none, .ia 1 (.t 14) (.t 15)⟩,
        ⟨none, none, .st 1 (.t 20) (.t 19)⟩] [0, 3, 4]))
    (.reg none [⟨(some 12), none, .mv (.t 4)⟩,
      ⟨(some 13), none, .bin .add .i (.t 12) (.k (V.i 1))⟩,
      ⟨(some 4), none, .mv (.t 13)⟩] [0, 3, 4])))))
  (.seq (.reg none [⟨(some 21), none, .mv (.t 3)⟩,
     ⟨(some 2), none, .mv (.t 21)⟩] [2])
  (.ret))))
def rv38 : List RV := [.t 2]
open Go.Proofs Go.IntWalk
set_option linter.unusedVariables false
set_option maxRecDepth 100000
set_option maxHeartbeats 4000000
def L_toIntS_l1 (g : G) (t : TE) : List Int → Int → List Int → Option (List Int)
  | [], v1, w1 =>
    some w1
  | z1 :: ls1, v1, w1 =>
    gd (((0 : Int) ≤ v1 ∧ v1 < (((g.dlen (t.d_I64 w1)) : Nat) : Int))) <|
    gt w1 (g.nat v1) fun x1 =>
    lP (List.set w1 (g.nat v1) z1) fun (l2 : List Int) =>
    L_toIntS_l1 g t ls1 (g.wrap .i64 (g.add v1 1)) l2
def L_toIntS (g : G) (t : TE) (a0 : List Int) : Option (List Int) :=
  gd (((0 : Int) ≤ (g.llen (t.r_I64 a0)) ∧ 8 * (g.llen (t.r_I64 a0)) ≤ 70368744177664 ∧ (g.llen (t.r_I64 a0)) ≤ 4611686018427387904)) <|
  lP (List.replicate (g.nat (g.llen (t.r_I64 a0))) 0) fun (l1 : List Int) =>
  cl (L_toIntS_l1 g t a0 0 l1) fun y1 =>
  some y1
theorem fit38 : codeFit Try.prog Try.f38.ntmps (Try.f38.body.getD .skip) ir38 = true := by kernel_rfl
theorem c_L_toIntS {g : G} {t : TE} {a0 : List Int} {r : List Int} (hg : g = G.real) (ht : t = TE.real) (h : L_toIntS g t a0 = some r) : Fn Try.prog 38 [.c (.s 1 (t.r_I64 a0))] (.c (.o 1 (t.d_I64 r))) := by
  obtain ⟨X, hX⟩ := hide (.c (.o 1 (t.d_I64 r)) : X)
  rw [← hX]
  refine fn_of (rvs := rv38) (j := ir38) Try.func38 rfl fit38 (Nat.le_of_ble_eq_true rfl) (by kernel_rfl) prog_mixed ?_
  intro g2 F hg2 hF
  obtain rfl : g2 = g := hg2.unique.trans hg.symm
  clear hg2
  obtain ⟨wrap, lt, le, eq, quo, rem, band, bor, bxor, shl, shr, nat, int, add, sub, mul, cat, seq, slt, sub3, byte, llen, nadd, nsub, dlen, dapp, dset, drep, rd, rda, up, rsub, dsub, all, sle, slen, hasI, putI, hasS, putS, imin, imax, fzc, bstr⟩ := g2
  obtain ⟨r_Leg, d_Leg, r_I64, d_I64, r_Booking, d_Booking, r_Trip, d_Trip, r_S, d_S, r_LI64, d_LI64, r_U8, d_U8, r_Fd⟩ := t
  unfold L_toIntS at h
  try dsimp only at h
  cbv
  obtain ⟨hc2, h⟩ := of_gd h
  refine AStep.mk (mk_ok hc2) ?_
  cbv
  obtain ⟨l1, hl1, h⟩ := of_lP h
  try dsimp only at h
  refine ANew.mk (d_I64 l1) (dlen (d_I64 l1)) (by rw [← hl1]; exact drep_I64 hg ht _ 0) (by rw [← hl1]; exact drepn_I64 hg ht _ 0) ?_
  cbv
  obtain ⟨o1, ho1, h⟩ := of_cl h
  try dsimp only at h
  try rw [hg] at ho1
  try rw [ht] at ho1
  refine ABL.mk { p : Nat × Int × List Int // p.1 ≤ a0.length ∧ p.2.1 = ((p.1 : Nat) : Int) ∧ L_toIntS_l1 G.real TE.real (List.drop p.1 a0) p.2.1 p.2.2 = some o1 } (fun ⟨⟨k1, v1, w1⟩, _⟩ => ({ sl := [(0, .c (.r (.s 1 (r_I64 a0)))), (3, .c (.f 0 1 0 (dlen (d_I64 w1)))), (4, .c (.r (.v (.int .i64 v1))))], tab := [(0, some (.arr 1 (d_I64 w1)))] } : St)) 1 (fun p => a0.length - p.1.1) ⟨(0, 0, l1), Nat.zero_le _, rfl, ho1⟩ (List Int) (fun y1 => ({ sl := [(3, .c (.f 0 1 0 (dlen (d_I64 y1))))], tab := [(0, some (.arr 1 (d_I64 y1)))] } : St)) 1 (fun y => o1 = y) ?_ ?_ ?_
  · refine Wk.of [(0, some 48)] rfl rfl ?_ ?_
    · cbv
      all_goals exact ⟨⟨_, rfl, rfl⟩, ⟨_, rfl, rfl⟩, ⟨_, rfl, rfl⟩, trivial⟩
    · cbv
      all_goals exact ⟨⟨_, rfl, rfl⟩, trivial⟩
  · rintro ⟨⟨k1, v1, w1⟩, hk1, hi1, h_1⟩ hq1
    have hm1 := (hq1.1 0 _ _ rfl)
    try dsimp only at hk1 hi1 h_1
    clear hq1
    cbv
    by_cases hc1_ : k1 < a0.length
    · have hb1 : lt v1 (llen (r_I64 a0)) = true := ltL_true_I64 hg ht hi1 hc1_
      have hs1 := stepL_I64 hg ht hi1 hc1_ hm1
      obtain ⟨z1, hz1⟩ := some_of_lt hc1_
      rw [drop_of_some hz1] at h_1
      rw [L_toIntS_l1] at h_1
      try rw [← hg] at h_1
      try rw [← ht] at h_1
      try dsimp only at h_1
      rw [hb1]
      cbv
      refine AStep.mk (nn_L hi1) ?_
      cbv
      refine AGet.mk _ (r_getL_I64 hg ht hi1 hz1) ?_
      cbv
      obtain ⟨hc1, h_1⟩ := of_gd h_1
      refine AStep.mk hc1 ?_
      cbv
      obtain ⟨x1, hx1, h_1⟩ := of_gt h_1
      try dsimp only at h_1
      refine AGet.mk _ (d_get_I64 hg ht hx1) ?_
      cbv
      obtain ⟨l2, hl2, h_1⟩ := of_lP h_1
      try dsimp only at h_1
      refine ANew.mk (d_I64 l2) _ (by rw [← hl2]; exact dset_I64 hg ht _ _ z1) rfl ?_
      have hnl2 : (dlen (d_I64 w1)) = (d_I64 l2).length := (by rw [← hl2, dsetl_I64 ht]; exact (dlen_I64 hg ht _))
      cbv
      try rw [hg] at h_1
      try rw [ht] at h_1
      refine ⟨⟨(k1 + 1, (wrap .i64 (add v1 1)), l2), hc1_, hs1, h_1⟩, Wk.of [(0, some 0)] rfl rfl ?_ ?_, meas_L hc1_⟩
      · cbv
        all_goals try rw [show (dlen (d_I64 w1)) = (dlen (d_I64 l2)) from (hnl2).trans (dlen_I64 hg ht _).symm]
        all_goals exact ⟨⟨_, rfl, rfl⟩, ⟨_, rfl, rfl⟩, ⟨_, rfl, rfl⟩, trivial⟩
      · cbv
        all_goals try rw [show (dlen (d_I64 w1)) = (dlen (d_I64 l2)) from (hnl2).trans (dlen_I64 hg ht _).symm]
        all_goals exact ⟨⟨_, rfl, rfl⟩, trivial⟩
    · have hb1 : lt v1 (llen (r_I64 a0)) = false := ltL_false_I64 hg ht hi1 hc1_
      rw [List.drop_of_length_le (Nat.le_of_not_lt hc1_)] at h_1
      rw [L_toIntS_l1] at h_1
      try rw [← hg] at h_1
      try rw [← ht] at h_1
      try dsimp only at h_1
      rw [hb1]
      cbv
      refine ⟨w1, Wk.of [(0, some 0)] rfl rfl ?_ ?_, (Option.some.inj h_1).symm⟩
      · cbv
        all_goals exact ⟨⟨_, rfl, rfl⟩, trivial⟩
      · cbv
        all_goals exact ⟨⟨_, rfl, rfl⟩, trivial⟩
  · rintro y1 hy1
    replace hy1 := hy1.symm
    subst hy1
    try dsimp only [lr, lrL, lrp, lrpL] at h
    cbv
    obtain rfl := Option.some.inj h
    exact ARet.mk ⟨rfl, (dlen_I64 hg ht _)⟩ hX.symm
end Go.Vs
namespace Go.Vs
set_option maxRecDepth 100000
def ir9 : J :=
  .seq (.reg none [⟨(some 1), none, .box (.t 0)⟩,
     ⟨(some 2), none, .alloc [.n 6, .n 1, .r (.v (.int .i64 0))]⟩] [1, 2])
  (.seq (.reg none [⟨(some 3), none, .alloc [.n 6, .n 1, .r (.v (.int .i64 0))]⟩] [1, 2, 3])
  (.seq (.reg none [⟨(some 4), none, .fa 0 (.t 1)⟩,
     ⟨(some 5), none, .ld false 1 (.t 4)⟩,
     ⟨(some 6), none, .call 37 true [(.t 5)]⟩,
     ⟨(some 7), none, .fa 0 (.t 3)⟩,
     ⟨none, none, .st 1 (.t 7) (.t 6)⟩] [1, 2, 3])
  (.seq (.reg none [⟨(some 8), none, .fa 1 (.t 1)⟩,
     ⟨(some 9), none, .ld false 1 (.t 8)⟩,
     ⟨(some 10), none, .call 38 true [(.t 9)]⟩,
     ⟨(some 11), none, .fa 1 (.t 3)⟩,
     ⟨none, none, .st 1 (.t 11) (.t 10)⟩] [1, 2, 3])
  (.seq (.reg none [⟨(some 12), none, .fa 2 (.t 1)⟩,
     ⟨(some 13), none, .ld false 1 (.t 12)⟩,
     ⟨(some 14), none, .fa 2 (.t 3)⟩,
     ⟨none, none, .st 1 (.t 14) (.t 13)⟩] [2, 3])
  (.seq (.reg none [⟨(some 15), none, .ld true 3 (.t 3)⟩,
     ⟨none, none, .st 3 (.t 2) (.t 15)⟩] [2])
  (.ret))))))
def rv9 : List RV := [.c 2 true 3]
open Go.Proofs Go.IntWalk
set_option linter.unusedVariables false
set_option maxRecDepth 100000
set_option maxHeartbeats 4000000
def L_toNetwork (g : G) (t : TE) (a0 : Network) : Option Network :=
  cl (L_toLegS g t a0.Legs) fun x1 =>
  cl (L_toIntS g t a0.Off) fun x2 =>
  some (Network.mk x1 x2 a0.Change)
theorem fit9 : codeFit Try.prog Try.f9.ntmps (Try.f9.body.getD .skip) ir9 = true := by kernel_rfl
theorem c_L_toNetwork {g : G} {t : TE} {a0 : Network} {r : Network} (hg : g = G.real) (ht : t = TE.real) (h : L_toNetwork g t a0 = some r) : Fn Try.prog 9 [.g (Network.rs t a0)] (.g (Network.ds t r)) := by
  obtain ⟨X, hX⟩ := hide (.g (Network.ds t r) : X)
  rw [← hX]
  refine fn_of (rvs := rv9) (j := ir9) Try.func9 rfl fit9 (Nat.le_of_ble_eq_true rfl) (by kernel_rfl) prog_mixed ?_
  intro g2 F hg2 hF
  obtain rfl : g2 = g := hg2.unique.trans hg.symm
  clear hg2
  obtain ⟨wrap, lt, le, eq, quo, rem, band, bor, bxor, shl, shr, nat, int, add, sub, mul, cat, seq, slt, sub3, byte, llen, nadd, nsub, dlen, dapp, dset, drep, rd, rda, up, rsub, dsub, all, sle, slen, hasI, putI, hasS, putS, imin, imax, fzc, bstr⟩ := g2
  obtain ⟨r_Leg, d_Leg, r_I64, d_I64, r_Booking, d_Booking, r_Trip, d_Trip, r_S, d_S, r_LI64, d_LI64, r_U8, d_U8, r_Fd⟩ := t
  obtain ⟨a0_Legs, a0_Off, a0_Change⟩ := a0
  unfold L_toNetwork at h
  try dsimp only at h
  cbv
  obtain ⟨x1, hx1, h⟩ := of_cl h
  try dsimp only at h
  refine ACall.mk _ _ rfl (hF _ _ _ (c_L_toLegS hg ht hx1)) (.inl rfl) (Nat.le_of_ble_eq_true rfl) ?_
  cbv
  obtain ⟨x2, hx2, h⟩ := of_cl h
  try dsimp only at h
  refine ACall.mk _ _ rfl (hF _ _ _ (c_L_toIntS hg ht hx2)) (.inl rfl) (Nat.le_of_ble_eq_true rfl) ?_
  cbv
  obtain rfl := Option.some.inj h
  exact ARet.mk ⟨⟨rfl, (dlen_Leg hg ht _)⟩, ⟨rfl, (dlen_I64 hg ht _)⟩⟩ hX.symm
end Go.Vs
namespace Go.Vs
set_option maxRecDepth 100000
def ir39 : J :=
  .seq (.reg none [⟨(some 1), none, .box (.t 0)⟩,
     ⟨(some 2), none, .alloc [.r (.v (.int .i64 0)), .r (.v (.int .i64 0))]⟩] [1, 2])
  (.seq (.reg none [⟨(some 3), none, .alloc [.r (.v (.int .i64 0)), .r (.v (.int .i64 0))]⟩] [1, 2, 3])
  (.seq (.reg none [⟨(some 4), none, .fa 0 (.t 1)⟩,
     ⟨(some 5), none, .ld false 1 (.t 4)⟩,
     ⟨(some 6), none, .fa 0 (.t 3)⟩,
     ⟨none, none, .st 1 (.t 6) (.t 5)⟩] [1, 2, 3])
  (.seq (.reg none [⟨(some 7), none, .fa 1 (.t 1)⟩,
     ⟨(some 8), none, .ld false 1 (.t 7)⟩,
     ⟨(some 9), none, .fa 1 (.t 3)⟩,
     ⟨none, none, .st 1 (.t 9) (.t 8)⟩] [2, 3])
  (.seq (.reg none [⟨(some 10), none, .ld true 2 (.t 3)⟩,
     ⟨none, none, .st 2 (.t 2) (.t 10)⟩] [2])
  (.ret)))))
def rv39 : List RV := [.c 2 true 2]
open Go.Proofs Go.IntWalk
set_option linter.unusedVariables false
set_option maxRecDepth 100000
set_option maxHeartbeats 4000000
def L_toTrip (g : G) (t : TE) (a0 : Trip) : Trip :=
  a0
theorem fit39 : codeFit Try.prog Try.f39.ntmps (Try.f39.body.getD .skip) ir39 = true := by kernel_rfl
theorem c_L_toTrip {g : G} {t : TE} {a0 : Trip} {r : Trip} (hg : g = G.real) (ht : t = TE.real) (h : L_toTrip g t a0 = r) : Fn Try.prog 39 [.g (Trip.rs t a0)] (.g (Trip.ds t r)) := by
  obtain ⟨X, hX⟩ := hide (.g (Trip.ds t r) : X)
  rw [← hX]
  refine fn_of (rvs := rv39) (j := ir39) Try.func39 rfl fit39 (Nat.le_of_ble_eq_true rfl) (by kernel_rfl) prog_mixed ?_
  intro g2 F hg2 hF
  obtain rfl : g2 = g := hg2.unique.trans hg.symm
  clear hg2
  obtain ⟨wrap, lt, le, eq, quo, rem, band, bor, bxor, shl, shr, nat, int, add, sub, mul, cat, seq, slt, sub3, byte, llen, nadd, nsub, dlen, dapp, dset, drep, rd, rda, up, rsub, dsub, all, sle, slen, hasI, putI, hasS, putS, imin, imax, fzc, bstr⟩ := g2
  obtain ⟨r_Leg, d_Leg, r_I64, d_I64, r_Booking, d_Booking, r_Trip, d_Trip, r_S, d_S, r_LI64, d_LI64, r_U8, d_U8, r_Fd⟩ := t
  obtain ⟨a0_Leg, a0_Day⟩ := a0
  unfold L_toTrip at h
  try dsimp only at h
  cbv
  subst h
  exact ARet.mk trivial hX.symm
end Go.Vs
namespace Go.Vs
set_option maxRecDepth 100000
def ir10 : J :=
  .seq (.reg none [⟨(some 1), none, .box (.t 0)⟩,
     ⟨(some 2), none, .alloc [.r (.v (.int .i64 0)), .r (.v (.int .i64 0)), .r (.v (.int .i64 0)), .r (.v (.string .empty)), .r (.v (.int .i64 0)), .r (.v (.int .i64 0))]⟩] [1, 2])
  (.seq (.reg none [⟨(some 3), none, .alloc [.r (.v (.int .i64 0)), .r (.v (.int .i64 0)), .r (.v (.int .i64 0)), .r (.v (.string .empty)), .r (.v (.int .i64 0)), .r (.v (.int .i64 0))]⟩] [1, 2, 3])
  (.seq (.reg none [⟨(some 4), none, .fa 0 (.t 1)⟩,
     ⟨(some 5), none, .ld false 1 (.t 4)⟩,
     ⟨(some 6), none, .fa 0 (.t 3)⟩,
     ⟨none, none, .st 1 (.t 6) (.t 5)⟩] [1, 2, 3])
  (.seq (.reg none [⟨(some 7), none, .fa 1 (.t 1)⟩,
     ⟨(some 8), none, .ld false 1 (.t 7)⟩,
     ⟨(some 9), none, .fa 1 (.t 3)⟩,
     ⟨none, none, .st 1 (.t 9) (.t 8)⟩] [1, 2, 3])
  (.seq (.reg none [⟨(some 10), none, .fa 2 (.t 1)⟩,
     ⟨(some 11), none, .ld false 1 (.t 10)⟩,
     ⟨(some 12), none, .fa 2 (.t 3)⟩,
     ⟨none, none, .st 1 (.t 12) (.t 11)⟩] [1, 2, 3])
  (.seq (.reg none [⟨(some 13), none, .fa 3 (.t 1)⟩,
     ⟨(some 14), none, .ld false 1 (.t 13)⟩,
     ⟨(some 15), none, .fa 3 (.t 3)⟩,
     ⟨none, none, .st 1 (.t 15) (.t 14)⟩] [1, 2, 3])
  (.seq (.reg none [⟨(some 16), none, .fa 4 (.t 1)⟩,
     ⟨(some 17), none, .ld true 2 (.t 16)⟩,
     ⟨(some 18), none, .call 39 true [(.t 17)]⟩,
     ⟨(some 19), none, .fa 4 (.t 3)⟩,
     ⟨none, none, .st 2 (.t 19) (.t 18)⟩] [2, 3])
  (.seq (.reg none [⟨(some 20), none, .ld true 6 (.t 3)⟩,
     ⟨none, none, .st 6 (.t 2) (.t 20)⟩] [2])
  (.ret))))))))
def rv10 : List RV := [.c 2 true 6]
open Go.Proofs Go.IntWalk
set_option linter.unusedVariables false
set_option maxRecDepth 100000
set_option maxHeartbeats 4000000
def L_toScan (g : G) (t : TE) (a0 : Scan) : Scan :=
  lP (L_toTrip g t (Trip.mk a0.Trip.Leg a0.Trip.Day)) fun x1 =>
  (Scan.mk a0.Thing a0.At a0.Kind a0.Place x1)
theorem fit10 : codeFit Try.prog Try.f10.ntmps (Try.f10.body.getD .skip) ir10 = true := by kernel_rfl
theorem c_L_toScan {g : G} {t : TE} {a0 : Scan} {r : Scan} (hg : g = G.real) (ht : t = TE.real) (h : L_toScan g t a0 = r) : Fn Try.prog 10 [.g (Scan.rs t a0)] (.g (Scan.ds t r)) := by
  obtain ⟨X, hX⟩ := hide (.g (Scan.ds t r) : X)
  rw [← hX]
  refine fn_of (rvs := rv10) (j := ir10) Try.func10 rfl fit10 (Nat.le_of_ble_eq_true rfl) (by kernel_rfl) prog_mixed ?_
  intro g2 F hg2 hF
  obtain rfl : g2 = g := hg2.unique.trans hg.symm
  clear hg2
  obtain ⟨wrap, lt, le, eq, quo, rem, band, bor, bxor, shl, shr, nat, int, add, sub, mul, cat, seq, slt, sub3, byte, llen, nadd, nsub, dlen, dapp, dset, drep, rd, rda, up, rsub, dsub, all, sle, slen, hasI, putI, hasS, putS, imin, imax, fzc, bstr⟩ := g2
  obtain ⟨r_Leg, d_Leg, r_I64, d_I64, r_Booking, d_Booking, r_Trip, d_Trip, r_S, d_S, r_LI64, d_LI64, r_U8, d_U8, r_Fd⟩ := t
  obtain ⟨a0_Thing, a0_At, a0_Kind, a0_Place, ⟨a0_Trip_Leg, a0_Trip_Day⟩⟩ := a0
  unfold L_toScan at h
  try dsimp only at h
  cbv
  obtain ⟨x1, hx1, h⟩ := of_lP h
  obtain ⟨x1_Leg, x1_Day⟩ := x1
  try dsimp only at h
  refine ACall.mk _ _ rfl (hF _ _ _ (c_L_toTrip hg ht hx1)) (.inl rfl) (Nat.le_of_ble_eq_true rfl) ?_
  cbv
  subst h
  exact ARet.mk trivial hX.symm
end Go.Vs
namespace Go.Vs
set_option maxRecDepth 100000
def ir70 : J :=
  .seq (.reg none [⟨(some 6), none, .mv (.k (V.b false))⟩] [0, 1, 2])
  (.seq (.reg none [⟨(some 7), none, .mv (.t 1)⟩,
     ⟨(some 8), none, .mv (.t 0)⟩,
     ⟨(some 9), none, .bin .leq .i (.t 7) (.t 8)⟩,
     ⟨(some 10), none, .mv (.t 9)⟩,
     ⟨(some 11), (some (10, true)), .mv (.t 0)⟩,
     ⟨(some 12), (some (10, true)), .mv (.t 2)⟩,
     ⟨(some 13), (some (10, true)), .bin .leq .i (.t 11) (.t 12)⟩,
     ⟨(some 14), none, .pick (.t 10) (.t 13) (.k (V.b false))⟩,
     ⟨(some 6), none, .mv (.t 14)⟩] [6])
  (.ret))
def rv70 : List RV := [.t 6]
open Go.Proofs Go.IntWalk
set_option linter.unusedVariables false
set_option maxRecDepth 100000
set_option maxHeartbeats 4000000
def I_within (g : G) (t : TE) (a0 : Int) (a1 : Int) (a2 : Int) : Bool :=
  br (g.le a1 a0)
  (
   (g.le a0 a2))
  (
   false)
theorem fit70 : codeFit Try.prog Try.f70.ntmps (Try.f70.body.getD .skip) ir70 = true := by kernel_rfl
theorem c_I_within {g : G} {t : TE} {a0 : Int} {a1 : Int} {a2 : Int} {r : Bool} (hg : g = G.real) (ht : t = TE.real) (h : I_within g t a0 a1 a2 = r) : Fn Try.prog 70 [.c (.v (.int .i64 a0)), .c (.v (.int .i64 a1)), .c (.v (.int .i64 a2))] (.c (.r (.v (.bool r)))) := by
  obtain ⟨X, hX⟩ := hide (.c (.r (.v (.bool r))) : X)
  rw [← hX]
  refine fn_of (rvs := rv70) (j := ir70) Try.func70 rfl fit70 (Nat.le_of_ble_eq_true rfl) (by kernel_rfl) prog_mixed ?_
  intro g2 F hg2 hF
  obtain rfl : g2 = g := hg2.unique.trans hg.symm
  clear hg2
  obtain ⟨wrap, lt, le, eq, quo, rem, band, bor, bxor, shl, shr, nat, int, add, sub, mul, cat, seq, slt, sub3, byte, llen, nadd, nsub, dlen, dapp, dset, drep, rd, rda, up, rsub, dsub, all, sle, slen, hasI, putI, hasS, putS, imin, imax, fzc, bstr⟩ := g2
  obtain ⟨r_Leg, d_Leg, r_I64, d_I64, r_Booking, d_Booking, r_Trip, d_Trip, r_S, d_S, r_LI64, d_LI64, r_U8, d_U8, r_Fd⟩ := t
  unfold I_within at h
  try dsimp only at h
  cbv
  cases hb1 : (le a1 a0) with
  | true =>
    rw [br_true hb1] at h
    cbv
    try (rw [hb1]; cbv)
    try (rw [hb1]; cbv)
    try (rw [hb1]; cbv)
    subst h
    exact ARet.mk trivial hX.symm
  | false =>
    rw [br_false hb1] at h
    cbv
    try (rw [hb1]; cbv)
    try (rw [hb1]; cbv)
    try (rw [hb1]; cbv)
    subst h
    exact ARet.mk trivial hX.symm
end Go.Vs
namespace Go.Vs
set_option maxRecDepth 100000
def ir109 : J :=
  .seq (.reg none [⟨(some 2), none, .mv (.k (V.b false))⟩] [0])
  (.seq (.seq (.reg none [⟨(some 3), none, .mv (.k (V.i 0))⟩] [0, 3])
   (.bl 0 (.seq (.seq (.reg none [⟨(some 4), none, .mv (.t 3)⟩,
        ⟨(some 5), none, .mv (.t 0)⟩,
        ⟨(some 6), none, .len true (.t 5)⟩,
        ⟨(some 7), none, .bin .lss .i (.t 4) (.t 6)⟩] [0, 3, 7])
     (.cond (.t 7)
      (.skip)
      (.exit 0)))
    (.seq (.block 1 (.seq (.reg none [⟨(some 10), none, .mv (.t 0)⟩,
         ⟨(some 11), none, .mv (.t 3)⟩,
         ⟨(some 12), none, .idx (.t 10) (.t 11)⟩,
         ⟨(some 13), none, .bin .lss .i (.t 12) (.k (.c (.r (.v (.int .u8 65)))))⟩,
         ⟨(some 14), none, .mv (.t 13)⟩,
         ⟨(some 15), (some (14, false)), .mv (.t 0)⟩,
         ⟨(some 16), (some (14, false)), .mv (.t 3)⟩,
         ⟨(some 17), (some (14, false)), .idx (.t 15) (.t 16)⟩,
         ⟨(some 18), (some (14, false)), .bin .gtr .i (.t 17) (.k (.c (.r (.v (.int .u8 90)))))⟩,
         ⟨(some 19), none, .pick (.t 14) (.k (V.b true)) (.t 18)⟩] [0, 3, 19])
      (.cond (.t 19)
       (.seq (.reg none [⟨(some 2), none, .mv (.k (V.b false))⟩] [2])
        (.ret))
       (.skip))))
    (.reg none [⟨(some 8), none, .mv (.t 3)⟩,
      ⟨(some 9), none, .bin .add .i (.t 8) (.k (V.i 1))⟩,
      ⟨(some 3), none, .mv (.t 9)⟩] [0, 3])))))
  (.seq (.reg none [⟨(some 20), none, .mv (.t 0)⟩,
     ⟨(some 21), none, .len true (.t 20)⟩,
     ⟨(some 22), none, .bin .eql .i (.t 21) (.k (V.i 3))⟩,
     ⟨(some 2), none, .mv (.t 22)⟩] [2])
  (.ret)))
def rv109 : List RV := [.t 2]
open Go.Proofs Go.IntWalk
set_option linter.unusedVariables false
set_option maxRecDepth 100000
set_option maxHeartbeats 4000000
def I_IsPlace_l1 (g : G) (t : TE) (a0 : ByteArray) : Nat → Int → LR Bool Unit
  | 0, v1 =>
    (LR.out ())
  | n1 + 1, v1 =>
    br (g.lt (g.byte a0 v1) 65)
    (
     (LR.ret false))
    (
     br (g.lt 90 (g.byte a0 v1))
     (
      (LR.ret false))
     (
      I_IsPlace_l1 g t a0 n1 (g.wrap .i64 (g.add v1 1))))
def I_IsPlace (g : G) (t : TE) (a0 : ByteArray) : Option Bool :=
  gd (((g.int (g.slen a0)) ≤ 9223372036854775807)) <|
  lP (I_IsPlace_l1 g t a0 (cntLt 0 (g.int (g.slen a0))) 0) fun o1 => lr o1 fun y1 =>
  some (g.eq (g.int (g.slen a0)) 3)
theorem fit109 : codeFit Try.prog Try.f109.ntmps (Try.f109.body.getD .skip) ir109 = true := by kernel_rfl
theorem c_I_IsPlace {g : G} {t : TE} {a0 : ByteArray} {r : Bool} (hg : g = G.real) (ht : t = TE.real) (h : I_IsPlace g t a0 = some r) : Fn Try.prog 109 [.c (.v (.string a0))] (.c (.r (.v (.bool r)))) := by
  obtain ⟨X, hX⟩ := hide (.c (.r (.v (.bool r))) : X)
  rw [← hX]
  refine fn_of (rvs := rv109) (j := ir109) Try.func109 rfl fit109 (Nat.le_of_ble_eq_true rfl) (by kernel_rfl) prog_mixed ?_
  intro g2 F hg2 hF
  obtain rfl : g2 = g := hg2.unique.trans hg.symm
  clear hg2
  obtain ⟨wrap, lt, le, eq, quo, rem, band, bor, bxor, shl, shr, nat, int, add, sub, mul, cat, seq, slt, sub3, byte, llen, nadd, nsub, dlen, dapp, dset, drep, rd, rda, up, rsub, dsub, all, sle, slen, hasI, putI, hasS, putS, imin, imax, fzc, bstr⟩ := g2
  obtain ⟨r_Leg, d_Leg, r_I64, d_I64, r_Booking, d_Booking, r_Trip, d_Trip, r_S, d_S, r_LI64, d_LI64, r_U8, d_U8, r_Fd⟩ := t
  unfold I_IsPlace at h
  try dsimp only at h
  cbv
  obtain ⟨hB1, h⟩ := of_gd h
  obtain ⟨o1, ho1, h⟩ := of_lP h
  try dsimp only at h
  try rw [hg] at ho1
  try rw [ht] at ho1
  refine ABL.mk { p : Nat × Int // p.1 = cntLt p.2 (int (slen a0)) ∧ 0 ≤ p.2 ∧ I_IsPlace_l1 G.real TE.real a0 p.1 p.2 = o1 } (fun ⟨⟨n1, v1⟩, _⟩ => ({ sl := [(0, .c (.r (.v (.string a0)))), (3, .c (.r (.v (.int .i64 v1))))], tab := [] } : St)) 0 (fun p => p.1.1) ⟨(cntLt 0 (int (slen a0)), 0), rfl, Int.le_refl _, ho1⟩ (Unit) (fun _ => ({ sl := [(0, .c (.r (.v (.string a0))))], tab := [] } : St)) 0 (fun y => o1 = LR.out y) ?_ ?_ ?_
  · refine Wk.of [] rfl rfl ?_ ?_
    · cbv
      all_goals exact ⟨⟨_, rfl, rfl⟩, ⟨_, rfl, rfl⟩, trivial⟩
    · cbv
      all_goals exact trivial
  · rintro ⟨⟨n1, v1⟩, hn1, hi1, h_1⟩ hq1
    try dsimp only at hn1 hi1 h_1
    clear hq1
    cbv
    rcases n1 with _ | n1
    · have hb1 : lt v1 (int (slen a0)) = false := ltC_false hg hn1
      rw [I_IsPlace_l1] at h_1
      try rw [← hg] at h_1
      try rw [← ht] at h_1
      try dsimp only at h_1
      rw [hb1]
      cbv
      refine ⟨(), Wk.of [] rfl rfl ?_ ?_, h_1.symm⟩
      · cbv
        all_goals exact ⟨⟨_, rfl, rfl⟩, trivial⟩
      · cbv
        all_goals exact trivial
    · have hb1 : lt v1 (int (slen a0)) = true := ltC_true hg hn1
      have hl1 := ltC_le hn1
      have hs1 := stepltC hg hn1 hi1 hB1 (by decide)
      rw [I_IsPlace_l1] at h_1
      try rw [← hg] at h_1
      try rw [← ht] at h_1
      try dsimp only at h_1
      rw [hb1]
      cbv
      refine AStep.mk (rg_slen hg hi1 hl1) ?_
      cbv
      cases hb2 : (lt (byte a0 v1) 65) with
      | true =>
        rw [br_true hb2] at h_1
        cbv
        try (rw [hb2]; cbv)
        try (rw [hb2]; cbv)
        try (rw [hb2]; cbv)
        try (rw [hb2]; cbv)
        subst h_1
        try dsimp only [lr, lrL, lrp, lrpL] at h
        obtain rfl := Option.some.inj h
        exact ARet.mk trivial hX.symm
      | false =>
        rw [br_false hb2] at h_1
        cbv
        try (rw [hb2]; cbv)
        try (rw [hb2]; cbv)
        refine AStep.mk (rg_slen hg hi1 hl1) ?_
        cbv
        try (rw [hb2]; cbv)
        try (rw [hb2]; cbv)
        cases hb3 : (lt 90 (byte a0 v1)) with
        | true =>
          rw [br_true hb3] at h_1
          cbv
          subst h_1
          try dsimp only [lr, lrL, lrp, lrpL] at h
          obtain rfl := Option.some.inj h
          exact ARet.mk trivial hX.symm
        | false =>
          rw [br_false hb3] at h_1
          cbv
          try rw [hg] at h_1
          try rw [ht] at h_1
          refine ⟨⟨(n1, (wrap .i64 (add v1 1))), hs1.1, hs1.2, h_1⟩, Wk.of [] rfl rfl ?_ ?_, Nat.lt_succ_self _⟩
          · cbv
            all_goals exact ⟨⟨_, rfl, rfl⟩, ⟨_, rfl, rfl⟩, trivial⟩
          · cbv
            all_goals exact trivial
  · rintro _ hy1
    replace hy1 := hy1.symm
    subst hy1
    try dsimp only [lr, lrL, lrp, lrpL] at h
    cbv
    obtain rfl := Option.some.inj h
    exact ARet.mk trivial hX.symm
end Go.Vs
namespace Go.Vs
set_option maxRecDepth 100000
def ir100 : J :=
  .seq (.reg none [⟨(some 1), none, .box (.t 0)⟩,
     ⟨(some 2), none, .mv (.k (V.b false))⟩] [1])
  (.seq (.reg none [⟨(some 3), none, .fa 0 (.t 1)⟩,
     ⟨(some 4), none, .ld false 1 (.t 3)⟩,
     ⟨(some 5), none, .call 109 true [(.t 4)]⟩,
     ⟨(some 6), none, .mv (.t 5)⟩,
     ⟨(some 7), (some (6, true)), .fa 1 (.t 1)⟩,
     ⟨(some 8), (some (6, true)), .ld false 1 (.t 7)⟩,
     ⟨(some 9), (some (6, true)), .call 109 true [(.t 8)]⟩,
     ⟨(some 10), none, .pick (.t 6) (.t 9) (.k (V.b false))⟩,
     ⟨(some 11), none, .mv (.t 10)⟩,
     ⟨(some 12), (some (11, true)), .fa 0 (.t 1)⟩,
     ⟨(some 13), (some (11, true)), .ld false 1 (.t 12)⟩,
     ⟨(some 14), (some (11, true)), .fa 1 (.t 1)⟩,
     ⟨(some 15), (some (11, true)), .ld false 1 (.t 14)⟩,
     ⟨(some 16), (some (11, true)), .bin .neq .s (.t 13) (.t 15)⟩,
     ⟨(some 17), none, .pick (.t 11) (.t 16) (.k (V.b false))⟩,
     ⟨(some 18), none, .mv (.t 17)⟩,
     ⟨(some 19), (some (18, true)), .fa 2 (.t 1)⟩,
     ⟨(some 20), (some (18, true)), .ld false 1 (.t 19)⟩,
     ⟨(some 21), (some (18, true)), .call 70 true [(.t 20), (.k (V.i 0)), (.k (V.i 1439))]⟩,
     ⟨(some 22), none, .pick (.t 18) (.t 21) (.k (V.b false))⟩,
     ⟨(some 23), none, .mv (.t 22)⟩,
     ⟨(some 24), (some (23, true)), .fa 3 (.t 1)⟩,
     ⟨(some 25), (some (23, true)), .ld false 1 (.t 24)⟩,
     ⟨(some 26), (some (23, true)), .call 70 true [(.t 25), (.k (V.i 1)), (.k (V.i 4320))]⟩,
     ⟨(some 27), none, .pick (.t 23) (.t 26) (.k (V.b false))⟩,
     ⟨(some 28), none, .mv (.t 27)⟩,
     ⟨(some 29), (some (28, true)), .fa 4 (.t 1)⟩,
     ⟨(some 30), (some (28, true)), .ld false 1 (.t 29)⟩,
     ⟨(some 31), (some (28, true)), .call 70 true [(.t 30), (.k (V.i 1)), (.k (V.i 127))]⟩,
     ⟨(some 32), none, .pick (.t 28) (.t 31) (.k (V.b false))⟩,
     ⟨(some 33), none, .mv (.t 32)⟩,
     ⟨(some 34), (some (33, true)), .fa 5 (.t 1)⟩,
     ⟨(some 35), (some (33, true)), .ld false 1 (.t 34)⟩,
     ⟨(some 36), (some (33, true)), .call 70 true [(.t 35), (.k (V.i 0)), (.k (V.i 1000000))]⟩,
     ⟨(some 37), none, .pick (.t 33) (.t 36) (.k (V.b false))⟩,
     ⟨(some 2), none, .mv (.t 37)⟩] [2])
  (.ret))
def rv100 : List RV := [.t 2]
open Go.Proofs Go.IntWalk
set_option linter.unusedVariables false
set_option maxRecDepth 100000
set_option maxHeartbeats 4000000
def I_IsLeg (g : G) (t : TE) (a0 : Leg) : Option Bool :=
  cl (I_IsPlace g t a0.From) fun x1 =>
  br x1
  (
   cl (I_IsPlace g t a0.To) fun x2 =>
   br x2
   (
    br (g.seq a0.From a0.To)
    (
     some false)
    (
     lP (I_within g t a0.Start 0 1439) fun x3 =>
     br x3
     (
      lP (I_within g t a0.Takes 1 4320) fun x4 =>
      br x4
      (
       lP (I_within g t a0.Days 1 127) fun x5 =>
       br x5
       (
        lP (I_within g t a0.Room 0 1000000) fun x6 =>
        some x6)
       (
        some false))
      (
       some false))
     (
      some false)))
   (
    some false))
  (
   some false)
theorem fit100 : codeFit Try.prog Try.f100.ntmps (Try.f100.body.getD .skip) ir100 = true := by kernel_rfl
theorem c_I_IsLeg {g : G} {t : TE} {a0 : Leg} {r : Bool} (hg : g = G.real) (ht : t = TE.real) (h : I_IsLeg g t a0 = some r) : Fn Try.prog 100 [.g (Leg.rs t a0)] (.c (.r (.v (.bool r)))) := by
  obtain ⟨X, hX⟩ := hide (.c (.r (.v (.bool r))) : X)
  rw [← hX]
  refine fn_of (rvs := rv100) (j := ir100) Try.func100 rfl fit100 (Nat.le_of_ble_eq_true rfl) (by kernel_rfl) prog_mixed ?_
  intro g2 F hg2 hF
  obtain rfl : g2 = g := hg2.unique.trans hg.symm
  clear hg2
  obtain ⟨wrap, lt, le, eq, quo, rem, band, bor, bxor, shl, shr, nat, int, add, sub, mul, cat, seq, slt, sub3, byte, llen, nadd, nsub, dlen, dapp, dset, drep, rd, rda, up, rsub, dsub, all, sle, slen, hasI, putI, hasS, putS, imin, imax, fzc, bstr⟩ := g2
  obtain ⟨r_Leg, d_Leg, r_I64, d_I64, r_Booking, d_Booking, r_Trip, d_Trip, r_S, d_S, r_LI64, d_LI64, r_U8, d_U8, r_Fd⟩ := t
  obtain ⟨a0_From, a0_To, a0_Start, a0_Takes, a0_Days, a0_Room⟩ := a0
  unfold I_IsLeg at h
  try dsimp only at h
  cbv
  obtain ⟨x1, hx1, h⟩ := of_cl h
  try dsimp only at h
  refine ACall.mk _ _ rfl (hF _ _ _ (c_I_IsPlace hg ht hx1)) (.inl rfl) (Nat.le_of_ble_eq_true rfl) ?_
  cbv
  cases hb1 : x1 with
  | true =>
    rw [br_true hb1] at h
    cbv
    try (rw [hb1]; cbv)
    try (rw [hb1]; cbv)
    obtain ⟨x2, hx2, h⟩ := of_cl h
    try dsimp only at h
    refine ACall.mk _ _ rfl (hF _ _ _ (c_I_IsPlace hg ht hx2)) (.inl rfl) (Nat.le_of_ble_eq_true rfl) ?_
    cbv
    try (rw [hb1]; cbv)
    cases hb2 : x2 with
    | true =>
      rw [br_true hb2] at h
      cbv
      try (rw [hb2]; cbv)
      try (rw [hb2]; cbv)
      try (rw [hb2]; cbv)
      try (rw [hb2]; cbv)
      try (rw [hb2]; cbv)
      cases hb3 : (seq a0_From a0_To) with
      | true =>
        rw [br_true hb3] at h
        cbv
        try (rw [hb3]; cbv)
        try (rw [hb3]; cbv)
        try (rw [hb3]; cbv)
        obtain rfl := Option.some.inj h
        exact ARet.mk trivial hX.symm
      | false =>
        rw [br_false hb3] at h
        cbv
        try (rw [hb3]; cbv)
        try (rw [hb3]; cbv)
        obtain ⟨x3, hx3, h⟩ := of_lP h
        try dsimp only at h
        refine ACall.mk _ _ rfl (hF _ _ _ (c_I_within hg ht hx3)) (.inl rfl) (Nat.le_of_ble_eq_true rfl) ?_
        cbv
        try (rw [hb3]; cbv)
        cases hb4 : x3 with
        | true =>
          rw [br_true hb4] at h
          cbv
          try (rw [hb4]; cbv)
          try (rw [hb4]; cbv)
          obtain ⟨x4, hx4, h⟩ := of_lP h
          try dsimp only at h
          refine ACall.mk _ _ rfl (hF _ _ _ (c_I_within hg ht hx4)) (.inl rfl) (Nat.le_of_ble_eq_true rfl) ?_
          cbv
          try (rw [hb4]; cbv)
          cases hb5 : x4 with
          | true =>
            rw [br_true hb5] at h
            cbv
            try (rw [hb5]; cbv)
            try (rw [hb5]; cbv)
            obtain ⟨x5, hx5, h⟩ := of_lP h
            try dsimp only at h
            refine ACall.mk _ _ rfl (hF _ _ _ (c_I_within hg ht hx5)) (.inl rfl) (Nat.le_of_ble_eq_true rfl) ?_
            cbv
            try (rw [hb5]; cbv)
            cases hb6 : x5 with
            | true =>
              rw [br_true hb6] at h
              cbv
              try (rw [hb6]; cbv)
              try (rw [hb6]; cbv)
              obtain ⟨x6, hx6, h⟩ := of_lP h
              try dsimp only at h
              refine ACall.mk _ _ rfl (hF _ _ _ (c_I_within hg ht hx6)) (.inl rfl) (Nat.le_of_ble_eq_true rfl) ?_
              cbv
              try (rw [hb6]; cbv)
              obtain rfl := Option.some.inj h
              exact ARet.mk trivial hX.symm
            | false =>
              rw [br_false hb6] at h
              cbv
              try (rw [hb6]; cbv)
              try (rw [hb6]; cbv)
              try (rw [hb6]; cbv)
              obtain rfl := Option.some.inj h
              exact ARet.mk trivial hX.symm
          | false =>
            rw [br_false hb5] at h
            cbv
            try (rw [hb5]; cbv)
            try (rw [hb5]; cbv)
            try (rw [hb5]; cbv)
            obtain rfl := Option.some.inj h
            exact ARet.mk trivial hX.symm
        | false =>
          rw [br_false hb4] at h
          cbv
          try (rw [hb4]; cbv)
          try (rw [hb4]; cbv)
          try (rw [hb4]; cbv)
          obtain rfl := Option.some.inj h
          exact ARet.mk trivial hX.symm
    | false =>
      rw [br_false hb2] at h
      cbv
      try (rw [hb2]; cbv)
      try (rw [hb2]; cbv)
      try (rw [hb2]; cbv)
      try (rw [hb2]; cbv)
      try (rw [hb2]; cbv)
      obtain rfl := Option.some.inj h
      exact ARet.mk trivial hX.symm
  | false =>
    rw [br_false hb1] at h
    cbv
    try (rw [hb1]; cbv)
    try (rw [hb1]; cbv)
    try (rw [hb1]; cbv)
    obtain rfl := Option.some.inj h
    exact ARet.mk trivial hX.symm
end Go.Vs
namespace Go.Vs
set_option maxRecDepth 100000
def ir69 : J :=
  .seq (.reg none [⟨(some 1), none, .box (.t 0)⟩,
     ⟨(some 2), none, .mv (.k (V.b false))⟩] [1])
  (.seq (.seq (.reg none [⟨(some 7), none, .fa 0 (.t 1)⟩,
      ⟨(some 8), none, .ld false 1 (.t 7)⟩,
      ⟨(some 9), none, .len false (.t 8)⟩,
      ⟨(some 10), none, .mv (.k (V.i 0))⟩] [1, 8, 9, 10])
   (.bl 0 (.seq (.reg none [⟨(some 11), none, .bin .lss .i (.t 10) (.t 9)⟩] [1, 8, 9, 10, 11])
    (.seq (.cond (.t 11)
      (.skip)
      (.exit 0))
    (.seq (.block 1 (.seq (.reg none [⟨(some 12), none, .ia 6 (.t 8) (.t 10)⟩,
         ⟨(some 13), none, .ld true 6 (.t 12)⟩,
         ⟨(some 4), none, .alloc [.r (.v (.string .empty)), .r (.v (.string .empty)), .r (.v (.int .i64 0)), .r (.v (.int .i64 0)), .r (.v (.int .i64 0)), .r (.v (.int .i64 0))]⟩,
         ⟨none, none, .st 6 (.t 4) (.t 13)⟩] [1, 4, 8, 9, 10])
      (.seq (.reg none [⟨(some 14), none, .ld true 6 (.t 4)⟩,
         ⟨(some 15), none, .call 100 true [(.t 14)]⟩,
         ⟨(some 16), none, .not (.t 15)⟩] [1, 8, 9, 10, 16])
      (.cond (.t 16)
       (.seq (.reg none [⟨(some 2), none, .mv (.k (V.b false))⟩] [2])
        (.ret))
       (.skip)))))
    (.reg none [⟨(some 17), none, .bin .add .i (.t 10) (.k (V.i 1))⟩,
      ⟨(some 10), none, .mv (.t 17)⟩] [1, 8, 9, 10]))))))
  (.seq (.seq (.reg none [⟨(some 18), none, .fa 1 (.t 1)⟩,
      ⟨(some 19), none, .ld false 1 (.t 18)⟩,
      ⟨(some 20), none, .len false (.t 19)⟩,
      ⟨(some 21), none, .mv (.k (V.i 0))⟩] [1, 19, 20, 21])
   (.bl 2 (.seq (.reg none [⟨(some 22), none, .bin .lss .i (.t 21) (.t 20)⟩] [1, 19, 20, 21, 22])
    (.seq (.cond (.t 22)
      (.skip)
      (.exit 2))
    (.seq (.block 3 (.seq (.reg none [⟨(some 23), none, .mv (.t 21)⟩,
         ⟨(some 24), none, .ia 1 (.t 19) (.t 21)⟩,
         ⟨(some 25), none, .ld false 1 (.t 24)⟩,
         ⟨(some 5), none, .mv (.t 23)⟩,
         ⟨(some 6), none, .mv (.t 25)⟩] [1, 5, 6, 19, 20, 21])
      (.seq (.reg none [⟨(some 26), none, .mv (.t 6)⟩,
         ⟨(some 27), none, .call 70 true [(.t 26), (.k (V.i 0)), (.k (V.i 60))]⟩,
         ⟨(some 28), none, .not (.t 27)⟩,
         ⟨(some 29), none, .mv (.t 28)⟩,
         ⟨(some 30), (some (29, false)), .mv (.t 5)⟩,
         ⟨(some 31), (some (29, false)), .bin .gtr .i (.t 30) (.k (V.i 0))⟩,
         ⟨(some 32), (some (29, false)), .mv (.t 31)⟩,
         ⟨(some 33), (some (32, true)), .fa 1 (.t 1)⟩,
         ⟨(some 34), (some (32, true)), .ld false 1 (.t 33)⟩,
         ⟨(some 35), (some (32, true)), .mv (.t 5)⟩,
         ⟨(some 36), (some (32, true)), .bin .sub .i (.t 35) (.k (V.i 1))⟩,
         ⟨(some 37), (some (32, true)), .ia 1 (.t 34) (.t 36)⟩,
         ⟨(some 38), (some (32, true)), .ld false 1 (.t 37)⟩,
         ⟨(some 39), (some (32, true)), .mv (.t 6)⟩,
         ⟨(some 40), (some (32, true)), .bin .geq .i (.t 38) (.t 39)⟩,
         ⟨(some 41), (some (29, false)), .pick (.t 32) (.t 40) (.k (V.b false))⟩,
         ⟨(some 42), none, .pick (.t 29) (.k (V.b true)) (.t 41)⟩] [1, 19, 20, 21, 42])
      (.cond (.t 42)
       (.seq (.reg none [⟨(some 2), none, .mv (.k (V.b false))⟩] [2])
        (.ret))
       (.skip)))))
    (.reg none [⟨(some 43), none, .bin .add .i (.t 21) (.k (V.i 1))⟩,
      ⟨(some 21), none, .mv (.t 43)⟩] [1, 19, 20, 21]))))))
  (.seq (.reg none [⟨(some 44), none, .fa 0 (.t 1)⟩,
     ⟨(some 45), none, .ld false 1 (.t 44)⟩,
     ⟨(some 46), none, .len false (.t 45)⟩,
     ⟨(some 47), none, .bin .leq .i (.t 46) (.k (V.i 20))⟩,
     ⟨(some 48), none, .mv (.t 47)⟩,
     ⟨(some 49), (some (48, true)), .fa 1 (.t 1)⟩,
     ⟨(some 50), (some (48, true)), .ld false 1 (.t 49)⟩,
     ⟨(some 51), (some (48, true)), .len false (.t 50)⟩,
     ⟨(some 52), (some (48, true)), .bin .leq .i (.t 51) (.k (V.i 10))⟩,
     ⟨(some 53), none, .pick (.t 48) (.t 52) (.k (V.b false))⟩,
     ⟨(some 54), none, .mv (.t 53)⟩,
     ⟨(some 55), (some (54, true)), .fa 2 (.t 1)⟩,
     ⟨(some 56), (some (54, true)), .ld false 1 (.t 55)⟩,
     ⟨(some 57), (some (54, true)), .call 70 true [(.t 56), (.k (V.i 0)), (.k (V.i 240))]⟩,
     ⟨(some 58), none, .pick (.t 54) (.t 57) (.k (V.b false))⟩,
     ⟨(some 2), none, .mv (.t 58)⟩] [2])
  (.ret))))
def rv69 : List RV := [.t 2]
open Go.Proofs Go.IntWalk
set_option linter.unusedVariables false
set_option maxRecDepth 100000
set_option maxHeartbeats 4000000
def I_IsNetwork_l2 (g : G) (t : TE) (a0 : Network) : List Int → Int → Option (LR Bool Unit)
  | [], v2 =>
    some (LR.out ())
  | z2 :: ls2, v2 =>
    lP (I_within g t z2 0 60) fun x2 =>
    br x2
    (
     br (g.lt 0 v2)
     (
      gd (((0 : Int) ≤ (g.wrap .i64 (g.sub v2 1)))) <|
      gt a0.Off (g.nat (g.wrap .i64 (g.sub v2 1))) fun x3 =>
      br (g.le z2 x3)
      (
       some (LR.ret false))
      (
       I_IsNetwork_l2 g t a0 ls2 (g.wrap .i64 (g.add v2 1))))
     (
      I_IsNetwork_l2 g t a0 ls2 (g.wrap .i64 (g.add v2 1))))
    (
     some (LR.ret false))
def I_IsNetwork_l1 (g : G) (t : TE) : List Leg → Option (LR Bool Unit)
  | [] =>
    some (LR.out ())
  | z1 :: ls1 =>
    cl (I_IsLeg g t z1) fun x1 =>
    br x1
    (
     I_IsNetwork_l1 g t ls1)
    (
     some (LR.ret false))
def I_IsNetwork (g : G) (t : TE) (a0 : Network) : Option Bool :=
  cl (I_IsNetwork_l1 g t a0.Legs) fun o1 => lr o1 fun y1 =>
  cl (I_IsNetwork_l2 g t a0 a0.Off 0) fun o2 => lr o2 fun y2 =>
  br (g.le (g.llen (t.r_Leg a0.Legs)) 20)
  (
   br (g.le (g.llen (t.r_I64 a0.Off)) 10)
   (
    lP (I_within g t a0.Change 0 240) fun x4 =>
    some x4)
   (
    some false))
  (
   some false)
theorem fit69 : codeFit Try.prog Try.f69.ntmps (Try.f69.body.getD .skip) ir69 = true := by kernel_rfl
theorem c_I_IsNetwork {g : G} {t : TE} {a0 : Network} {r : Bool} (hg : g = G.real) (ht : t = TE.real) (h : I_IsNetwork g t a0 = some r) : Fn Try.prog 69 [.g (Network.rs t a0)] (.c (.r (.v (.bool r)))) := by
  obtain ⟨X, hX⟩ := hide (.c (.r (.v (.bool r))) : X)
  rw [← hX]
  refine fn_of (rvs := rv69) (j := ir69) Try.func69 rfl fit69 (Nat.le_of_ble_eq_true rfl) (by kernel_rfl) prog_mixed ?_
  intro g2 F hg2 hF
  obtain rfl : g2 = g := hg2.unique.trans hg.symm
  clear hg2
  obtain ⟨wrap, lt, le, eq, quo, rem, band, bor, bxor, shl, shr, nat, int, add, sub, mul, cat, seq, slt, sub3, byte, llen, nadd, nsub, dlen, dapp, dset, drep, rd, rda, up, rsub, dsub, all, sle, slen, hasI, putI, hasS, putS, imin, imax, fzc, bstr⟩ := g2
  obtain ⟨r_Leg, d_Leg, r_I64, d_I64, r_Booking, d_Booking, r_Trip, d_Trip, r_S, d_S, r_LI64, d_LI64, r_U8, d_U8, r_Fd⟩ := t
  obtain ⟨a0_Legs, a0_Off, a0_Change⟩ := a0
  unfold I_IsNetwork at h
  try dsimp only at h
  cbv
  obtain ⟨o1, ho1, h⟩ := of_cl h
  try dsimp only at h
  try rw [hg] at ho1
  try rw [ht] at ho1
  refine ABL.mk { p : Nat × Int // p.1 ≤ a0_Legs.length ∧ p.2 = ((p.1 : Nat) : Int) ∧ I_IsNetwork_l1 G.real TE.real (List.drop p.1 a0_Legs) = some o1 } (fun ⟨⟨k1, v1⟩, _⟩ => ({ sl := [(1, .c (.p 0 3 0 0)), (8, .c (.r (.s 6 (r_Leg a0_Legs)))), (9, .c (.r (.v (.int .i64 (llen (r_Leg a0_Legs)))))), (10, .c (.r (.v (.int .i64 v1))))], tab := [(0, some (.foc 3 [] [.r (.s 6 (r_Leg a0_Legs)), .r (.s 1 (r_I64 a0_Off)), .r (.v (.int .i64 a0_Change))] []))] } : St)) 1 (fun p => a0_Legs.length - p.1.1) ⟨(0, 0), Nat.zero_le _, rfl, ho1⟩ (Unit) (fun _ => ({ sl := [(1, .c (.p 0 3 0 0))], tab := [(0, some (.foc 3 [] [.r (.s 6 (r_Leg a0_Legs)), .r (.s 1 (r_I64 a0_Off)), .r (.v (.int .i64 a0_Change))] []))] } : St)) 1 (fun y => o1 = LR.out y) ?_ ?_ ?_
  · refine Wk.of [(0, some 0)] rfl rfl ?_ ?_
    · cbv
      all_goals exact ⟨⟨_, rfl, rfl⟩, ⟨_, rfl, rfl⟩, ⟨_, rfl, rfl⟩, ⟨_, rfl, rfl⟩, trivial⟩
    · cbv
      all_goals exact ⟨⟨_, rfl, _, rfl, rfl, rfl, rfl, trivial⟩, trivial⟩
  · rintro ⟨⟨k1, v1⟩, hk1, hi1, h_1⟩ hq1
    have hm1 := (hq1.1 8 _ _ rfl)
    try dsimp only at hk1 hi1 h_1
    clear hq1
    cbv
    by_cases hc1_ : k1 < a0_Legs.length
    · have hb1 : lt v1 (llen (r_Leg a0_Legs)) = true := ltL_true_Leg hg ht hi1 hc1_
      have hs1 := stepL_Leg hg ht hi1 hc1_ hm1
      obtain ⟨z1, hz1⟩ := some_of_lt hc1_
      rw [drop_of_some hz1] at h_1
      rw [I_IsNetwork_l1] at h_1
      obtain ⟨z1_From, z1_To, z1_Start, z1_Takes, z1_Days, z1_Room⟩ := z1
      try rw [← hg] at h_1
      try rw [← ht] at h_1
      try dsimp only at h_1
      rw [hb1]
      cbv
      refine AStep.mk (nn_L hi1) ?_
      cbv
      refine AGet.mk _ (r_getL_Leg hg ht hi1 hz1) ?_
      cbv
      obtain ⟨x1, hx1, h_1⟩ := of_cl h_1
      try dsimp only at h_1
      refine ACall.mk _ _ rfl (hF _ _ _ (c_I_IsLeg hg ht hx1)) (.inl rfl) (Nat.le_of_ble_eq_true rfl) ?_
      cbv
      cases hb2 : x1 with
      | true =>
        rw [br_true hb2] at h_1
        cbv
        try rw [hg] at h_1
        try rw [ht] at h_1
        refine ⟨⟨(k1 + 1, (wrap .i64 (add v1 1))), hc1_, hs1, h_1⟩, Wk.of [(0, some 0)] rfl rfl ?_ ?_, meas_L hc1_⟩
        · cbv
          all_goals exact ⟨⟨_, rfl, rfl⟩, ⟨_, rfl, rfl⟩, ⟨_, rfl, rfl⟩, ⟨_, rfl, rfl⟩, trivial⟩
        · cbv
          all_goals exact ⟨⟨_, rfl, _, rfl, rfl, rfl, rfl, trivial⟩, trivial⟩
      | false =>
        rw [br_false hb2] at h_1
        cbv
        obtain rfl := Option.some.inj h_1
        try dsimp only [lr, lrL, lrp, lrpL] at h
        obtain rfl := Option.some.inj h
        exact ARet.mk trivial hX.symm
    · have hb1 : lt v1 (llen (r_Leg a0_Legs)) = false := ltL_false_Leg hg ht hi1 hc1_
      rw [List.drop_of_length_le (Nat.le_of_not_lt hc1_)] at h_1
      rw [I_IsNetwork_l1] at h_1
      try rw [← hg] at h_1
      try rw [← ht] at h_1
      try dsimp only at h_1
      rw [hb1]
      cbv
      refine ⟨(), Wk.of [(0, some 0)] rfl rfl ?_ ?_, (Option.some.inj h_1).symm⟩
      · cbv
        all_goals exact ⟨⟨_, rfl, rfl⟩, trivial⟩
      · cbv
        all_goals exact ⟨⟨_, rfl, _, rfl, rfl, rfl, rfl, trivial⟩, trivial⟩
  · rintro _ hy1
    replace hy1 := hy1.symm
    subst hy1
    try dsimp only [lr, lrL, lrp, lrpL] at h
    cbv
    obtain ⟨o2, ho2, h⟩ := of_cl h
    try dsimp only at h
    try rw [hg] at ho2
    try rw [ht] at ho2
    refine ABL.mk { p : Nat × Int // p.1 ≤ a0_Off.length ∧ p.2 = ((p.1 : Nat) : Int) ∧ I_IsNetwork_l2 G.real TE.real (Network.mk a0_Legs a0_Off a0_Change) (List.drop p.1 a0_Off) p.2 = some o2 } (fun ⟨⟨k2, v2⟩, _⟩ => ({ sl := [(1, .c (.p 0 3 0 0)), (19, .c (.r (.s 1 (r_I64 a0_Off)))), (20, .c (.r (.v (.int .i64 (llen (r_I64 a0_Off)))))), (21, .c (.r (.v (.int .i64 v2))))], tab := [(0, some (.foc 3 [] [.r (.s 6 (r_Leg a0_Legs)), .r (.s 1 (r_I64 a0_Off)), .r (.v (.int .i64 a0_Change))] []))] } : St)) 1 (fun p => a0_Off.length - p.1.1) ⟨(0, 0), Nat.zero_le _, rfl, ho2⟩ (Unit) (fun _ => ({ sl := [(1, .c (.p 0 3 0 0))], tab := [(0, some (.foc 3 [] [.r (.s 6 (r_Leg a0_Legs)), .r (.s 1 (r_I64 a0_Off)), .r (.v (.int .i64 a0_Change))] []))] } : St)) 1 (fun y => o2 = LR.out y) ?_ ?_ ?_
    · refine Wk.of [(0, some 0)] rfl rfl ?_ ?_
      · cbv
        all_goals exact ⟨⟨_, rfl, rfl⟩, ⟨_, rfl, rfl⟩, ⟨_, rfl, rfl⟩, ⟨_, rfl, rfl⟩, trivial⟩
      · cbv
        all_goals exact ⟨⟨_, rfl, _, rfl, rfl, rfl, rfl, trivial⟩, trivial⟩
    · rintro ⟨⟨k2, v2⟩, hk2, hi2, h_2⟩ hq2
      have hm2 := (hq2.1 19 _ _ rfl)
      try dsimp only at hk2 hi2 h_2
      clear hq2
      cbv
      by_cases hc2_ : k2 < a0_Off.length
      · have hb3 : lt v2 (llen (r_I64 a0_Off)) = true := ltL_true_I64 hg ht hi2 hc2_
        have hs2 := stepL_I64 hg ht hi2 hc2_ hm2
        obtain ⟨z2, hz2⟩ := some_of_lt hc2_
        rw [drop_of_some hz2] at h_2
        rw [I_IsNetwork_l2] at h_2
        try rw [← hg] at h_2
        try rw [← ht] at h_2
        try dsimp only at h_2
        rw [hb3]
        cbv
        refine AStep.mk (nn_L hi2) ?_
        cbv
        refine AGet.mk _ (r_getL_I64 hg ht hi2 hz2) ?_
        cbv
        obtain ⟨x2, hx2, h_2⟩ := of_lP h_2
        try dsimp only at h_2
        refine ACall.mk _ _ rfl (hF _ _ _ (c_I_within hg ht hx2)) (.inl rfl) (Nat.le_of_ble_eq_true rfl) ?_
        cbv
        cases hb4 : x2 with
        | true =>
          rw [br_true hb4] at h_2
          cbv
          try (rw [hb4]; cbv)
          try (rw [hb4]; cbv)
          cases hb5 : (lt 0 v2) with
          | true =>
            rw [br_true hb5] at h_2
            cbv
            try (rw [hb5]; cbv)
            try (rw [hb5]; cbv)
            try (rw [hb5]; cbv)
            try (rw [hb5]; cbv)
            obtain ⟨hc1, h_2⟩ := of_gd h_2
            refine AStep.mk hc1 ?_
            cbv
            obtain ⟨x3, hx3, h_2⟩ := of_gt h_2
            try dsimp only at h_2
            refine AGet.mk _ (r_get_I64 hg ht hx3) ?_
            cbv
            try (rw [hb5]; cbv)
            try (rw [hb5]; cbv)
            try (rw [hb5]; cbv)
            try (rw [hb4]; cbv)
            try (rw [hb5]; cbv)
            try (rw [hb4]; cbv)
            cases hb6 : (le z2 x3) with
            | true =>
              rw [br_true hb6] at h_2
              cbv
              obtain rfl := Option.some.inj h_2
              try dsimp only [lr, lrL, lrp, lrpL] at h
              obtain rfl := Option.some.inj h
              exact ARet.mk trivial hX.symm
            | false =>
              rw [br_false hb6] at h_2
              cbv
              try rw [hg] at h_2
              try rw [ht] at h_2
              refine ⟨⟨(k2 + 1, (wrap .i64 (add v2 1))), hc2_, hs2, h_2⟩, Wk.of [(0, some 0)] rfl rfl ?_ ?_, meas_L hc2_⟩
              · cbv
                all_goals exact ⟨⟨_, rfl, rfl⟩, ⟨_, rfl, rfl⟩, ⟨_, rfl, rfl⟩, ⟨_, rfl, rfl⟩, trivial⟩
              · cbv
                all_goals exact ⟨⟨_, rfl, _, rfl, rfl, rfl, rfl, trivial⟩, trivial⟩
          | false =>
            rw [br_false hb5] at h_2
            cbv
            try (rw [hb5]; cbv)
            try (rw [hb5]; cbv)
            try (rw [hb5]; cbv)
            try (rw [hb5]; cbv)
            try (rw [hb5]; cbv)
            try (rw [hb5]; cbv)
            try (rw [hb5]; cbv)
            try (rw [hb4]; cbv)
            try (rw [hb5]; cbv)
            try (rw [hb4]; cbv)
            try rw [hg] at h_2
            try rw [ht] at h_2
            refine ⟨⟨(k2 + 1, (wrap .i64 (add v2 1))), hc2_, hs2, h_2⟩, Wk.of [(0, some 0)] rfl rfl ?_ ?_, meas_L hc2_⟩
            · cbv
              all_goals exact ⟨⟨_, rfl, rfl⟩, ⟨_, rfl, rfl⟩, ⟨_, rfl, rfl⟩, ⟨_, rfl, rfl⟩, trivial⟩
            · cbv
              all_goals exact ⟨⟨_, rfl, _, rfl, rfl, rfl, rfl, trivial⟩, trivial⟩
        | false =>
          rw [br_false hb4] at h_2
          cbv
          try (rw [hb4]; cbv)
          try (rw [hb4]; cbv)
          try (rw [hb4]; cbv)
          try (rw [hb4]; cbv)
          obtain rfl := Option.some.inj h_2
          try dsimp only [lr, lrL, lrp, lrpL] at h
          obtain rfl := Option.some.inj h
          exact ARet.mk trivial hX.symm
      · have hb3 : lt v2 (llen (r_I64 a0_Off)) = false := ltL_false_I64 hg ht hi2 hc2_
        rw [List.drop_of_length_le (Nat.le_of_not_lt hc2_)] at h_2
        rw [I_IsNetwork_l2] at h_2
        try rw [← hg] at h_2
        try rw [← ht] at h_2
        try dsimp only at h_2
        rw [hb3]
        cbv
        refine ⟨(), Wk.of [(0, some 0)] rfl rfl ?_ ?_, (Option.some.inj h_2).symm⟩
        · cbv
          all_goals exact ⟨⟨_, rfl, rfl⟩, trivial⟩
        · cbv
          all_goals exact ⟨⟨_, rfl, _, rfl, rfl, rfl, rfl, trivial⟩, trivial⟩
    · rintro _ hy2
      replace hy2 := hy2.symm
      subst hy2
      try dsimp only [lr, lrL, lrp, lrpL] at h
      cbv
      cases hb7 : (le (llen (r_Leg a0_Legs)) 20) with
      | true =>
        rw [br_true hb7] at h
        cbv
        try (rw [hb7]; cbv)
        try (rw [hb7]; cbv)
        try (rw [hb7]; cbv)
        try (rw [hb7]; cbv)
        cases hb8 : (le (llen (r_I64 a0_Off)) 10) with
        | true =>
          rw [br_true hb8] at h
          cbv
          try (rw [hb8]; cbv)
          try (rw [hb8]; cbv)
          obtain ⟨x4, hx4, h⟩ := of_lP h
          try dsimp only at h
          refine ACall.mk _ _ rfl (hF _ _ _ (c_I_within hg ht hx4)) (.inl rfl) (Nat.le_of_ble_eq_true rfl) ?_
          cbv
          try (rw [hb8]; cbv)
          obtain rfl := Option.some.inj h
          exact ARet.mk trivial hX.symm
        | false =>
          rw [br_false hb8] at h
          cbv
          try (rw [hb8]; cbv)
          try (rw [hb8]; cbv)
          try (rw [hb8]; cbv)
          obtain rfl := Option.some.inj h
          exact ARet.mk trivial hX.symm
      | false =>
        rw [br_false hb7] at h
        cbv
        try (rw [hb7]; cbv)
        try (rw [hb7]; cbv)
        try (rw [hb7]; cbv)
        try (rw [hb7]; cbv)
        obtain rfl := Option.some.inj h
        exact ARet.mk trivial hX.symm
end Go.Vs
namespace Go.Vs
set_option maxRecDepth 100000
def ir71 : J :=
  .seq (.reg none [⟨(some 4), none, .mv (.k (V.i 0))⟩] [0, 1])
  (.seq (.seq (.reg none [⟨(some 7), none, .mv (.t 0)⟩,
      ⟨(some 8), none, .len false (.t 7)⟩,
      ⟨(some 9), none, .mv (.k (V.i 0))⟩] [1, 7, 8, 9])
   (.bl 0 (.seq (.reg none [⟨(some 10), none, .bin .lss .i (.t 9) (.t 8)⟩] [1, 7, 8, 9, 10])
    (.seq (.cond (.t 10)
      (.skip)
      (.exit 0))
    (.seq (.block 1 (.seq (.reg none [⟨(some 11), none, .mv (.t 9)⟩,
         ⟨(some 12), none, .ia 1 (.t 7) (.t 9)⟩,
         ⟨(some 13), none, .ld false 1 (.t 12)⟩,
         ⟨(some 5), none, .mv (.t 11)⟩,
         ⟨(some 6), none, .mv (.t 13)⟩] [1, 5, 6, 7, 8, 9])
      (.seq (.reg none [⟨(some 14), none, .mv (.t 6)⟩,
         ⟨(some 15), none, .mv (.t 1)⟩,
         ⟨(some 16), none, .bin .eql .s (.t 14) (.t 15)⟩] [1, 5, 7, 8, 9, 16])
      (.cond (.t 16)
       (.seq (.reg none [⟨(some 17), none, .mv (.t 5)⟩,
           ⟨(some 4), none, .mv (.t 17)⟩] [4])
        (.ret))
       (.skip)))))
    (.reg none [⟨(some 18), none, .bin .add .i (.t 9) (.k (V.i 1))⟩,
      ⟨(some 9), none, .mv (.t 18)⟩] [1, 7, 8, 9]))))))
  (.seq (.reg none [⟨(some 4), none, .mv (.k (V.i (-1)))⟩] [4])
  (.ret)))
def rv71 : List RV := [.t 4]
open Go.Proofs Go.IntWalk
set_option linter.unusedVariables false
set_option maxRecDepth 100000
set_option maxHeartbeats 4000000
def I_placeAt_l1 (g : G) (t : TE) (a1 : ByteArray) : List ByteArray → Int → LR Int Unit
  | [], v1 =>
    (LR.out ())
  | z1 :: ls1, v1 =>
    br (g.seq z1 a1)
    (
     (LR.ret v1))
    (
     I_placeAt_l1 g t a1 ls1 (g.wrap .i64 (g.add v1 1)))
def I_placeAt (g : G) (t : TE) (a0 : List ByteArray) (a1 : ByteArray) : Int :=
  lP (I_placeAt_l1 g t a1 a0 0) fun o1 => lrp o1 fun y1 =>
  (-1)
theorem fit71 : codeFit Try.prog Try.f71.ntmps (Try.f71.body.getD .skip) ir71 = true := by kernel_rfl
theorem c_I_placeAt {g : G} {t : TE} {a0 : List ByteArray} {a1 : ByteArray} {r : Int} (hg : g = G.real) (ht : t = TE.real) (h : I_placeAt g t a0 a1 = r) : Fn Try.prog 71 [.c (.s 1 (t.r_S a0)), .c (.v (.string a1))] (.c (.r (.v (.int .i64 r)))) := by
  obtain ⟨X, hX⟩ := hide (.c (.r (.v (.int .i64 r))) : X)
  rw [← hX]
  refine fn_of (rvs := rv71) (j := ir71) Try.func71 rfl fit71 (Nat.le_of_ble_eq_true rfl) (by kernel_rfl) prog_mixed ?_
  intro g2 F hg2 hF
  obtain rfl : g2 = g := hg2.unique.trans hg.symm
  clear hg2
  obtain ⟨wrap, lt, le, eq, quo, rem, band, bor, bxor, shl, shr, nat, int, add, sub, mul, cat, seq, slt, sub3, byte, llen, nadd, nsub, dlen, dapp, dset, drep, rd, rda, up, rsub, dsub, all, sle, slen, hasI, putI, hasS, putS, imin, imax, fzc, bstr⟩ := g2
  obtain ⟨r_Leg, d_Leg, r_I64, d_I64, r_Booking, d_Booking, r_Trip, d_Trip, r_S, d_S, r_LI64, d_LI64, r_U8, d_U8, r_Fd⟩ := t
  unfold I_placeAt at h
  try dsimp only at h
  cbv
  obtain ⟨o1, ho1, h⟩ := of_lP h
  try dsimp only at h
  try rw [hg] at ho1
  try rw [ht] at ho1
  refine ABL.mk { p : Nat × Int // p.1 ≤ a0.length ∧ p.2 = ((p.1 : Nat) : Int) ∧ I_placeAt_l1 G.real TE.real a1 (List.drop p.1 a0) p.2 = o1 } (fun ⟨⟨k1, v1⟩, _⟩ => ({ sl := [(1, .c (.r (.v (.string a1)))), (7, .c (.r (.s 1 (r_S a0)))), (8, .c (.r (.v (.int .i64 (llen (r_S a0)))))), (9, .c (.r (.v (.int .i64 v1))))], tab := [] } : St)) 0 (fun p => a0.length - p.1.1) ⟨(0, 0), Nat.zero_le _, rfl, ho1⟩ (Unit) (fun _ => ({ sl := [], tab := [] } : St)) 0 (fun y => o1 = LR.out y) ?_ ?_ ?_
  · refine Wk.of [] rfl rfl ?_ ?_
    · cbv
      all_goals exact ⟨⟨_, rfl, rfl⟩, ⟨_, rfl, rfl⟩, ⟨_, rfl, rfl⟩, ⟨_, rfl, rfl⟩, trivial⟩
    · cbv
      all_goals exact trivial
  · rintro ⟨⟨k1, v1⟩, hk1, hi1, h_1⟩ hq1
    have hm1 := (hq1.1 7 _ _ rfl)
    try dsimp only at hk1 hi1 h_1
    clear hq1
    cbv
    by_cases hc1_ : k1 < a0.length
    · have hb1 : lt v1 (llen (r_S a0)) = true := ltL_true_S hg ht hi1 hc1_
      have hs1 := stepL_S hg ht hi1 hc1_ hm1
      obtain ⟨z1, hz1⟩ := some_of_lt hc1_
      rw [drop_of_some hz1] at h_1
      rw [I_placeAt_l1] at h_1
      try rw [← hg] at h_1
      try rw [← ht] at h_1
      try dsimp only at h_1
      rw [hb1]
      cbv
      refine AStep.mk (nn_L hi1) ?_
      cbv
      refine AGet.mk _ (r_getL_S hg ht hi1 hz1) ?_
      cbv
      cases hb2 : (seq z1 a1) with
      | true =>
        rw [br_true hb2] at h_1
        cbv
        subst h_1
        try dsimp only [lr, lrL, lrp, lrpL] at h
        subst h
        exact ARet.mk trivial hX.symm
      | false =>
        rw [br_false hb2] at h_1
        cbv
        try rw [hg] at h_1
        try rw [ht] at h_1
        refine ⟨⟨(k1 + 1, (wrap .i64 (add v1 1))), hc1_, hs1, h_1⟩, Wk.of [] rfl rfl ?_ ?_, meas_L hc1_⟩
        · cbv
          all_goals exact ⟨⟨_, rfl, rfl⟩, ⟨_, rfl, rfl⟩, ⟨_, rfl, rfl⟩, ⟨_, rfl, rfl⟩, trivial⟩
        · cbv
          all_goals exact trivial
    · have hb1 : lt v1 (llen (r_S a0)) = false := ltL_false_S hg ht hi1 hc1_
      rw [List.drop_of_length_le (Nat.le_of_not_lt hc1_)] at h_1
      rw [I_placeAt_l1] at h_1
      try rw [← hg] at h_1
      try rw [← ht] at h_1
      try dsimp only at h_1
      rw [hb1]
      cbv
      refine ⟨(), Wk.of [] rfl rfl ?_ ?_, h_1.symm⟩
      · cbv
        all_goals exact trivial
      · cbv
        all_goals exact trivial
  · rintro _ hy1
    replace hy1 := hy1.symm
    subst hy1
    try dsimp only [lr, lrL, lrp, lrpL] at h
    cbv
    subst h
    exact ARet.mk trivial hX.symm
end Go.Vs
