/- Part of the proofs of this seat's laws: Laf. No condition. -/
import Derived.Test.YtieeagobedjogaaTy
import Derived.Test.YtieeagobedjogaaTIRall
import Derived.Test.YtieeagobedjogaaLaa
import Derived.Test.YtieeagobedjogaaLac
import Derived.Test.YtieeagobedjogaaLad
set_option linter.unusedVariables false
set_option linter.unusedSimpArgs false
set_option linter.unusedSectionVars false
namespace Go.Vs
set_option maxRecDepth 100000
def ir7 : J :=
  .seq (.reg none [⟨(some 2), none, .mv (.k (V.b false))⟩] [0])
  (.seq (.seq (.reg none [⟨(some 6), none, .mv (.t 0)⟩,
      ⟨(some 7), none, .call 33 true [(.t 6)]⟩] [0, 7])
   (.cond (.t 7)
    (.seq (.reg none [⟨(some 2), none, .mv (.k (V.b true))⟩] [2])
     (.ret))
    (.skip)))
  (.seq (.reg none [⟨(some 9), none, .mv (.t 0)⟩,
     ⟨(some 10), none, .call 34 false [(.t 9)]⟩,
     ⟨(some 8), none, .mv (.t 10)⟩,
     ⟨(some 11), none, .ext 0 (.t 8)⟩,
     ⟨(some 12), none, .ext 1 (.t 8)⟩,
     ⟨(some 3), none, .alloc [.n 2, .n 3, .n 2, .n 1, .r (.v (.int .i64 0))]⟩,
     ⟨none, none, .st 5 (.t 3) (.t 11)⟩,
     ⟨(some 4), none, .mv (.t 12)⟩] [0, 3, 4])
  (.seq (.reg none [⟨(some 13), none, .mv (.t 0)⟩,
     ⟨(some 14), none, .call 39 true [(.t 13), (.k (V.i 1))]⟩,
     ⟨(some 15), none, .bin .rem .i (.t 14) (.k (V.i 9))⟩,
     ⟨(some 5), none, .mv (.t 15)⟩] [3, 4, 5])
  (.seq (.seq (.reg none [⟨(some 16), none, .mv (.t 4)⟩,
      ⟨(some 17), none, .bin .lss .i (.t 16) (.k (V.i 0))⟩,
      ⟨(some 18), none, .mv (.t 17)⟩,
      ⟨(some 19), (some (18, false)), .mv (.t 4)⟩,
      ⟨(some 20), (some (18, false)), .mv (.t 5)⟩,
      ⟨(some 21), (some (18, false)), .bin .add .i (.t 19) (.t 20)⟩,
      ⟨(some 22), (some (18, false)), .bin .gtr .i (.t 21) (.k (V.i 1000))⟩,
      ⟨(some 23), none, .pick (.t 18) (.k (V.b true)) (.t 22)⟩,
      ⟨(some 24), none, .mv (.t 23)⟩,
      ⟨(some 25), (some (24, false)), .fa 4 (.t 3)⟩,
      ⟨(some 26), (some (24, false)), .ld false 1 (.t 25)⟩,
      ⟨(some 27), (some (24, false)), .bin .lss .i (.t 26) (.k (V.i 0))⟩,
      ⟨(some 28), none, .pick (.t 24) (.k (V.b true)) (.t 27)⟩,
      ⟨(some 29), none, .mv (.t 28)⟩,
      ⟨(some 30), (some (29, false)), .fa 4 (.t 3)⟩,
      ⟨(some 31), (some (29, false)), .ld false 1 (.t 30)⟩,
      ⟨(some 32), (some (29, false)), .bin .gtr .i (.t 31) (.k (V.i 90000))⟩,
      ⟨(some 33), none, .pick (.t 29) (.k (V.b true)) (.t 32)⟩] [3, 4, 5, 33])
   (.cond (.t 33)
    (.seq (.reg none [⟨(some 2), none, .mv (.k (V.b true))⟩] [2])
     (.ret))
    (.skip)))
  (.seq (.seq (.reg (some [[], [0], [], [0, 1, 2], [0, 1, 2, 3], [0, 1, 2, 3, 4]]) [⟨(some 34), none, .ld true 5 (.t 3)⟩,
      ⟨(some 35), none, .call 40 false [(.t 34)]⟩,
      ⟨(some 36), none, .ld true 5 (.t 3)⟩,
      ⟨(some 37), none, .call 41 false [(.t 36)]⟩,
      ⟨(some 38), none, .call 35 true [(.t 35), (.t 37)]⟩,
      ⟨(some 39), none, .not (.t 38)⟩] [3, 4, 5, 39])
   (.cond (.t 39)
    (.seq (.reg none [⟨(some 2), none, .mv (.k (V.b false))⟩] [2])
     (.ret))
    (.skip)))
  (.seq (.reg (some [[], [], [0, 1], [], [0, 1, 2, 3], [], [], [], [6, 7], [0, 1, 2, 3, 4, 5, 6, 7, 8], [0, 1, 2, 3, 4, 5, 6, 7, 8, 9], [0, 1, 2, 3, 4, 5, 6, 7, 8, 9, 10], [0, 1, 2, 3, 4, 5, 6, 7, 8, 9, 10, 11], [0, 1, 2, 3, 4, 5, 6, 7, 8, 9, 10, 11, 12], [0, 1, 2, 3, 4, 5, 6, 7, 8, 9, 10, 11], [0, 1, 2, 3, 4, 5, 6, 7, 8, 9, 10, 11, 12, 13, 14], [0, 1, 2, 3, 4, 5, 6, 7, 8, 9, 10, 11, 12, 13, 14, 15], [0, 1, 2, 3, 4, 5, 6, 7, 8, 9, 10, 11, 12, 13, 14, 15, 16], [0, 1, 2, 3, 4, 5, 6, 7, 8, 9, 10, 11, 12, 13, 14, 15, 16, 17]]) [⟨(some 40), none, .ld true 5 (.t 3)⟩,
     ⟨(some 41), none, .mv (.t 5)⟩,
     ⟨(some 42), none, .call 36 false [(.t 40), (.t 41)]⟩,
     ⟨(some 43), none, .mv (.t 4)⟩,
     ⟨(some 44), none, .call 36 false [(.t 42), (.t 43)]⟩,
     ⟨(some 45), none, .ld true 5 (.t 3)⟩,
     ⟨(some 46), none, .mv (.t 5)⟩,
     ⟨(some 47), none, .mv (.t 4)⟩,
     ⟨(some 48), none, .bin .add .i (.t 46) (.t 47)⟩,
     ⟨(some 49), none, .call 36 false [(.t 45), (.t 48)]⟩,
     ⟨(some 50), none, .call 35 true [(.t 44), (.t 49)]⟩,
     ⟨(some 51), none, .mv (.t 50)⟩,
     ⟨(some 52), (some (51, true)), .ld true 5 (.t 3)⟩,
     ⟨(some 53), (some (51, true)), .call 40 false [(.t 52)]⟩,
     ⟨(some 54), (some (51, true)), .ld true 5 (.t 3)⟩,
     ⟨(some 55), (some (51, true)), .call 36 false [(.t 54), (.k (V.i 1))]⟩,
     ⟨(some 56), (some (51, true)), .call 35 true [(.t 53), (.t 55)]⟩,
     ⟨(some 57), none, .pick (.t 51) (.t 56) (.k (V.b false))⟩,
     ⟨(some 2), none, .mv (.t 57)⟩] [2])
  (.ret)))))))
def rv7 : List RV := [.t 2]
open Go.Proofs Go.IntWalk
set_option linter.unusedVariables false
set_option maxRecDepth 100000
set_option maxHeartbeats 4000000
def L_FnBeltHalves (g : G) (t : TE) (a0 : List Int) : Option Bool :=
  lP (L_big g t a0) fun x1 =>
  br x1
  (
   some true)
  (
   cl (S_DrawRunCentre g t a0) fun x2 =>
   cl (L_at g t a0 1) fun x3 =>
   br (g.lt x2.2 0)
   (
    some true)
   (
    br (g.lt 1000 (g.wrap .i64 (g.add x2.2 (g.rem x3 9))))
    (
     some true)
    (
     br (g.lt x2.1.Now 0)
     (
      some true)
     (
      br (g.lt 90000 x2.1.Now)
      (
       some true)
      (
       cl (I_TickCentre g t (Centre.mk x2.1.Belt x2.1.Chutes x2.1.Inlets x2.1.Plan x2.1.Now)) fun x4 =>
       cl (S_TickCentre g t (Centre.mk x2.1.Belt x2.1.Chutes x2.1.Inlets x2.1.Plan x2.1.Now)) fun x5 =>
       cl (L_centres g t x4 x5) fun x6 =>
       br x6
       (
        cl (I_RunCentre g t (Centre.mk x2.1.Belt x2.1.Chutes x2.1.Inlets x2.1.Plan x2.1.Now) (g.rem x3 9)) fun x7 =>
        cl (I_RunCentre g t x7 x2.2) fun x8 =>
        cl (I_RunCentre g t (Centre.mk x2.1.Belt x2.1.Chutes x2.1.Inlets x2.1.Plan x2.1.Now) (g.wrap .i64 (g.add (g.rem x3 9) x2.2))) fun x9 =>
        cl (L_centres g t x8 x9) fun x10 =>
        br x10
        (
         cl (I_TickCentre g t (Centre.mk x2.1.Belt x2.1.Chutes x2.1.Inlets x2.1.Plan x2.1.Now)) fun x11 =>
         cl (I_RunCentre g t (Centre.mk x2.1.Belt x2.1.Chutes x2.1.Inlets x2.1.Plan x2.1.Now) 1) fun x12 =>
         cl (L_centres g t x11 x12) fun x13 =>
         some x13)
        (
         some false))
       (
        some false))))))
theorem fit7 : codeFit Try.prog Try.f7.ntmps (Try.f7.body.getD .skip) ir7 = true := by kernel_rfl
theorem c_L_FnBeltHalves {g : G} {t : TE} {a0 : List Int} {r : Bool} (hg : g = G.real) (ht : t = TE.real) (h : L_FnBeltHalves g t a0 = some r) : Fn Try.prog 7 [.c (.s 1 (t.r_U8 a0))] (.c (.r (.v (.bool r)))) := by
  obtain ⟨X, hX⟩ := hide (.c (.r (.v (.bool r))) : X)
  rw [← hX]
  refine fn_of (rvs := rv7) (j := ir7) Try.func7 rfl fit7 (Nat.le_of_ble_eq_true rfl) (by kernel_rfl) prog_mixed ?_
  intro g2 F hg2 hF
  obtain rfl : g2 = g := hg2.unique.trans hg.symm
  clear hg2
  obtain ⟨wrap, lt, le, eq, quo, rem, band, bor, bxor, shl, shr, nat, int, add, sub, mul, cat, seq, slt, sub3, byte, llen, nadd, nsub, dlen, dapp, dset, drep, rd, rda, up, rsub, dsub, all, sle, slen, hasI, putI, hasS, putS, imin, imax, fzc⟩ := g2
  obtain ⟨r_Item, d_Item, r_Chute, d_Chute, r_Inlet, d_Inlet, r_I64, d_I64, r_U8, d_U8, d_InletF⟩ := t
  have hrda_Item : ∀ l, rda (d_Item l) = r_Item l := rda_Item hg ht
  have hrda_Chute : ∀ l, rda (d_Chute l) = r_Chute l := rda_Chute hg ht
  have hrda_Inlet : ∀ l, rda (d_Inlet l) = r_Inlet l := rda_Inlet hg ht
  have hrda_I64 : ∀ l, rda (d_I64 l) = r_I64 l := rda_I64 hg ht
  unfold L_FnBeltHalves at h
  try dsimp only at h
  cbv
  obtain ⟨x1, hx1, h⟩ := of_lP h
  try dsimp only at h
  refine ACall.mk _ _ rfl (hF _ _ _ (c_L_big hg ht hx1)) (.inl rfl) (Nat.le_of_ble_eq_true rfl) ?_
  cbv
  cases hb1 : x1 with
  | true =>
    rw [br_true hb1] at h
    cbv
    obtain rfl := Option.some.inj h
    exact ARet.mk trivial hX.symm
  | false =>
    rw [br_false hb1] at h
    cbv
    obtain ⟨x2, hx2, h⟩ := of_cl h
    obtain ⟨⟨x2_1_Belt, x2_1_Chutes, x2_1_Inlets, x2_1_Plan, x2_1_Now⟩, x2_2⟩ := x2
    try dsimp only at h
    refine ACallR.mk _ _ (.u [.g [.r (.s 2 (r_Item x2_1_Belt)), .r (.s 3 (r_Chute x2_1_Chutes)), .r (.s 2 (r_Inlet x2_1_Inlets)), .r (.s 1 (r_I64 x2_1_Plan)), .r (.v (.int .i64 x2_1_Now))], .c (.r (.v (.int .i64 x2_2)))]) rfl (hF _ _ _ (c_S_DrawRunCentre hg ht hx2)) (.inl rfl) (Nat.le_of_ble_eq_true rfl) (by cbv; (try simp only [hrda_Chute, hrda_I64, hrda_Inlet, hrda_Item])) ?_
    cbv
    obtain ⟨x3, hx3, h⟩ := of_cl h
    try dsimp only at h
    refine ACall.mk _ _ rfl (hF _ _ _ (c_L_at hg ht hx3)) (.inl rfl) (Nat.le_of_ble_eq_true rfl) ?_
    cbv
    refine AStep.mk (by decide) ?_
    cbv
    cases hb2 : (lt x2_2 0) with
    | true =>
      rw [br_true hb2] at h
      cbv
      try (rw [hb2]; cbv)
      try (rw [hb2]; cbv)
      try (rw [hb2]; cbv)
      try (rw [hb2]; cbv)
      obtain rfl := Option.some.inj h
      exact ARet.mk trivial hX.symm
    | false =>
      rw [br_false hb2] at h
      cbv
      try (rw [hb2]; cbv)
      try (rw [hb2]; cbv)
      try (rw [hb2]; cbv)
      try (rw [hb2]; cbv)
      cases hb3 : (lt 1000 (wrap .i64 (add x2_2 (rem x3 9)))) with
      | true =>
        rw [br_true hb3] at h
        cbv
        try (rw [hb3]; cbv)
        try (rw [hb3]; cbv)
        try (rw [hb3]; cbv)
        obtain rfl := Option.some.inj h
        exact ARet.mk trivial hX.symm
      | false =>
        rw [br_false hb3] at h
        cbv
        try (rw [hb3]; cbv)
        try (rw [hb3]; cbv)
        try (rw [hb3]; cbv)
        cases hb4 : (lt x2_1_Now 0) with
        | true =>
          rw [br_true hb4] at h
          cbv
          try (rw [hb4]; cbv)
          try (rw [hb4]; cbv)
          try (rw [hb4]; cbv)
          obtain rfl := Option.some.inj h
          exact ARet.mk trivial hX.symm
        | false =>
          rw [br_false hb4] at h
          cbv
          try (rw [hb4]; cbv)
          try (rw [hb4]; cbv)
          try (rw [hb4]; cbv)
          cases hb5 : (lt 90000 x2_1_Now) with
          | true =>
            rw [br_true hb5] at h
            cbv
            obtain rfl := Option.some.inj h
            exact ARet.mk trivial hX.symm
          | false =>
            rw [br_false hb5] at h
            cbv
            obtain ⟨x4, hx4, h⟩ := of_cl h
            obtain ⟨x4_Belt, x4_Chutes, x4_Inlets, x4_Plan, x4_Now⟩ := x4
            try dsimp only at h
            refine ACallR.mk _ _ (.g [.r (.s 2 (r_Item x4_Belt)), .r (.s 3 (r_Chute x4_Chutes)), .r (.s 2 (r_Inlet x4_Inlets)), .r (.s 1 (r_I64 x4_Plan)), .r (.v (.int .i64 x4_Now))]) rfl (hF _ _ _ (c_I_TickCentre hg ht hx4)) (.inl rfl) (Nat.le_of_ble_eq_true rfl) (by cbv; (try simp only [hrda_Chute, hrda_I64, hrda_Inlet, hrda_Item])) ?_
            cbv
            obtain ⟨x5, hx5, h⟩ := of_cl h
            obtain ⟨x5_Belt, x5_Chutes, x5_Inlets, x5_Plan, x5_Now⟩ := x5
            try dsimp only at h
            refine ACallR.mk _ _ (.g [.r (.s 2 (r_Item x5_Belt)), .r (.s 3 (r_Chute x5_Chutes)), .r (.s 2 (r_Inlet x5_Inlets)), .r (.s 1 (r_I64 x5_Plan)), .r (.v (.int .i64 x5_Now))]) rfl (hF _ _ _ (c_S_TickCentre hg ht hx5)) (.inl rfl) (Nat.le_of_ble_eq_true rfl) (by cbv; (try simp only [hrda_Chute, hrda_I64, hrda_Inlet, hrda_Item])) ?_
            cbv
            obtain ⟨x6, hx6, h⟩ := of_cl h
            try dsimp only at h
            refine ACall.mk _ _ rfl (hF _ _ _ (c_L_centres hg ht hx6)) (.inl rfl) (Nat.le_of_ble_eq_true rfl) ?_
            cbv
            cases hb6 : x6 with
            | true =>
              rw [br_true hb6] at h
              cbv
              obtain ⟨x7, hx7, h⟩ := of_cl h
              obtain ⟨x7_Belt, x7_Chutes, x7_Inlets, x7_Plan, x7_Now⟩ := x7
              try dsimp only at h
              refine ACallR.mk _ _ (.g [.r (.s 2 (r_Item x7_Belt)), .r (.s 3 (r_Chute x7_Chutes)), .r (.s 2 (r_Inlet x7_Inlets)), .r (.s 1 (r_I64 x7_Plan)), .r (.v (.int .i64 x7_Now))]) rfl (hF _ _ _ (c_I_RunCentre hg ht hx7)) (.inl rfl) (Nat.le_of_ble_eq_true rfl) (by cbv; (try simp only [hrda_Chute, hrda_I64, hrda_Inlet, hrda_Item])) ?_
              cbv
              obtain ⟨x8, hx8, h⟩ := of_cl h
              obtain ⟨x8_Belt, x8_Chutes, x8_Inlets, x8_Plan, x8_Now⟩ := x8
              try dsimp only at h
              refine ACallR.mk _ _ (.g [.r (.s 2 (r_Item x8_Belt)), .r (.s 3 (r_Chute x8_Chutes)), .r (.s 2 (r_Inlet x8_Inlets)), .r (.s 1 (r_I64 x8_Plan)), .r (.v (.int .i64 x8_Now))]) rfl (hF _ _ _ (c_I_RunCentre hg ht hx8)) (.inl rfl) (Nat.le_of_ble_eq_true rfl) (by cbv; (try simp only [hrda_Chute, hrda_I64, hrda_Inlet, hrda_Item])) ?_
              cbv
              obtain ⟨x9, hx9, h⟩ := of_cl h
              obtain ⟨x9_Belt, x9_Chutes, x9_Inlets, x9_Plan, x9_Now⟩ := x9
              try dsimp only at h
              refine ACallR.mk _ _ (.g [.r (.s 2 (r_Item x9_Belt)), .r (.s 3 (r_Chute x9_Chutes)), .r (.s 2 (r_Inlet x9_Inlets)), .r (.s 1 (r_I64 x9_Plan)), .r (.v (.int .i64 x9_Now))]) rfl (hF _ _ _ (c_I_RunCentre hg ht hx9)) (.inl rfl) (Nat.le_of_ble_eq_true rfl) (by cbv; (try simp only [hrda_Chute, hrda_I64, hrda_Inlet, hrda_Item])) ?_
              cbv
              obtain ⟨x10, hx10, h⟩ := of_cl h
              try dsimp only at h
              refine ACall.mk _ _ rfl (hF _ _ _ (c_L_centres hg ht hx10)) (.inl rfl) (Nat.le_of_ble_eq_true rfl) ?_
              cbv
              cases hb7 : x10 with
              | true =>
                rw [br_true hb7] at h
                cbv
                try (rw [hb7]; cbv)
                obtain ⟨x11, hx11, h⟩ := of_cl h
                obtain ⟨x11_Belt, x11_Chutes, x11_Inlets, x11_Plan, x11_Now⟩ := x11
                try dsimp only at h
                refine ACallR.mk _ _ (.g [.r (.s 2 (r_Item x11_Belt)), .r (.s 3 (r_Chute x11_Chutes)), .r (.s 2 (r_Inlet x11_Inlets)), .r (.s 1 (r_I64 x11_Plan)), .r (.v (.int .i64 x11_Now))]) rfl (hF _ _ _ (c_I_TickCentre hg ht hx11)) (.inl rfl) (Nat.le_of_ble_eq_true rfl) (by cbv; (try simp only [hrda_Chute, hrda_I64, hrda_Inlet, hrda_Item])) ?_
                cbv
                try (rw [hb7]; cbv)
                try (rw [hb7]; cbv)
                obtain ⟨x12, hx12, h⟩ := of_cl h
                obtain ⟨x12_Belt, x12_Chutes, x12_Inlets, x12_Plan, x12_Now⟩ := x12
                try dsimp only at h
                refine ACallR.mk _ _ (.g [.r (.s 2 (r_Item x12_Belt)), .r (.s 3 (r_Chute x12_Chutes)), .r (.s 2 (r_Inlet x12_Inlets)), .r (.s 1 (r_I64 x12_Plan)), .r (.v (.int .i64 x12_Now))]) rfl (hF _ _ _ (c_I_RunCentre hg ht hx12)) (.inl rfl) (Nat.le_of_ble_eq_true rfl) (by cbv; (try simp only [hrda_Chute, hrda_I64, hrda_Inlet, hrda_Item])) ?_
                cbv
                try (rw [hb7]; cbv)
                obtain ⟨x13, hx13, h⟩ := of_cl h
                try dsimp only at h
                refine ACall.mk _ _ rfl (hF _ _ _ (c_L_centres hg ht hx13)) (.inl rfl) (Nat.le_of_ble_eq_true rfl) ?_
                cbv
                try (rw [hb7]; cbv)
                obtain rfl := Option.some.inj h
                exact ARet.mk trivial hX.symm
              | false =>
                rw [br_false hb7] at h
                cbv
                try (rw [hb7]; cbv)
                try (rw [hb7]; cbv)
                try (rw [hb7]; cbv)
                try (rw [hb7]; cbv)
                try (rw [hb7]; cbv)
                obtain rfl := Option.some.inj h
                exact ARet.mk trivial hX.symm
            | false =>
              rw [br_false hb6] at h
              cbv
              obtain rfl := Option.some.inj h
              exact ARet.mk trivial hX.symm
end Go.Vs
