/- Part of the proofs of this seat's laws: Lab. No condition. -/
import Derived.Test.YtkchjifooaonjaaTy
import Derived.Test.YtkchjifooaonjaaTIRall
import Derived.Test.YtkchjifooaonjaaLaa
import Derived.Test.YtkchjifooaonjaaVg
import Derived.Test.YtkchjifooaonjaaProg
import Derived.Shelf.Sort.AssemblysIn
import Derived.Shelf.Sort.So_math_bits_LenInS
import Derived.Shelf.Lay
import Derived.Sort.EveryDepth
import Derived.Lib.Walk
import Derived.LoopN
set_option linter.unusedVariables false
set_option linter.unusedSimpArgs false
set_option linter.unusedSectionVars false
namespace Go.Vs
set_option maxRecDepth 100000
def ir10 : J :=
  .seq (.reg none [⟨(some 1), none, .box (.t 0)⟩,
     ⟨(some 2), none, .alloc [.n 6, .n 1, .r (.v (.int .i64 0))]⟩] [1, 2])
  (.seq (.reg none [⟨(some 3), none, .alloc [.n 6, .n 1, .r (.v (.int .i64 0))]⟩] [1, 2, 3])
  (.seq (.reg none [⟨(some 4), none, .fa 0 (.t 1)⟩,
     ⟨(some 5), none, .ld false 1 (.t 4)⟩,
     ⟨(some 6), none, .call 30 true [(.t 5)]⟩,
     ⟨(some 7), none, .fa 0 (.t 3)⟩,
     ⟨none, none, .st 1 (.t 7) (.t 6)⟩] [1, 2, 3])
  (.seq (.reg none [⟨(some 8), none, .fa 1 (.t 1)⟩,
     ⟨(some 9), none, .ld false 1 (.t 8)⟩,
     ⟨(some 10), none, .call 31 true [(.t 9)]⟩,
     ⟨(some 11), none, .fa 1 (.t 3)⟩,
     ⟨none, none, .st 1 (.t 11) (.t 10)⟩] [1, 2, 3])
  (.seq (.reg none [⟨(some 12), none, .fa 2 (.t 1)⟩,
     ⟨(some 13), none, .ld false 1 (.t 12)⟩,
     ⟨(some 14), none, .fa 2 (.t 3)⟩,
     ⟨none, none, .st 1 (.t 14) (.t 13)⟩] [2, 3])
  (.seq (.reg none [⟨(some 15), none, .ld true 3 (.t 3)⟩,
     ⟨none, none, .st 3 (.t 2) (.t 15)⟩] [2])
  (.ret))))))
def rv10 : List RV := [.c 2 true 3]
open Go.Proofs Go.IntWalk
set_option linter.unusedVariables false
set_option maxRecDepth 100000
set_option maxHeartbeats 4000000
def L_toNetwork (g : G) (t : TE) (a0 : Network) : Option Network :=
  cl (L_toLegS g t a0.Legs) fun x1 =>
  cl (L_toIntS g t a0.Off) fun x2 =>
  some (Network.mk x1 x2 a0.Change)
theorem fit10 : codeFit Try.prog Try.f10.ntmps (Try.f10.body.getD .skip) ir10 = true := by kernel_rfl
theorem c_L_toNetwork {g : G} {t : TE} {a0 : Network} {r : Network} (hg : g = G.real) (ht : t = TE.real) (h : L_toNetwork g t a0 = some r) : Fn Try.prog 10 [.g (Network.rs t a0)] (.g (Network.ds t r)) := by
  obtain ⟨X, hX⟩ := hide (.g (Network.ds t r) : X)
  rw [← hX]
  refine fn_of (rvs := rv10) (j := ir10) Try.func10 rfl fit10 (Nat.le_of_ble_eq_true rfl) (by kernel_rfl) prog_mixed ?_
  intro g2 F hg2 hF
  obtain rfl : g2 = g := hg2.unique.trans hg.symm
  clear hg2
  obtain ⟨wrap, lt, le, eq, quo, rem, band, bor, bxor, shl, shr, nat, int, add, sub, mul, cat, seq, slt, sub3, byte, llen, nadd, nsub, dlen, dapp, dset, drep, rd, rda, up, rsub, dsub, all, sle, slen, hasI, putI, hasS, putS, imin, imax, fzc, bstr⟩ := g2
  obtain ⟨r_Leg, d_Leg, r_I64, d_I64, r_S, d_S⟩ := t
  obtain ⟨a0_Legs, a0_Off, a0_Change⟩ := a0
  unfold L_toNetwork at h
  try dsimp only at h
  cbv
  obtain ⟨x1, hx1, h⟩ := of_cl h
  try dsimp only at h
  refine ACall.mk _ _ rfl (hF _ _ _ (c_L_toLegS hg ht hx1)) (.inl rfl) (Nat.le_of_ble_eq_true rfl) ?_
  cbv
  obtain ⟨x2, hx2, h⟩ := of_cl h
  try dsimp only at h
  refine ACall.mk _ _ rfl (hF _ _ _ (c_L_toIntS hg ht hx2)) (.inl rfl) (Nat.le_of_ble_eq_true rfl) ?_
  cbv
  obtain rfl := Option.some.inj h
  exact ARet.mk ⟨⟨rfl, (dlen_Leg hg ht _)⟩, ⟨rfl, (dlen_I64 hg ht _)⟩⟩ hX.symm
end Go.Vs
namespace Go.Vs
set_option maxRecDepth 100000
def ir32 : J :=
  .seq (.reg none [⟨(some 1), none, .box (.t 0)⟩,
     ⟨(some 2), none, .alloc [.r (.v (.int .i64 0)), .r (.v (.int .i64 0))]⟩] [1, 2])
  (.seq (.reg none [⟨(some 3), none, .alloc [.r (.v (.int .i64 0)), .r (.v (.int .i64 0))]⟩] [1, 2, 3])
  (.seq (.reg none [⟨(some 4), none, .fa 0 (.t 1)⟩,
     ⟨(some 5), none, .ld false 1 (.t 4)⟩,
     ⟨(some 6), none, .fa 0 (.t 3)⟩,
     ⟨none, none, .st 1 (.t 6) (.t 5)⟩] [1, 2, 3])
  (.seq (.reg none [⟨(some 7), none, .fa 1 (.t 1)⟩,
     ⟨(some 8), none, .ld false 1 (.t 7)⟩,
     ⟨(some 9), none, .fa 1 (.t 3)⟩,
     ⟨none, none, .st 1 (.t 9) (.t 8)⟩] [2, 3])
  (.seq (.reg none [⟨(some 10), none, .ld true 2 (.t 3)⟩,
     ⟨none, none, .st 2 (.t 2) (.t 10)⟩] [2])
  (.ret)))))
def rv32 : List RV := [.c 2 true 2]
open Go.Proofs Go.IntWalk
set_option linter.unusedVariables false
set_option maxRecDepth 100000
set_option maxHeartbeats 4000000
def L_toTrip (g : G) (t : TE) (a0 : Trip) : Trip :=
  a0
theorem fit32 : codeFit Try.prog Try.f32.ntmps (Try.f32.body.getD .skip) ir32 = true := by kernel_rfl
theorem c_L_toTrip {g : G} {t : TE} {a0 : Trip} {r : Trip} (hg : g = G.real) (ht : t = TE.real) (h : L_toTrip g t a0 = r) : Fn Try.prog 32 [.g (Trip.rs t a0)] (.g (Trip.ds t r)) := by
  obtain ⟨X, hX⟩ := hide (.g (Trip.ds t r) : X)
  rw [← hX]
  refine fn_of (rvs := rv32) (j := ir32) Try.func32 rfl fit32 (Nat.le_of_ble_eq_true rfl) (by kernel_rfl) prog_mixed ?_
  intro g2 F hg2 hF
  obtain rfl : g2 = g := hg2.unique.trans hg.symm
  clear hg2
  obtain ⟨wrap, lt, le, eq, quo, rem, band, bor, bxor, shl, shr, nat, int, add, sub, mul, cat, seq, slt, sub3, byte, llen, nadd, nsub, dlen, dapp, dset, drep, rd, rda, up, rsub, dsub, all, sle, slen, hasI, putI, hasS, putS, imin, imax, fzc, bstr⟩ := g2
  obtain ⟨r_Leg, d_Leg, r_I64, d_I64, r_S, d_S⟩ := t
  obtain ⟨a0_Leg, a0_Day⟩ := a0
  unfold L_toTrip at h
  try dsimp only at h
  cbv
  subst h
  exact ARet.mk trivial hX.symm
end Go.Vs
namespace Go.Vs
set_option maxRecDepth 100000
def ir11 : J :=
  .seq (.reg none [⟨(some 1), none, .box (.t 0)⟩,
     ⟨(some 2), none, .alloc [.r (.v (.int .i64 0)), .r (.v (.int .i64 0)), .r (.v (.int .i64 0)), .r (.v (.string .empty)), .r (.v (.int .i64 0)), .r (.v (.int .i64 0))]⟩] [1, 2])
  (.seq (.reg none [⟨(some 3), none, .alloc [.r (.v (.int .i64 0)), .r (.v (.int .i64 0)), .r (.v (.int .i64 0)), .r (.v (.string .empty)), .r (.v (.int .i64 0)), .r (.v (.int .i64 0))]⟩] [1, 2, 3])
  (.seq (.reg none [⟨(some 4), none, .fa 0 (.t 1)⟩,
     ⟨(some 5), none, .ld false 1 (.t 4)⟩,
     ⟨(some 6), none, .fa 0 (.t 3)⟩,
     ⟨none, none, .st 1 (.t 6) (.t 5)⟩] [1, 2, 3])
  (.seq (.reg none [⟨(some 7), none, .fa 1 (.t 1)⟩,
     ⟨(some 8), none, .ld false 1 (.t 7)⟩,
     ⟨(some 9), none, .fa 1 (.t 3)⟩,
     ⟨none, none, .st 1 (.t 9) (.t 8)⟩] [1, 2, 3])
  (.seq (.reg none [⟨(some 10), none, .fa 2 (.t 1)⟩,
     ⟨(some 11), none, .ld false 1 (.t 10)⟩,
     ⟨(some 12), none, .fa 2 (.t 3)⟩,
     ⟨none, none, .st 1 (.t 12) (.t 11)⟩] [1, 2, 3])
  (.seq (.reg none [⟨(some 13), none, .fa 3 (.t 1)⟩,
     ⟨(some 14), none, .ld false 1 (.t 13)⟩,
     ⟨(some 15), none, .fa 3 (.t 3)⟩,
     ⟨none, none, .st 1 (.t 15) (.t 14)⟩] [1, 2, 3])
  (.seq (.reg none [⟨(some 16), none, .fa 4 (.t 1)⟩,
     ⟨(some 17), none, .ld true 2 (.t 16)⟩,
     ⟨(some 18), none, .call 32 true [(.t 17)]⟩,
     ⟨(some 19), none, .fa 4 (.t 3)⟩,
     ⟨none, none, .st 2 (.t 19) (.t 18)⟩] [2, 3])
  (.seq (.reg none [⟨(some 20), none, .ld true 6 (.t 3)⟩,
     ⟨none, none, .st 6 (.t 2) (.t 20)⟩] [2])
  (.ret))))))))
def rv11 : List RV := [.c 2 true 6]
open Go.Proofs Go.IntWalk
set_option linter.unusedVariables false
set_option maxRecDepth 100000
set_option maxHeartbeats 4000000
def L_toScan (g : G) (t : TE) (a0 : Scan) : Scan :=
  lP (L_toTrip g t (Trip.mk a0.Trip.Leg a0.Trip.Day)) fun x1 =>
  (Scan.mk a0.Thing a0.At a0.Kind a0.Place x1)
theorem fit11 : codeFit Try.prog Try.f11.ntmps (Try.f11.body.getD .skip) ir11 = true := by kernel_rfl
theorem c_L_toScan {g : G} {t : TE} {a0 : Scan} {r : Scan} (hg : g = G.real) (ht : t = TE.real) (h : L_toScan g t a0 = r) : Fn Try.prog 11 [.g (Scan.rs t a0)] (.g (Scan.ds t r)) := by
  obtain ⟨X, hX⟩ := hide (.g (Scan.ds t r) : X)
  rw [← hX]
  refine fn_of (rvs := rv11) (j := ir11) Try.func11 rfl fit11 (Nat.le_of_ble_eq_true rfl) (by kernel_rfl) prog_mixed ?_
  intro g2 F hg2 hF
  obtain rfl : g2 = g := hg2.unique.trans hg.symm
  clear hg2
  obtain ⟨wrap, lt, le, eq, quo, rem, band, bor, bxor, shl, shr, nat, int, add, sub, mul, cat, seq, slt, sub3, byte, llen, nadd, nsub, dlen, dapp, dset, drep, rd, rda, up, rsub, dsub, all, sle, slen, hasI, putI, hasS, putS, imin, imax, fzc, bstr⟩ := g2
  obtain ⟨r_Leg, d_Leg, r_I64, d_I64, r_S, d_S⟩ := t
  obtain ⟨a0_Thing, a0_At, a0_Kind, a0_Place, ⟨a0_Trip_Leg, a0_Trip_Day⟩⟩ := a0
  unfold L_toScan at h
  try dsimp only at h
  cbv
  obtain ⟨x1, hx1, h⟩ := of_lP h
  obtain ⟨x1_Leg, x1_Day⟩ := x1
  try dsimp only at h
  refine ACall.mk _ _ rfl (hF _ _ _ (c_L_toTrip hg ht hx1)) (.inl rfl) (Nat.le_of_ble_eq_true rfl) ?_
  cbv
  subst h
  exact ARet.mk trivial hX.symm
end Go.Vs
namespace Go.Vs
set_option maxRecDepth 100000
def ir34 : J :=
  .seq (.reg none [⟨(some 6), none, .mv (.k (V.b false))⟩] [0, 1, 2])
  (.seq (.reg none [⟨(some 7), none, .mv (.t 1)⟩,
     ⟨(some 8), none, .mv (.t 0)⟩,
     ⟨(some 9), none, .bin .leq .i (.t 7) (.t 8)⟩,
     ⟨(some 10), none, .mv (.t 9)⟩,
     ⟨(some 11), (some (10, true)), .mv (.t 0)⟩,
     ⟨(some 12), (some (10, true)), .mv (.t 2)⟩,
     ⟨(some 13), (some (10, true)), .bin .leq .i (.t 11) (.t 12)⟩,
     ⟨(some 14), none, .pick (.t 10) (.t 13) (.k (V.b false))⟩,
     ⟨(some 6), none, .mv (.t 14)⟩] [6])
  (.ret))
def rv34 : List RV := [.t 6]
open Go.Proofs Go.IntWalk
set_option linter.unusedVariables false
set_option maxRecDepth 100000
set_option maxHeartbeats 4000000
def I_within (g : G) (t : TE) (a0 : Int) (a1 : Int) (a2 : Int) : Bool :=
  br (g.le a1 a0)
  (
   (g.le a0 a2))
  (
   false)
theorem fit34 : codeFit Try.prog Try.f34.ntmps (Try.f34.body.getD .skip) ir34 = true := by kernel_rfl
theorem c_I_within {g : G} {t : TE} {a0 : Int} {a1 : Int} {a2 : Int} {r : Bool} (hg : g = G.real) (ht : t = TE.real) (h : I_within g t a0 a1 a2 = r) : Fn Try.prog 34 [.c (.v (.int .i64 a0)), .c (.v (.int .i64 a1)), .c (.v (.int .i64 a2))] (.c (.r (.v (.bool r)))) := by
  obtain ⟨X, hX⟩ := hide (.c (.r (.v (.bool r))) : X)
  rw [← hX]
  refine fn_of (rvs := rv34) (j := ir34) Try.func34 rfl fit34 (Nat.le_of_ble_eq_true rfl) (by kernel_rfl) prog_mixed ?_
  intro g2 F hg2 hF
  obtain rfl : g2 = g := hg2.unique.trans hg.symm
  clear hg2
  obtain ⟨wrap, lt, le, eq, quo, rem, band, bor, bxor, shl, shr, nat, int, add, sub, mul, cat, seq, slt, sub3, byte, llen, nadd, nsub, dlen, dapp, dset, drep, rd, rda, up, rsub, dsub, all, sle, slen, hasI, putI, hasS, putS, imin, imax, fzc, bstr⟩ := g2
  obtain ⟨r_Leg, d_Leg, r_I64, d_I64, r_S, d_S⟩ := t
  unfold I_within at h
  try dsimp only at h
  cbv
  cases hb1 : (le a1 a0) with
  | true =>
    rw [br_true hb1] at h
    cbv
    try (rw [hb1]; cbv)
    try (rw [hb1]; cbv)
    try (rw [hb1]; cbv)
    subst h
    exact ARet.mk trivial hX.symm
  | false =>
    rw [br_false hb1] at h
    cbv
    try (rw [hb1]; cbv)
    try (rw [hb1]; cbv)
    try (rw [hb1]; cbv)
    subst h
    exact ARet.mk trivial hX.symm
end Go.Vs
namespace Go.Vs
set_option maxRecDepth 100000
def ir52 : J :=
  .seq (.reg none [⟨(some 2), none, .mv (.k (V.b false))⟩] [0])
  (.seq (.seq (.reg none [⟨(some 3), none, .mv (.k (V.i 0))⟩] [0, 3])
   (.bl 0 (.seq (.seq (.reg none [⟨(some 4), none, .mv (.t 3)⟩,
        ⟨(some 5), none, .mv (.t 0)⟩,
        ⟨(some 6), none, .len true (.t 5)⟩,
        ⟨(some 7), none, .bin .lss .i (.t 4) (.t 6)⟩] [0, 3, 7])
     (.cond (.t 7)
      (.skip)
      (.exit 0)))
    (.seq (.block 1 (.seq (.reg none [⟨(some 10), none, .mv (.t 0)⟩,
         ⟨(some 11), none, .mv (.t 3)⟩,
         ⟨(some 12), none, .idx (.t 10) (.t 11)⟩,
         ⟨(some 13), none, .bin .lss .i (.t 12) (.k (.c (.r (.v (.int .u8 65)))))⟩,
         ⟨(some 14), none, .mv (.t 13)⟩,
         ⟨(some 15), (some (14, false)), .mv (.t 0)⟩,
         ⟨(some 16), (some (14, false)), .mv (.t 3)⟩,
         ⟨(some 17), (some (14, false)), .idx (.t 15) (.t 16)⟩,
         ⟨(some 18), (some (14, false)), .bin .gtr .i (.t 17) (.k (.c (.r (.v (.int .u8 90)))))⟩,
         ⟨(some 19), none, .pick (.t 14) (.k (V.b true)) (.t 18)⟩] [0, 3, 19])
      (.cond (.t 19)
       (.seq (.reg none [⟨(some 2), none, .mv (.k (V.b false))⟩] [2])
        (.ret))
       (.skip))))
    (.reg none [⟨(some 8), none, .mv (.t 3)⟩,
      ⟨(some 9), none, .bin .add .i (.t 8) (.k (V.i 1))⟩,
      ⟨(some 3), none, .mv (.t 9)⟩] [0, 3])))))
  (.seq (.reg none [⟨(some 20), none, .mv (.t 0)⟩,
     ⟨(some 21), none, .len true (.t 20)⟩,
     ⟨(some 22), none, .bin .eql .i (.t 21) (.k (V.i 3))⟩,
     ⟨(some 2), none, .mv (.t 22)⟩] [2])
  (.ret)))
def rv52 : List RV := [.t 2]
open Go.Proofs Go.IntWalk
set_option linter.unusedVariables false
set_option maxRecDepth 100000
set_option maxHeartbeats 4000000
def I_IsPlace_l1 (g : G) (t : TE) (a0 : ByteArray) : Nat → Int → LR Bool Unit
  | 0, v1 =>
    (LR.out ())
  | n1 + 1, v1 =>
    br (g.lt (g.byte a0 v1) 65)
    (
     (LR.ret false))
    (
     br (g.lt 90 (g.byte a0 v1))
     (
      (LR.ret false))
     (
      I_IsPlace_l1 g t a0 n1 (g.wrap .i64 (g.add v1 1))))
def I_IsPlace (g : G) (t : TE) (a0 : ByteArray) : Option Bool :=
  gd (((g.int (g.slen a0)) ≤ 9223372036854775807)) <|
  lP (I_IsPlace_l1 g t a0 (cntLt 0 (g.int (g.slen a0))) 0) fun o1 => lr o1 fun y1 =>
  some (g.eq (g.int (g.slen a0)) 3)
theorem fit52 : codeFit Try.prog Try.f52.ntmps (Try.f52.body.getD .skip) ir52 = true := by kernel_rfl
theorem c_I_IsPlace {g : G} {t : TE} {a0 : ByteArray} {r : Bool} (hg : g = G.real) (ht : t = TE.real) (h : I_IsPlace g t a0 = some r) : Fn Try.prog 52 [.c (.v (.string a0))] (.c (.r (.v (.bool r)))) := by
  obtain ⟨X, hX⟩ := hide (.c (.r (.v (.bool r))) : X)
  rw [← hX]
  refine fn_of (rvs := rv52) (j := ir52) Try.func52 rfl fit52 (Nat.le_of_ble_eq_true rfl) (by kernel_rfl) prog_mixed ?_
  intro g2 F hg2 hF
  obtain rfl : g2 = g := hg2.unique.trans hg.symm
  clear hg2
  obtain ⟨wrap, lt, le, eq, quo, rem, band, bor, bxor, shl, shr, nat, int, add, sub, mul, cat, seq, slt, sub3, byte, llen, nadd, nsub, dlen, dapp, dset, drep, rd, rda, up, rsub, dsub, all, sle, slen, hasI, putI, hasS, putS, imin, imax, fzc, bstr⟩ := g2
  obtain ⟨r_Leg, d_Leg, r_I64, d_I64, r_S, d_S⟩ := t
  unfold I_IsPlace at h
  try dsimp only at h
  cbv
  obtain ⟨hB1, h⟩ := of_gd h
  obtain ⟨o1, ho1, h⟩ := of_lP h
  try dsimp only at h
  try rw [hg] at ho1
  try rw [ht] at ho1
  refine ABL.mk { p : Nat × Int // p.1 = cntLt p.2 (int (slen a0)) ∧ 0 ≤ p.2 ∧ I_IsPlace_l1 G.real TE.real a0 p.1 p.2 = o1 } (fun ⟨⟨n1, v1⟩, _⟩ => ({ sl := [(0, .c (.r (.v (.string a0)))), (3, .c (.r (.v (.int .i64 v1))))], tab := [] } : St)) 0 (fun p => p.1.1) ⟨(cntLt 0 (int (slen a0)), 0), rfl, Int.le_refl _, ho1⟩ (Unit) (fun _ => ({ sl := [(0, .c (.r (.v (.string a0))))], tab := [] } : St)) 0 (fun y => o1 = LR.out y) ?_ ?_ ?_
  · refine Wk.of [] rfl rfl ?_ ?_
    · cbv
      all_goals exact ⟨⟨_, rfl, rfl⟩, ⟨_, rfl, rfl⟩, trivial⟩
    · cbv
      all_goals exact trivial
  · rintro ⟨⟨n1, v1⟩, hn1, hi1, h_1⟩ hq1
    try dsimp only at hn1 hi1 h_1
    clear hq1
    cbv
    rcases n1 with _ | n1
    · have hb1 : lt v1 (int (slen a0)) = false := ltC_false hg hn1
      rw [I_IsPlace_l1] at h_1
      try rw [← hg] at h_1
      try rw [← ht] at h_1
      try dsimp only at h_1
      rw [hb1]
      cbv
      refine ⟨(), Wk.of [] rfl rfl ?_ ?_, h_1.symm⟩
      · cbv
        all_goals exact ⟨⟨_, rfl, rfl⟩, trivial⟩
      · cbv
        all_goals exact trivial
    · have hb1 : lt v1 (int (slen a0)) = true := ltC_true hg hn1
      have hl1 := ltC_le hn1
      have hs1 := stepltC hg hn1 hi1 hB1 (by decide)
      rw [I_IsPlace_l1] at h_1
      try rw [← hg] at h_1
      try rw [← ht] at h_1
      try dsimp only at h_1
      rw [hb1]
      cbv
      refine AStep.mk (rg_slen hg hi1 hl1) ?_
      cbv
      cases hb2 : (lt (byte a0 v1) 65) with
      | true =>
        rw [br_true hb2] at h_1
        cbv
        try (rw [hb2]; cbv)
        try (rw [hb2]; cbv)
        try (rw [hb2]; cbv)
        try (rw [hb2]; cbv)
        subst h_1
        try dsimp only [lr, lrL, lrp, lrpL] at h
        obtain rfl := Option.some.inj h
        exact ARet.mk trivial hX.symm
      | false =>
        rw [br_false hb2] at h_1
        cbv
        try (rw [hb2]; cbv)
        try (rw [hb2]; cbv)
        refine AStep.mk (rg_slen hg hi1 hl1) ?_
        cbv
        try (rw [hb2]; cbv)
        try (rw [hb2]; cbv)
        cases hb3 : (lt 90 (byte a0 v1)) with
        | true =>
          rw [br_true hb3] at h_1
          cbv
          subst h_1
          try dsimp only [lr, lrL, lrp, lrpL] at h
          obtain rfl := Option.some.inj h
          exact ARet.mk trivial hX.symm
        | false =>
          rw [br_false hb3] at h_1
          cbv
          try rw [hg] at h_1
          try rw [ht] at h_1
          refine ⟨⟨(n1, (wrap .i64 (add v1 1))), hs1.1, hs1.2, h_1⟩, Wk.of [] rfl rfl ?_ ?_, Nat.lt_succ_self _⟩
          · cbv
            all_goals exact ⟨⟨_, rfl, rfl⟩, ⟨_, rfl, rfl⟩, trivial⟩
          · cbv
            all_goals exact trivial
  · rintro _ hy1
    replace hy1 := hy1.symm
    subst hy1
    try dsimp only [lr, lrL, lrp, lrpL] at h
    cbv
    obtain rfl := Option.some.inj h
    exact ARet.mk trivial hX.symm
end Go.Vs
namespace Go.Vs
set_option maxRecDepth 100000
def ir46 : J :=
  .seq (.reg none [⟨(some 1), none, .box (.t 0)⟩,
     ⟨(some 2), none, .mv (.k (V.b false))⟩] [1])
  (.seq (.reg none [⟨(some 3), none, .fa 0 (.t 1)⟩,
     ⟨(some 4), none, .ld false 1 (.t 3)⟩,
     ⟨(some 5), none, .call 52 true [(.t 4)]⟩,
     ⟨(some 6), none, .mv (.t 5)⟩,
     ⟨(some 7), (some (6, true)), .fa 1 (.t 1)⟩,
     ⟨(some 8), (some (6, true)), .ld false 1 (.t 7)⟩,
     ⟨(some 9), (some (6, true)), .call 52 true [(.t 8)]⟩,
     ⟨(some 10), none, .pick (.t 6) (.t 9) (.k (V.b false))⟩,
     ⟨(some 11), none, .mv (.t 10)⟩,
     ⟨(some 12), (some (11, true)), .fa 0 (.t 1)⟩,
     ⟨(some 13), (some (11, true)), .ld false 1 (.t 12)⟩,
     ⟨(some 14), (some (11, true)), .fa 1 (.t 1)⟩,
     ⟨(some 15), (some (11, true)), .ld false 1 (.t 14)⟩,
     ⟨(some 16), (some (11, true)), .bin .neq .s (.t 13) (.t 15)⟩,
     ⟨(some 17), none, .pick (.t 11) (.t 16) (.k (V.b false))⟩,
     ⟨(some 18), none, .mv (.t 17)⟩,
     ⟨(some 19), (some (18, true)), .fa 2 (.t 1)⟩,
     ⟨(some 20), (some (18, true)), .ld false 1 (.t 19)⟩,
     ⟨(some 21), (some (18, true)), .call 34 true [(.t 20), (.k (V.i 0)), (.k (V.i 1439))]⟩,
     ⟨(some 22), none, .pick (.t 18) (.t 21) (.k (V.b false))⟩,
     ⟨(some 23), none, .mv (.t 22)⟩,
     ⟨(some 24), (some (23, true)), .fa 3 (.t 1)⟩,
     ⟨(some 25), (some (23, true)), .ld false 1 (.t 24)⟩,
     ⟨(some 26), (some (23, true)), .call 34 true [(.t 25), (.k (V.i 1)), (.k (V.i 4320))]⟩,
     ⟨(some 27), none, .pick (.t 23) (.t 26) (.k (V.b false))⟩,
     ⟨(some 28), none, .mv (.t 27)⟩,
     ⟨(some 29), (some (28, true)), .fa 4 (.t 1)⟩,
     ⟨(some 30), (some (28, true)), .ld false 1 (.t 29)⟩,
     ⟨(some 31), (some (28, true)), .call 34 true [(.t 30), (.k (V.i 1)), (.k (V.i 127))]⟩,
     ⟨(some 32), none, .pick (.t 28) (.t 31) (.k (V.b false))⟩,
     ⟨(some 33), none, .mv (.t 32)⟩,
     ⟨(some 34), (some (33, true)), .fa 5 (.t 1)⟩,
     ⟨(some 35), (some (33, true)), .ld false 1 (.t 34)⟩,
     ⟨(some 36), (some (33, true)), .call 34 true [(.t 35), (.k (V.i 0)), (.k (V.i 1000000))]⟩,
     ⟨(some 37), none, .pick (.t 33) (.t 36) (.k (V.b false))⟩,
     ⟨(some 2), none, .mv (.t 37)⟩] [2])
  (.ret))
def rv46 : List RV := [.t 2]
open Go.Proofs Go.IntWalk
set_option linter.unusedVariables false
set_option maxRecDepth 100000
set_option maxHeartbeats 4000000
def I_IsLeg (g : G) (t : TE) (a0 : Leg) : Option Bool :=
  cl (I_IsPlace g t a0.From) fun x1 =>
  br x1
  (
   cl (I_IsPlace g t a0.To) fun x2 =>
   br x2
   (
    br (g.seq a0.From a0.To)
    (
     some false)
    (
     lP (I_within g t a0.Start 0 1439) fun x3 =>
     br x3
     (
      lP (I_within g t a0.Takes 1 4320) fun x4 =>
      br x4
      (
       lP (I_within g t a0.Days 1 127) fun x5 =>
       br x5
       (
        lP (I_within g t a0.Room 0 1000000) fun x6 =>
        some x6)
       (
        some false))
      (
       some false))
     (
      some false)))
   (
    some false))
  (
   some false)
theorem fit46 : codeFit Try.prog Try.f46.ntmps (Try.f46.body.getD .skip) ir46 = true := by kernel_rfl
theorem c_I_IsLeg {g : G} {t : TE} {a0 : Leg} {r : Bool} (hg : g = G.real) (ht : t = TE.real) (h : I_IsLeg g t a0 = some r) : Fn Try.prog 46 [.g (Leg.rs t a0)] (.c (.r (.v (.bool r)))) := by
  obtain ⟨X, hX⟩ := hide (.c (.r (.v (.bool r))) : X)
  rw [← hX]
  refine fn_of (rvs := rv46) (j := ir46) Try.func46 rfl fit46 (Nat.le_of_ble_eq_true rfl) (by kernel_rfl) prog_mixed ?_
  intro g2 F hg2 hF
  obtain rfl : g2 = g := hg2.unique.trans hg.symm
  clear hg2
  obtain ⟨wrap, lt, le, eq, quo, rem, band, bor, bxor, shl, shr, nat, int, add, sub, mul, cat, seq, slt, sub3, byte, llen, nadd, nsub, dlen, dapp, dset, drep, rd, rda, up, rsub, dsub, all, sle, slen, hasI, putI, hasS, putS, imin, imax, fzc, bstr⟩ := g2
  obtain ⟨r_Leg, d_Leg, r_I64, d_I64, r_S, d_S⟩ := t
  obtain ⟨a0_From, a0_To, a0_Start, a0_Takes, a0_Days, a0_Room⟩ := a0
  unfold I_IsLeg at h
  try dsimp only at h
  cbv
  obtain ⟨x1, hx1, h⟩ := of_cl h
  try dsimp only at h
  refine ACall.mk _ _ rfl (hF _ _ _ (c_I_IsPlace hg ht hx1)) (.inl rfl) (Nat.le_of_ble_eq_true rfl) ?_
  cbv
  cases hb1 : x1 with
  | true =>
    rw [br_true hb1] at h
    cbv
    try (rw [hb1]; cbv)
    try (rw [hb1]; cbv)
    obtain ⟨x2, hx2, h⟩ := of_cl h
    try dsimp only at h
    refine ACall.mk _ _ rfl (hF _ _ _ (c_I_IsPlace hg ht hx2)) (.inl rfl) (Nat.le_of_ble_eq_true rfl) ?_
    cbv
    try (rw [hb1]; cbv)
    cases hb2 : x2 with
    | true =>
      rw [br_true hb2] at h
      cbv
      try (rw [hb2]; cbv)
      try (rw [hb2]; cbv)
      try (rw [hb2]; cbv)
      try (rw [hb2]; cbv)
      try (rw [hb2]; cbv)
      cases hb3 : (seq a0_From a0_To) with
      | true =>
        rw [br_true hb3] at h
        cbv
        try (rw [hb3]; cbv)
        try (rw [hb3]; cbv)
        try (rw [hb3]; cbv)
        obtain rfl := Option.some.inj h
        exact ARet.mk trivial hX.symm
      | false =>
        rw [br_false hb3] at h
        cbv
        try (rw [hb3]; cbv)
        try (rw [hb3]; cbv)
        obtain ⟨x3, hx3, h⟩ := of_lP h
        try dsimp only at h
        refine ACall.mk _ _ rfl (hF _ _ _ (c_I_within hg ht hx3)) (.inl rfl) (Nat.le_of_ble_eq_true rfl) ?_
        cbv
        try (rw [hb3]; cbv)
        cases hb4 : x3 with
        | true =>
          rw [br_true hb4] at h
          cbv
          try (rw [hb4]; cbv)
          try (rw [hb4]; cbv)
          obtain ⟨x4, hx4, h⟩ := of_lP h
          try dsimp only at h
          refine ACall.mk _ _ rfl (hF _ _ _ (c_I_within hg ht hx4)) (.inl rfl) (Nat.le_of_ble_eq_true rfl) ?_
          cbv
          try (rw [hb4]; cbv)
          cases hb5 : x4 with
          | true =>
            rw [br_true hb5] at h
            cbv
            try (rw [hb5]; cbv)
            try (rw [hb5]; cbv)
            obtain ⟨x5, hx5, h⟩ := of_lP h
            try dsimp only at h
            refine ACall.mk _ _ rfl (hF _ _ _ (c_I_within hg ht hx5)) (.inl rfl) (Nat.le_of_ble_eq_true rfl) ?_
            cbv
            try (rw [hb5]; cbv)
            cases hb6 : x5 with
            | true =>
              rw [br_true hb6] at h
              cbv
              try (rw [hb6]; cbv)
              try (rw [hb6]; cbv)
              obtain ⟨x6, hx6, h⟩ := of_lP h
              try dsimp only at h
              refine ACall.mk _ _ rfl (hF _ _ _ (c_I_within hg ht hx6)) (.inl rfl) (Nat.le_of_ble_eq_true rfl) ?_
              cbv
              try (rw [hb6]; cbv)
              obtain rfl := Option.some.inj h
              exact ARet.mk trivial hX.symm
            | false =>
              rw [br_false hb6] at h
              cbv
              try (rw [hb6]; cbv)
              try (rw [hb6]; cbv)
              try (rw [hb6]; cbv)
              obtain rfl := Option.some.inj h
              exact ARet.mk trivial hX.symm
          | false =>
            rw [br_false hb5] at h
            cbv
            try (rw [hb5]; cbv)
            try (rw [hb5]; cbv)
            try (rw [hb5]; cbv)
            obtain rfl := Option.some.inj h
            exact ARet.mk trivial hX.symm
        | false =>
          rw [br_false hb4] at h
          cbv
          try (rw [hb4]; cbv)
          try (rw [hb4]; cbv)
          try (rw [hb4]; cbv)
          obtain rfl := Option.some.inj h
          exact ARet.mk trivial hX.symm
    | false =>
      rw [br_false hb2] at h
      cbv
      try (rw [hb2]; cbv)
      try (rw [hb2]; cbv)
      try (rw [hb2]; cbv)
      try (rw [hb2]; cbv)
      try (rw [hb2]; cbv)
      obtain rfl := Option.some.inj h
      exact ARet.mk trivial hX.symm
  | false =>
    rw [br_false hb1] at h
    cbv
    try (rw [hb1]; cbv)
    try (rw [hb1]; cbv)
    try (rw [hb1]; cbv)
    obtain rfl := Option.some.inj h
    exact ARet.mk trivial hX.symm
end Go.Vs
namespace Go.Vs
set_option maxRecDepth 100000
def ir33 : J :=
  .seq (.reg none [⟨(some 1), none, .box (.t 0)⟩,
     ⟨(some 2), none, .mv (.k (V.b false))⟩] [1])
  (.seq (.seq (.reg none [⟨(some 7), none, .fa 0 (.t 1)⟩,
      ⟨(some 8), none, .ld false 1 (.t 7)⟩,
      ⟨(some 9), none, .len false (.t 8)⟩,
      ⟨(some 10), none, .mv (.k (V.i 0))⟩] [1, 8, 9, 10])
   (.bl 0 (.seq (.reg none [⟨(some 11), none, .bin .lss .i (.t 10) (.t 9)⟩] [1, 8, 9, 10, 11])
    (.seq (.cond (.t 11)
      (.skip)
      (.exit 0))
    (.seq (.block 1 (.seq (.reg none [⟨(some 12), none, .ia 6 (.t 8) (.t 10)⟩,
         ⟨(some 13), none, .ld true 6 (.t 12)⟩,
         ⟨(some 4), none, .alloc [.r (.v (.string .empty)), .r (.v (.string .empty)), .r (.v (.int .i64 0)), .r (.v (.int .i64 0)), .r (.v (.int .i64 0)), .r (.v (.int .i64 0))]⟩,
         ⟨none, none, .st 6 (.t 4) (.t 13)⟩] [1, 4, 8, 9, 10])
      (.seq (.reg none [⟨(some 14), none, .ld true 6 (.t 4)⟩,
         ⟨(some 15), none, .call 46 true [(.t 14)]⟩,
         ⟨(some 16), none, .not (.t 15)⟩] [1, 8, 9, 10, 16])
      (.cond (.t 16)
       (.seq (.reg none [⟨(some 2), none, .mv (.k (V.b false))⟩] [2])
        (.ret))
       (.skip)))))
    (.reg none [⟨(some 17), none, .bin .add .i (.t 10) (.k (V.i 1))⟩,
      ⟨(some 10), none, .mv (.t 17)⟩] [1, 8, 9, 10]))))))
  (.seq (.seq (.reg none [⟨(some 18), none, .fa 1 (.t 1)⟩,
      ⟨(some 19), none, .ld false 1 (.t 18)⟩,
      ⟨(some 20), none, .len false (.t 19)⟩,
      ⟨(some 21), none, .mv (.k (V.i 0))⟩] [1, 19, 20, 21])
   (.bl 2 (.seq (.reg none [⟨(some 22), none, .bin .lss .i (.t 21) (.t 20)⟩] [1, 19, 20, 21, 22])
    (.seq (.cond (.t 22)
      (.skip)
      (.exit 2))
    (.seq (.block 3 (.seq (.reg none [⟨(some 23), none, .mv (.t 21)⟩,
         ⟨(some 24), none, .ia 1 (.t 19) (.t 21)⟩,
         ⟨(some 25), none, .ld false 1 (.t 24)⟩,
         ⟨(some 5), none, .mv (.t 23)⟩,
         ⟨(some 6), none, .mv (.t 25)⟩] [1, 5, 6, 19, 20, 21])
      (.seq (.reg none [⟨(some 26), none, .mv (.t 6)⟩,
         ⟨(some 27), none, .call 34 true [(.t 26), (.k (V.i 0)), (.k (V.i 60))]⟩,
         ⟨(some 28), none, .not (.t 27)⟩,
         ⟨(some 29), none, .mv (.t 28)⟩,
         ⟨(some 30), (some (29, false)), .mv (.t 5)⟩,
         ⟨(some 31), (some (29, false)), .bin .gtr .i (.t 30) (.k (V.i 0))⟩,
         ⟨(some 32), (some (29, false)), .mv (.t 31)⟩,
         ⟨(some 33), (some (32, true)), .fa 1 (.t 1)⟩,
         ⟨(some 34), (some (32, true)), .ld false 1 (.t 33)⟩,
         ⟨(some 35), (some (32, true)), .mv (.t 5)⟩,
         ⟨(some 36), (some (32, true)), .bin .sub .i (.t 35) (.k (V.i 1))⟩,
         ⟨(some 37), (some (32, true)), .ia 1 (.t 34) (.t 36)⟩,
         ⟨(some 38), (some (32, true)), .ld false 1 (.t 37)⟩,
         ⟨(some 39), (some (32, true)), .mv (.t 6)⟩,
         ⟨(some 40), (some (32, true)), .bin .geq .i (.t 38) (.t 39)⟩,
         ⟨(some 41), (some (29, false)), .pick (.t 32) (.t 40) (.k (V.b false))⟩,
         ⟨(some 42), none, .pick (.t 29) (.k (V.b true)) (.t 41)⟩] [1, 19, 20, 21, 42])
      (.cond (.t 42)
       (.seq (.reg none [⟨(some 2), none, .mv (.k (V.b false))⟩] [2])
        (.ret))
       (.skip)))))
    (.reg none [⟨(some 43), none, .bin .add .i (.t 21) (.k (V.i 1))⟩,
      ⟨(some 21), none, .mv (.t 43)⟩] [1, 19, 20, 21]))))))
  (.seq (.reg none [⟨(some 44), none, .fa 0 (.t 1)⟩,
     ⟨(some 45), none, .ld false 1 (.t 44)⟩,
     ⟨(some 46), none, .len false (.t 45)⟩,
     ⟨(some 47), none, .bin .leq .i (.t 46) (.k (V.i 20))⟩,
     ⟨(some 48), none, .mv (.t 47)⟩,
     ⟨(some 49), (some (48, true)), .fa 1 (.t 1)⟩,
     ⟨(some 50), (some (48, true)), .ld false 1 (.t 49)⟩,
     ⟨(some 51), (some (48, true)), .len false (.t 50)⟩,
     ⟨(some 52), (some (48, true)), .bin .leq .i (.t 51) (.k (V.i 10))⟩,
     ⟨(some 53), none, .pick (.t 48) (.t 52) (.k (V.b false))⟩,
     ⟨(some 54), none, .mv (.t 53)⟩,
     ⟨(some 55), (some (54, true)), .fa 2 (.t 1)⟩,
     ⟨(some 56), (some (54, true)), .ld false 1 (.t 55)⟩,
     ⟨(some 57), (some (54, true)), .call 34 true [(.t 56), (.k (V.i 0)), (.k (V.i 240))]⟩,
     ⟨(some 58), none, .pick (.t 54) (.t 57) (.k (V.b false))⟩,
     ⟨(some 2), none, .mv (.t 58)⟩] [2])
  (.ret))))
def rv33 : List RV := [.t 2]
open Go.Proofs Go.IntWalk
set_option linter.unusedVariables false
set_option maxRecDepth 100000
set_option maxHeartbeats 4000000
def I_IsNetwork_l2 (g : G) (t : TE) (a0 : Network) : List Int → Int → Option (LR Bool Unit)
  | [], v2 =>
    some (LR.out ())
  | z2 :: ls2, v2 =>
    lP (I_within g t z2 0 60) fun x2 =>
    br x2
    (
     br (g.lt 0 v2)
     (
      gd (((0 : Int) ≤ (g.wrap .i64 (g.sub v2 1)))) <|
      gt a0.Off (g.nat (g.wrap .i64 (g.sub v2 1))) fun x3 =>
      br (g.le z2 x3)
      (
       some (LR.ret false))
      (
       I_IsNetwork_l2 g t a0 ls2 (g.wrap .i64 (g.add v2 1))))
     (
      I_IsNetwork_l2 g t a0 ls2 (g.wrap .i64 (g.add v2 1))))
    (
     some (LR.ret false))
def I_IsNetwork_l1 (g : G) (t : TE) : List Leg → Option (LR Bool Unit)
  | [] =>
    some (LR.out ())
  | z1 :: ls1 =>
    cl (I_IsLeg g t z1) fun x1 =>
    br x1
    (
     I_IsNetwork_l1 g t ls1)
    (
     some (LR.ret false))
def I_IsNetwork (g : G) (t : TE) (a0 : Network) : Option Bool :=
  cl (I_IsNetwork_l1 g t a0.Legs) fun o1 => lr o1 fun y1 =>
  cl (I_IsNetwork_l2 g t a0 a0.Off 0) fun o2 => lr o2 fun y2 =>
  br (g.le (g.llen (t.r_Leg a0.Legs)) 20)
  (
   br (g.le (g.llen (t.r_I64 a0.Off)) 10)
   (
    lP (I_within g t a0.Change 0 240) fun x4 =>
    some x4)
   (
    some false))
  (
   some false)
theorem fit33 : codeFit Try.prog Try.f33.ntmps (Try.f33.body.getD .skip) ir33 = true := by kernel_rfl
theorem c_I_IsNetwork {g : G} {t : TE} {a0 : Network} {r : Bool} (hg : g = G.real) (ht : t = TE.real) (h : I_IsNetwork g t a0 = some r) : Fn Try.prog 33 [.g (Network.rs t a0)] (.c (.r (.v (.bool r)))) := by
  obtain ⟨X, hX⟩ := hide (.c (.r (.v (.bool r))) : X)
  rw [← hX]
  refine fn_of (rvs := rv33) (j := ir33) Try.func33 rfl fit33 (Nat.le_of_ble_eq_true rfl) (by kernel_rfl) prog_mixed ?_
  intro g2 F hg2 hF
  obtain rfl : g2 = g := hg2.unique.trans hg.symm
  clear hg2
  obtain ⟨wrap, lt, le, eq, quo, rem, band, bor, bxor, shl, shr, nat, int, add, sub, mul, cat, seq, slt, sub3, byte, llen, nadd, nsub, dlen, dapp, dset, drep, rd, rda, up, rsub, dsub, all, sle, slen, hasI, putI, hasS, putS, imin, imax, fzc, bstr⟩ := g2
  obtain ⟨r_Leg, d_Leg, r_I64, d_I64, r_S, d_S⟩ := t
  obtain ⟨a0_Legs, a0_Off, a0_Change⟩ := a0
  unfold I_IsNetwork at h
  try dsimp only at h
  cbv
  obtain ⟨o1, ho1, h⟩ := of_cl h
  try dsimp only at h
  try rw [hg] at ho1
  try rw [ht] at ho1
  refine ABL.mk { p : Nat × Int // p.1 ≤ a0_Legs.length ∧ p.2 = ((p.1 : Nat) : Int) ∧ I_IsNetwork_l1 G.real TE.real (List.drop p.1 a0_Legs) = some o1 } (fun ⟨⟨k1, v1⟩, _⟩ => ({ sl := [(1, .c (.p 0 3 0 0)), (8, .c (.r (.s 6 (r_Leg a0_Legs)))), (9, .c (.r (.v (.int .i64 (llen (r_Leg a0_Legs)))))), (10, .c (.r (.v (.int .i64 v1))))], tab := [(0, some (.foc 3 [] [.r (.s 6 (r_Leg a0_Legs)), .r (.s 1 (r_I64 a0_Off)), .r (.v (.int .i64 a0_Change))] []))] } : St)) 1 (fun p => a0_Legs.length - p.1.1) ⟨(0, 0), Nat.zero_le _, rfl, ho1⟩ (Unit) (fun _ => ({ sl := [(1, .c (.p 0 3 0 0))], tab := [(0, some (.foc 3 [] [.r (.s 6 (r_Leg a0_Legs)), .r (.s 1 (r_I64 a0_Off)), .r (.v (.int .i64 a0_Change))] []))] } : St)) 1 (fun y => o1 = LR.out y) ?_ ?_ ?_
  · refine Wk.of [(0, some 0)] rfl rfl ?_ ?_
    · cbv
      all_goals exact ⟨⟨_, rfl, rfl⟩, ⟨_, rfl, rfl⟩, ⟨_, rfl, rfl⟩, ⟨_, rfl, rfl⟩, trivial⟩
    · cbv
      all_goals exact ⟨⟨_, rfl, _, rfl, rfl, rfl, rfl, trivial⟩, trivial⟩
  · rintro ⟨⟨k1, v1⟩, hk1, hi1, h_1⟩ hq1
    have hm1 := (hq1.1 8 _ _ rfl)
    try dsimp only at hk1 hi1 h_1
    clear hq1
    cbv
    by_cases hc1_ : k1 < a0_Legs.length
    · have hb1 : lt v1 (llen (r_Leg a0_Legs)) = true := ltL_true_Leg hg ht hi1 hc1_
      have hs1 := stepL_Leg hg ht hi1 hc1_ hm1
      obtain ⟨z1, hz1⟩ := some_of_lt hc1_
      rw [drop_of_some hz1] at h_1
      rw [I_IsNetwork_l1] at h_1
      obtain ⟨z1_From, z1_To, z1_Start, z1_Takes, z1_Days, z1_Room⟩ := z1
      try rw [← hg] at h_1
      try rw [← ht] at h_1
      try dsimp only at h_1
      rw [hb1]
      cbv
      refine AStep.mk (nn_L hi1) ?_
      cbv
      refine AGet.mk _ (r_getL_Leg hg ht hi1 hz1) ?_
      cbv
      obtain ⟨x1, hx1, h_1⟩ := of_cl h_1
      try dsimp only at h_1
      refine ACall.mk _ _ rfl (hF _ _ _ (c_I_IsLeg hg ht hx1)) (.inl rfl) (Nat.le_of_ble_eq_true rfl) ?_
      cbv
      cases hb2 : x1 with
      | true =>
        rw [br_true hb2] at h_1
        cbv
        try rw [hg] at h_1
        try rw [ht] at h_1
        refine ⟨⟨(k1 + 1, (wrap .i64 (add v1 1))), hc1_, hs1, h_1⟩, Wk.of [(0, some 0)] rfl rfl ?_ ?_, meas_L hc1_⟩
        · cbv
          all_goals exact ⟨⟨_, rfl, rfl⟩, ⟨_, rfl, rfl⟩, ⟨_, rfl, rfl⟩, ⟨_, rfl, rfl⟩, trivial⟩
        · cbv
          all_goals exact ⟨⟨_, rfl, _, rfl, rfl, rfl, rfl, trivial⟩, trivial⟩
      | false =>
        rw [br_false hb2] at h_1
        cbv
        obtain rfl := Option.some.inj h_1
        try dsimp only [lr, lrL, lrp, lrpL] at h
        obtain rfl := Option.some.inj h
        exact ARet.mk trivial hX.symm
    · have hb1 : lt v1 (llen (r_Leg a0_Legs)) = false := ltL_false_Leg hg ht hi1 hc1_
      rw [List.drop_of_length_le (Nat.le_of_not_lt hc1_)] at h_1
      rw [I_IsNetwork_l1] at h_1
      try rw [← hg] at h_1
      try rw [← ht] at h_1
      try dsimp only at h_1
      rw [hb1]
      cbv
      refine ⟨(), Wk.of [(0, some 0)] rfl rfl ?_ ?_, (Option.some.inj h_1).symm⟩
      · cbv
        all_goals exact ⟨⟨_, rfl, rfl⟩, trivial⟩
      · cbv
        all_goals exact ⟨⟨_, rfl, _, rfl, rfl, rfl, rfl, trivial⟩, trivial⟩
  · rintro _ hy1
    replace hy1 := hy1.symm
    subst hy1
    try dsimp only [lr, lrL, lrp, lrpL] at h
    cbv
    obtain ⟨o2, ho2, h⟩ := of_cl h
    try dsimp only at h
    try rw [hg] at ho2
    try rw [ht] at ho2
    refine ABL.mk { p : Nat × Int // p.1 ≤ a0_Off.length ∧ p.2 = ((p.1 : Nat) : Int) ∧ I_IsNetwork_l2 G.real TE.real (Network.mk a0_Legs a0_Off a0_Change) (List.drop p.1 a0_Off) p.2 = some o2 } (fun ⟨⟨k2, v2⟩, _⟩ => ({ sl := [(1, .c (.p 0 3 0 0)), (19, .c (.r (.s 1 (r_I64 a0_Off)))), (20, .c (.r (.v (.int .i64 (llen (r_I64 a0_Off)))))), (21, .c (.r (.v (.int .i64 v2))))], tab := [(0, some (.foc 3 [] [.r (.s 6 (r_Leg a0_Legs)), .r (.s 1 (r_I64 a0_Off)), .r (.v (.int .i64 a0_Change))] []))] } : St)) 1 (fun p => a0_Off.length - p.1.1) ⟨(0, 0), Nat.zero_le _, rfl, ho2⟩ (Unit) (fun _ => ({ sl := [(1, .c (.p 0 3 0 0))], tab := [(0, some (.foc 3 [] [.r (.s 6 (r_Leg a0_Legs)), .r (.s 1 (r_I64 a0_Off)), .r (.v (.int .i64 a0_Change))] []))] } : St)) 1 (fun y => o2 = LR.out y) ?_ ?_ ?_
    · refine Wk.of [(0, some 0)] rfl rfl ?_ ?_
      · cbv
        all_goals exact ⟨⟨_, rfl, rfl⟩, ⟨_, rfl, rfl⟩, ⟨_, rfl, rfl⟩, ⟨_, rfl, rfl⟩, trivial⟩
      · cbv
        all_goals exact ⟨⟨_, rfl, _, rfl, rfl, rfl, rfl, trivial⟩, trivial⟩
    · rintro ⟨⟨k2, v2⟩, hk2, hi2, h_2⟩ hq2
      have hm2 := (hq2.1 19 _ _ rfl)
      try dsimp only at hk2 hi2 h_2
      clear hq2
      cbv
      by_cases hc2_ : k2 < a0_Off.length
      · have hb3 : lt v2 (llen (r_I64 a0_Off)) = true := ltL_true_I64 hg ht hi2 hc2_
        have hs2 := stepL_I64 hg ht hi2 hc2_ hm2
        obtain ⟨z2, hz2⟩ := some_of_lt hc2_
        rw [drop_of_some hz2] at h_2
        rw [I_IsNetwork_l2] at h_2
        try rw [← hg] at h_2
        try rw [← ht] at h_2
        try dsimp only at h_2
        rw [hb3]
        cbv
        refine AStep.mk (nn_L hi2) ?_
        cbv
        refine AGet.mk _ (r_getL_I64 hg ht hi2 hz2) ?_
        cbv
        obtain ⟨x2, hx2, h_2⟩ := of_lP h_2
        try dsimp only at h_2
        refine ACall.mk _ _ rfl (hF _ _ _ (c_I_within hg ht hx2)) (.inl rfl) (Nat.le_of_ble_eq_true rfl) ?_
        cbv
        cases hb4 : x2 with
        | true =>
          rw [br_true hb4] at h_2
          cbv
          try (rw [hb4]; cbv)
          try (rw [hb4]; cbv)
          cases hb5 : (lt 0 v2) with
          | true =>
            rw [br_true hb5] at h_2
            cbv
            try (rw [hb5]; cbv)
            try (rw [hb5]; cbv)
            try (rw [hb5]; cbv)
            try (rw [hb5]; cbv)
            obtain ⟨hc1, h_2⟩ := of_gd h_2
            refine AStep.mk hc1 ?_
            cbv
            obtain ⟨x3, hx3, h_2⟩ := of_gt h_2
            try dsimp only at h_2
            refine AGet.mk _ (r_get_I64 hg ht hx3) ?_
            cbv
            try (rw [hb5]; cbv)
            try (rw [hb5]; cbv)
            try (rw [hb5]; cbv)
            try (rw [hb4]; cbv)
            try (rw [hb5]; cbv)
            try (rw [hb4]; cbv)
            cases hb6 : (le z2 x3) with
            | true =>
              rw [br_true hb6] at h_2
              cbv
              obtain rfl := Option.some.inj h_2
              try dsimp only [lr, lrL, lrp, lrpL] at h
              obtain rfl := Option.some.inj h
              exact ARet.mk trivial hX.symm
            | false =>
              rw [br_false hb6] at h_2
              cbv
              try rw [hg] at h_2
              try rw [ht] at h_2
              refine ⟨⟨(k2 + 1, (wrap .i64 (add v2 1))), hc2_, hs2, h_2⟩, Wk.of [(0, some 0)] rfl rfl ?_ ?_, meas_L hc2_⟩
              · cbv
                all_goals exact ⟨⟨_, rfl, rfl⟩, ⟨_, rfl, rfl⟩, ⟨_, rfl, rfl⟩, ⟨_, rfl, rfl⟩, trivial⟩
              · cbv
                all_goals exact ⟨⟨_, rfl, _, rfl, rfl, rfl, rfl, trivial⟩, trivial⟩
          | false =>
            rw [br_false hb5] at h_2
            cbv
            try (rw [hb5]; cbv)
            try (rw [hb5]; cbv)
            try (rw [hb5]; cbv)
            try (rw [hb5]; cbv)
            try (rw [hb5]; cbv)
            try (rw [hb5]; cbv)
            try (rw [hb5]; cbv)
            try (rw [hb4]; cbv)
            try (rw [hb5]; cbv)
            try (rw [hb4]; cbv)
            try rw [hg] at h_2
            try rw [ht] at h_2
            refine ⟨⟨(k2 + 1, (wrap .i64 (add v2 1))), hc2_, hs2, h_2⟩, Wk.of [(0, some 0)] rfl rfl ?_ ?_, meas_L hc2_⟩
            · cbv
              all_goals exact ⟨⟨_, rfl, rfl⟩, ⟨_, rfl, rfl⟩, ⟨_, rfl, rfl⟩, ⟨_, rfl, rfl⟩, trivial⟩
            · cbv
              all_goals exact ⟨⟨_, rfl, _, rfl, rfl, rfl, rfl, trivial⟩, trivial⟩
        | false =>
          rw [br_false hb4] at h_2
          cbv
          try (rw [hb4]; cbv)
          try (rw [hb4]; cbv)
          try (rw [hb4]; cbv)
          try (rw [hb4]; cbv)
          obtain rfl := Option.some.inj h_2
          try dsimp only [lr, lrL, lrp, lrpL] at h
          obtain rfl := Option.some.inj h
          exact ARet.mk trivial hX.symm
      · have hb3 : lt v2 (llen (r_I64 a0_Off)) = false := ltL_false_I64 hg ht hi2 hc2_
        rw [List.drop_of_length_le (Nat.le_of_not_lt hc2_)] at h_2
        rw [I_IsNetwork_l2] at h_2
        try rw [← hg] at h_2
        try rw [← ht] at h_2
        try dsimp only at h_2
        rw [hb3]
        cbv
        refine ⟨(), Wk.of [(0, some 0)] rfl rfl ?_ ?_, (Option.some.inj h_2).symm⟩
        · cbv
          all_goals exact ⟨⟨_, rfl, rfl⟩, trivial⟩
        · cbv
          all_goals exact ⟨⟨_, rfl, _, rfl, rfl, rfl, rfl, trivial⟩, trivial⟩
    · rintro _ hy2
      replace hy2 := hy2.symm
      subst hy2
      try dsimp only [lr, lrL, lrp, lrpL] at h
      cbv
      cases hb7 : (le (llen (r_Leg a0_Legs)) 20) with
      | true =>
        rw [br_true hb7] at h
        cbv
        try (rw [hb7]; cbv)
        try (rw [hb7]; cbv)
        try (rw [hb7]; cbv)
        try (rw [hb7]; cbv)
        cases hb8 : (le (llen (r_I64 a0_Off)) 10) with
        | true =>
          rw [br_true hb8] at h
          cbv
          try (rw [hb8]; cbv)
          try (rw [hb8]; cbv)
          obtain ⟨x4, hx4, h⟩ := of_lP h
          try dsimp only at h
          refine ACall.mk _ _ rfl (hF _ _ _ (c_I_within hg ht hx4)) (.inl rfl) (Nat.le_of_ble_eq_true rfl) ?_
          cbv
          try (rw [hb8]; cbv)
          obtain rfl := Option.some.inj h
          exact ARet.mk trivial hX.symm
        | false =>
          rw [br_false hb8] at h
          cbv
          try (rw [hb8]; cbv)
          try (rw [hb8]; cbv)
          try (rw [hb8]; cbv)
          obtain rfl := Option.some.inj h
          exact ARet.mk trivial hX.symm
      | false =>
        rw [br_false hb7] at h
        cbv
        try (rw [hb7]; cbv)
        try (rw [hb7]; cbv)
        try (rw [hb7]; cbv)
        try (rw [hb7]; cbv)
        obtain rfl := Option.some.inj h
        exact ARet.mk trivial hX.symm
end Go.Vs
namespace Go.Vs
set_option maxRecDepth 100000
def ir35 : J :=
  .seq (.reg none [⟨(some 4), none, .mv (.k (V.i 0))⟩] [0, 1])
  (.seq (.seq (.reg none [⟨(some 7), none, .mv (.t 0)⟩,
      ⟨(some 8), none, .len false (.t 7)⟩,
      ⟨(some 9), none, .mv (.k (V.i 0))⟩] [1, 7, 8, 9])
   (.bl 0 (.seq (.reg none [⟨(some 10), none, .bin .lss .i (.t 9) (.t 8)⟩] [1, 7, 8, 9, 10])
    (.seq (.cond (.t 10)
      (.skip)
      (.exit 0))
    (.seq (.block 1 (.seq (.reg none [⟨(some 11), none, .mv (.t 9)⟩,
         ⟨(some 12), none, .ia 1 (.t 7) (.t 9)⟩,
         ⟨(some 13), none, .ld false 1 (.t 12)⟩,
         ⟨(some 5), none, .mv (.t 11)⟩,
         ⟨(some 6), none, .mv (.t 13)⟩] [1, 5, 6, 7, 8, 9])
      (.seq (.reg none [⟨(some 14), none, .mv (.t 6)⟩,
         ⟨(some 15), none, .mv (.t 1)⟩,
         ⟨(some 16), none, .bin .eql .s (.t 14) (.t 15)⟩] [1, 5, 7, 8, 9, 16])
      (.cond (.t 16)
       (.seq (.reg none [⟨(some 17), none, .mv (.t 5)⟩,
           ⟨(some 4), none, .mv (.t 17)⟩] [4])
        (.ret))
       (.skip)))))
    (.reg none [⟨(some 18), none, .bin .add .i (.t 9) (.k (V.i 1))⟩,
      ⟨(some 9), none, .mv (.t 18)⟩] [1, 7, 8, 9]))))))
  (.seq (.reg none [⟨(some 4), none, .mv (.k (V.i (-1)))⟩] [4])
  (.ret)))
def rv35 : List RV := [.t 4]
open Go.Proofs Go.IntWalk
set_option linter.unusedVariables false
set_option maxRecDepth 100000
set_option maxHeartbeats 4000000
def I_placeAt_l1 (g : G) (t : TE) (a1 : ByteArray) : List ByteArray → Int → LR Int Unit
  | [], v1 =>
    (LR.out ())
  | z1 :: ls1, v1 =>
    br (g.seq z1 a1)
    (
     (LR.ret v1))
    (
     I_placeAt_l1 g t a1 ls1 (g.wrap .i64 (g.add v1 1)))
def I_placeAt (g : G) (t : TE) (a0 : List ByteArray) (a1 : ByteArray) : Int :=
  lP (I_placeAt_l1 g t a1 a0 0) fun o1 => lrp o1 fun y1 =>
  (-1)
theorem fit35 : codeFit Try.prog Try.f35.ntmps (Try.f35.body.getD .skip) ir35 = true := by kernel_rfl
theorem c_I_placeAt {g : G} {t : TE} {a0 : List ByteArray} {a1 : ByteArray} {r : Int} (hg : g = G.real) (ht : t = TE.real) (h : I_placeAt g t a0 a1 = r) : Fn Try.prog 35 [.c (.s 1 (t.r_S a0)), .c (.v (.string a1))] (.c (.r (.v (.int .i64 r)))) := by
  obtain ⟨X, hX⟩ := hide (.c (.r (.v (.int .i64 r))) : X)
  rw [← hX]
  refine fn_of (rvs := rv35) (j := ir35) Try.func35 rfl fit35 (Nat.le_of_ble_eq_true rfl) (by kernel_rfl) prog_mixed ?_
  intro g2 F hg2 hF
  obtain rfl : g2 = g := hg2.unique.trans hg.symm
  clear hg2
  obtain ⟨wrap, lt, le, eq, quo, rem, band, bor, bxor, shl, shr, nat, int, add, sub, mul, cat, seq, slt, sub3, byte, llen, nadd, nsub, dlen, dapp, dset, drep, rd, rda, up, rsub, dsub, all, sle, slen, hasI, putI, hasS, putS, imin, imax, fzc, bstr⟩ := g2
  obtain ⟨r_Leg, d_Leg, r_I64, d_I64, r_S, d_S⟩ := t
  unfold I_placeAt at h
  try dsimp only at h
  cbv
  obtain ⟨o1, ho1, h⟩ := of_lP h
  try dsimp only at h
  try rw [hg] at ho1
  try rw [ht] at ho1
  refine ABL.mk { p : Nat × Int // p.1 ≤ a0.length ∧ p.2 = ((p.1 : Nat) : Int) ∧ I_placeAt_l1 G.real TE.real a1 (List.drop p.1 a0) p.2 = o1 } (fun ⟨⟨k1, v1⟩, _⟩ => ({ sl := [(1, .c (.r (.v (.string a1)))), (7, .c (.r (.s 1 (r_S a0)))), (8, .c (.r (.v (.int .i64 (llen (r_S a0)))))), (9, .c (.r (.v (.int .i64 v1))))], tab := [] } : St)) 0 (fun p => a0.length - p.1.1) ⟨(0, 0), Nat.zero_le _, rfl, ho1⟩ (Unit) (fun _ => ({ sl := [], tab := [] } : St)) 0 (fun y => o1 = LR.out y) ?_ ?_ ?_
  · refine Wk.of [] rfl rfl ?_ ?_
    · cbv
      all_goals exact ⟨⟨_, rfl, rfl⟩, ⟨_, rfl, rfl⟩, ⟨_, rfl, rfl⟩, ⟨_, rfl, rfl⟩, trivial⟩
    · cbv
      all_goals exact trivial
  · rintro ⟨⟨k1, v1⟩, hk1, hi1, h_1⟩ hq1
    have hm1 := (hq1.1 7 _ _ rfl)
    try dsimp only at hk1 hi1 h_1
    clear hq1
    cbv
    by_cases hc1_ : k1 < a0.length
    · have hb1 : lt v1 (llen (r_S a0)) = true := ltL_true_S hg ht hi1 hc1_
      have hs1 := stepL_S hg ht hi1 hc1_ hm1
      obtain ⟨z1, hz1⟩ := some_of_lt hc1_
      rw [drop_of_some hz1] at h_1
      rw [I_placeAt_l1] at h_1
      try rw [← hg] at h_1
      try rw [← ht] at h_1
      try dsimp only at h_1
      rw [hb1]
      cbv
      refine AStep.mk (nn_L hi1) ?_
      cbv
      refine AGet.mk _ (r_getL_S hg ht hi1 hz1) ?_
      cbv
      cases hb2 : (seq z1 a1) with
      | true =>
        rw [br_true hb2] at h_1
        cbv
        subst h_1
        try dsimp only [lr, lrL, lrp, lrpL] at h
        subst h
        exact ARet.mk trivial hX.symm
      | false =>
        rw [br_false hb2] at h_1
        cbv
        try rw [hg] at h_1
        try rw [ht] at h_1
        refine ⟨⟨(k1 + 1, (wrap .i64 (add v1 1))), hc1_, hs1, h_1⟩, Wk.of [] rfl rfl ?_ ?_, meas_L hc1_⟩
        · cbv
          all_goals exact ⟨⟨_, rfl, rfl⟩, ⟨_, rfl, rfl⟩, ⟨_, rfl, rfl⟩, ⟨_, rfl, rfl⟩, trivial⟩
        · cbv
          all_goals exact trivial
    · have hb1 : lt v1 (llen (r_S a0)) = false := ltL_false_S hg ht hi1 hc1_
      rw [List.drop_of_length_le (Nat.le_of_not_lt hc1_)] at h_1
      rw [I_placeAt_l1] at h_1
      try rw [← hg] at h_1
      try rw [← ht] at h_1
      try dsimp only at h_1
      rw [hb1]
      cbv
      refine ⟨(), Wk.of [] rfl rfl ?_ ?_, h_1.symm⟩
      · cbv
        all_goals exact trivial
      · cbv
        all_goals exact trivial
  · rintro _ hy1
    replace hy1 := hy1.symm
    subst hy1
    try dsimp only [lr, lrL, lrp, lrpL] at h
    cbv
    subst h
    exact ARet.mk trivial hX.symm
end Go.Vs
namespace Go.Proofs
open Go.RowKit Go.Sort
set_option maxHeartbeats 2000000
set_option maxRecDepth 100000
def Try.lays192_ren : Go.Shelf.Ren := ⟨fun | 192 => 47 | 190 => 53 | 125 => 57 | 258 => 56 | 128 => 67 | 129 => 68 | 302 => 58 | 303 => 59 | 304 => 60 | 305 => 61 | 306 => 62 | 307 => 63 | 308 => 64 | 309 => 65 | 310 => 66 | 333 => 69 | 329 => 70 | 330 => 71 | 334 => 72 | 335 => 73 | 336 => 74 | 344 => 75 | n => n, fun | 31 => 53 | 0 => 0 | 9 => 9 | 3 => 3 | 46 => 76 | 51 => 87 | 53 => 89 | 4 => 4 | 183 => 79 | 182 => 78 | 131 => 84 | 5 => 5 | 218 => 90 | 222 => 94 | 228 => 96 | 229 => 97 | n => n, fun | n => n⟩
theorem Try.lays192 : Go.Proofs.Lays.n192 Try.prog Try.lays192_ren := {
  mixed := by kernel_rfl
  f125 := Try.func57.trans (congrArg some (by kernel_rfl))
  f128 := Try.func67.trans (congrArg some (by kernel_rfl))
  f129 := Try.func68.trans (congrArg some (by kernel_rfl))
  f190 := Try.func53.trans (congrArg some (by kernel_rfl))
  f192 := Try.func47.trans (congrArg some (by kernel_rfl))
  f258 := Try.func56.trans (congrArg some (by kernel_rfl))
  f302 := Try.func58.trans (congrArg some (by kernel_rfl))
  f303 := Try.func59.trans (congrArg some (by kernel_rfl))
  f304 := Try.func60.trans (congrArg some (by kernel_rfl))
  f305 := Try.func61.trans (congrArg some (by kernel_rfl))
  f306 := Try.func62.trans (congrArg some (by kernel_rfl))
  f307 := Try.func63.trans (congrArg some (by kernel_rfl))
  f308 := Try.func64.trans (congrArg some (by kernel_rfl))
  f309 := Try.func65.trans (congrArg some (by kernel_rfl))
  f310 := Try.func66.trans (congrArg some (by kernel_rfl))
  f329 := Try.func70.trans (congrArg some (by kernel_rfl))
  f330 := Try.func71.trans (congrArg some (by kernel_rfl))
  f333 := Try.func69.trans (congrArg some (by kernel_rfl))
  f334 := Try.func72.trans (congrArg some (by kernel_rfl))
  f335 := Try.func73.trans (congrArg some (by kernel_rfl))
  f336 := Try.func74.trans (congrArg some (by kernel_rfl))
  f344 := Try.func75.trans (congrArg some (by kernel_rfl))
  t0 := Try.underlying0
  a0 := Try.isAgg0
  z0 := Try.sizeOf0
  v0 := Try.zeroValue0
  t3 := Try.underlying3
  a3 := Try.isAgg3
  z3 := Try.sizeOf3
  v3 := Try.zeroValue3
  t4 := Try.underlying4
  a4 := Try.isAgg4
  z4 := Try.sizeOf4
  v4 := Try.zeroValue4
  t5 := Try.underlying5
  a5 := Try.isAgg5
  z5 := Try.sizeOf5
  v5 := Try.zeroValue5
  t9 := Try.underlying9
  a9 := Try.isAgg9
  z9 := Try.sizeOf9
  v9 := Try.zeroValue9
  t31 := Try.underlying53
  a31 := Try.isAgg53
  z31 := Try.sizeOf53
  v31 := Try.zeroValue53
  t46 := Try.underlying76
  a46 := Try.isAgg76
  z46 := Try.sizeOf76
  v46 := Try.zeroValue76
  t51 := Try.underlying87
  a51 := Try.isAgg87
  z51 := Try.sizeOf87
  v51 := Try.zeroValue87
  t53 := Try.underlying89
  a53 := Try.isAgg89
  z53 := Try.sizeOf89
  v53 := Try.zeroValue89
  t131 := Try.underlying84
  a131 := Try.isAgg84
  z131 := Try.sizeOf84
  v131 := Try.zeroValue84
  t182 := Try.underlying78
  a182 := Try.isAgg78
  z182 := Try.sizeOf78
  v182 := Try.zeroValue78
  t183 := Try.underlying79
  a183 := Try.isAgg79
  z183 := Try.sizeOf79
  v183 := Try.zeroValue79
  t218 := Try.underlying90
  a218 := Try.isAgg90
  z218 := Try.sizeOf90
  v218 := Try.zeroValue90
  t222 := Try.underlying94
  a222 := Try.isAgg94
  z222 := Try.sizeOf94
  v222 := Try.zeroValue94
  t228 := Try.underlying96
  a228 := Try.isAgg96
  z228 := Try.sizeOf96
  v228 := Try.zeroValue96
  t229 := Try.underlying97
  a229 := Try.isAgg97
  z229 := Try.sizeOf97
  v229 := Try.zeroValue97 }
theorem Try.insS_nil (p : Option Addr) (cap : Nat) (w : World) :
    Calls Try.prog 58 #[.slice p 0 cap, .int .i64 0, .int .i64 0] w fun e w' => e = .returned (.tuple #[]) ∧ w' = w := by
  go_enter Try.func58, Try.ntmps58
  go_wp2
  refine wp_loop_rounds 1 ?_
  rw [rounds_succ]
  go_wp2
  go_end0
  exact ⟨rfl, rfl⟩
theorem Try.pdqS_nil (p : Option Addr) (cap : Nat) (w : World) :
    Calls Try.prog 56 #[.slice p 0 cap, .int .i64 0, .int .i64 0, .int .i64 0] w fun e w' => e = .returned (.tuple #[]) ∧ w' = w := by
  go_enter Try.func56, Try.ntmps56
  go_wp2
  refine wp_loop_rounds 1 ?_
  rw [rounds_succ]
  go_wp2_with (first | (go_at_call 58; refine (Try.insS_nil p cap _).mono ?_; rintro e w' ⟨rfl, rfl⟩))
  refine bodyPost_ret (results_none rfl _ _ _) rfl ?_
  exact ⟨rfl, rfl⟩
theorem Try.sortS_nil (p : Option Addr) (cap : Nat) (w : World) :
    Calls Try.prog 53 #[.slice p 0 cap] w fun e w' => e = .returned (.tuple #[]) ∧ w' = w := by
  have hLen : ∀ w, Calls Try.prog 57 #[.int .u64 0] w fun e w' => e = .returned (.int .i64 0) ∧ w' = w := fun w => calls_of_every_depth fun D => AnyS.bits_LenInS { Try.lays192 with } D 0 w (by omega) (by omega)
  go_enter Try.func53, Try.ntmps53
  go_wp2_with (first
    | (go_at_call 57; refine (hLen _).mono ?_; rintro e w' ⟨rfl, rfl⟩)
    | (go_at_call 56; refine (Try.pdqS_nil p cap _).mono ?_; rintro e w' ⟨rfl, rfl⟩))
  go_end0
  exact ⟨rfl, rfl⟩
theorem Try.strs_nil (p : Option Addr) (cap : Nat) (w : World) :
    Calls Try.prog 47 #[.slice p 0 cap] w fun e w' => e = .returned (.tuple #[]) ∧ w' = w := by
  go_enter Try.func47, Try.ntmps47
  go_wp2_with (first | (go_at_call 53; refine (Try.sortS_nil p cap _).mono ?_; rintro e w' ⟨rfl, rfl⟩))
  go_end0
  exact ⟨rfl, rfl⟩
end Go.Proofs
namespace Go.Vs
open Go.Proofs Go.RowKit
set_option linter.unusedVariables false
def X_sort_Strings (g : G) (t : TE) (a0 : List ByteArray) : Option (List ByteArray) := gd (a0.length < 4611686018427387904) <| some (srtS a0)
theorem c_X_sort_Strings {g : G} {t : TE} {a0 r : List ByteArray} (hg : g = G.real) (ht : t = TE.real) (h : X_sort_Strings g t a0 = some r) : FnM Try.prog 47 (.m (.o 1 (t.d_S a0))) [] (.u []) (.m (.o 1 (t.d_S r))) := by
  obtain ⟨hl, h⟩ := of_gd h
  cases h
  subst ht
  exact fnM_sortS a0 hl (fun blk cap w hH hb => calls_of_every_depth fun D => AnyS.sort_Strings_in Try.lays192 D blk 0 cap (a0.map bOf) w hH hb (by simpa using hl)) (fun e w => Try.strs_nil none 0 w)
end Go.Vs
namespace Go.Vs
set_option maxRecDepth 100000
def ir36 : J :=
  .seq (.reg none [⟨(some 1), none, .box (.t 0)⟩,
     ⟨(some 2), none, .mv (.k (.c (.n 1)))⟩] [1])
  (.seq (.reg none [⟨(some 9), none, .mkm true⟩,
     ⟨(some 3), none, .mv (.t 9)⟩] [1, 3])
  (.seq (.reg none [⟨(some 10), none, .bsl 1 []⟩,
     ⟨(some 4), none, .mv (.t 10)⟩] [1, 3, 4])
  (.seq (.seq (.reg none [⟨(some 11), none, .fa 0 (.t 1)⟩,
      ⟨(some 12), none, .ld false 1 (.t 11)⟩,
      ⟨(some 13), none, .len false (.t 12)⟩,
      ⟨(some 14), none, .mv (.k (V.i 0))⟩] [3, 4, 12, 13, 14])
   (.bl 0 (.seq (.reg none [⟨(some 15), none, .bin .lss .i (.t 14) (.t 13)⟩] [3, 4, 12, 13, 14, 15])
    (.seq (.cond (.t 15)
      (.skip)
      (.exit 0))
    (.seq (.block 1 (.seq (.reg none [⟨(some 16), none, .ia 6 (.t 12) (.t 14)⟩,
         ⟨(some 17), none, .ld true 6 (.t 16)⟩,
         ⟨(some 6), none, .alloc [.r (.v (.string .empty)), .r (.v (.string .empty)), .r (.v (.int .i64 0)), .r (.v (.int .i64 0)), .r (.v (.int .i64 0)), .r (.v (.int .i64 0))]⟩,
         ⟨none, none, .st 6 (.t 6) (.t 17)⟩] [3, 4, 6, 12, 13, 14])
      (.seq (.reg none [⟨(some 18), none, .fa 0 (.t 6)⟩,
         ⟨(some 19), none, .ld false 1 (.t 18)⟩,
         ⟨(some 20), none, .fa 1 (.t 6)⟩,
         ⟨(some 21), none, .ld false 1 (.t 20)⟩,
         ⟨(some 22), none, .bsl 1 [(.t 19), (.t 21)]⟩,
         ⟨(some 23), none, .len false (.t 22)⟩,
         ⟨(some 24), none, .mv (.k (V.i 0))⟩] [3, 4, 12, 13, 14, 22, 23, 24])
      (.bl 2 (.seq (.reg none [⟨(some 25), none, .bin .lss .i (.t 24) (.t 23)⟩] [3, 4, 12, 13, 14, 22, 23, 24, 25])
       (.seq (.cond (.t 25)
         (.skip)
         (.exit 2))
       (.seq (.block 3 (.seq (.reg none [⟨(some 26), none, .ia 1 (.t 22) (.t 24)⟩,
            ⟨(some 27), none, .ld false 1 (.t 26)⟩,
            ⟨(some 8), none, .mv (.t 27)⟩] [3, 4, 8, 12, 13, 14, 22, 23, 24])
         (.seq (.reg none [⟨(some 28), none, .mv (.t 3)⟩,
            ⟨(some 29), none, .mv (.t 8)⟩,
            ⟨(some 30), none, .mlk true (.t 28) (.t 29)⟩,
            ⟨(some 31), none, .not (.t 30)⟩] [3, 4, 8, 12, 13, 14, 22, 23, 24, 31])
         (.cond (.t 31)
          (.seq (.reg none [⟨(some 32), none, .mv (.t 3)⟩,
              ⟨(some 33), none, .mv (.t 8)⟩,
              ⟨none, none, .mup true (.t 32) (.t 33)⟩] [3, 4, 8, 12, 13, 14, 22, 23, 24])
           (.reg none [⟨(some 34), none, .mv (.t 4)⟩,
             ⟨(some 35), none, .mv (.t 8)⟩,
             ⟨(some 36), none, .bsl 1 [(.t 35)]⟩,
             ⟨(some 37), none, .app 1 16 true (.t 34) (.t 36)⟩,
             ⟨(some 4), none, .mv (.t 37)⟩] [3, 4, 12, 13, 14, 22, 23, 24]))
          (.skip)))))
       (.reg none [⟨(some 38), none, .bin .add .i (.t 24) (.k (V.i 1))⟩,
         ⟨(some 24), none, .mv (.t 38)⟩] [3, 4, 12, 13, 14, 22, 23, 24]))))))))
    (.reg none [⟨(some 39), none, .bin .add .i (.t 14) (.k (V.i 1))⟩,
      ⟨(some 14), none, .mv (.t 39)⟩] [3, 4, 12, 13, 14]))))))
  (.seq (.reg none [⟨(some 40), none, .mv (.t 4)⟩,
     ⟨(some 41), none, .callm 47 (.t 40) []⟩] [4])
  (.seq (.reg none [⟨(some 42), none, .mv (.t 4)⟩,
     ⟨(some 2), none, .mv (.t 42)⟩] [2])
  (.ret))))))
def rv36 : List RV := [.t 2]
open Go.Proofs Go.IntWalk
set_option linter.unusedVariables false
set_option maxRecDepth 100000
set_option maxHeartbeats 4000000
def I_PlacesOf_l2 (g : G) (t : TE) (l2 : List ByteArray) : Nat → Int → List ByteArray → List ByteArray → Option ((List ByteArray) × List ByteArray)
  | 0, v2, w3, w4 =>
    some (w3, w4)
  | n2 + 1, v2, w3, w4 =>
    gt l2 (g.nat v2) fun x1 =>
    br (g.hasS w3 x1)
    (
     I_PlacesOf_l2 g t l2 n2 (g.wrap .i64 (g.add v2 1)) w3 w4)
    (
     lP ([x1]) fun (l3 : List ByteArray) =>
     gd (((w4.length + l3.length) * 16 ≤ 70368744177664)) <|
     lP (w4 ++ l3) fun (l4 : List ByteArray) =>
     I_PlacesOf_l2 g t l2 n2 (g.wrap .i64 (g.add v2 1)) (g.putS w3 x1) l4)
def I_PlacesOf_l1 (g : G) (t : TE) : List Leg → List ByteArray → List ByteArray → Option (List ByteArray)
  | [], w1, w2 =>
    some w2
  | z1 :: ls1, w1, w2 =>
    lP ([z1.From, z1.To]) fun (l2 : List ByteArray) =>
    gd (((g.int (g.dlen (t.d_S l2))) ≤ 9223372036854775807)) <|
    cl (I_PlacesOf_l2 g t l2 (cntLt 0 (g.int (g.dlen (t.d_S l2)))) 0 w1 w2) fun y1 =>
    I_PlacesOf_l1 g t ls1 y1.1 y1.2
def I_PlacesOf (g : G) (t : TE) (a0 : Network) : Option (List ByteArray) :=
  lP ([]) fun (l1 : List ByteArray) =>
  cl (I_PlacesOf_l1 g t a0.Legs [] l1) fun y2 =>
  cl (X_sort_Strings g t y2) fun x2 =>
  gd ((x2.length = y2.length)) <|
  some x2
theorem fit36 : codeFit Try.prog Try.f36.ntmps (Try.f36.body.getD .skip) ir36 = true := by kernel_rfl
theorem c_I_PlacesOf {g : G} {t : TE} {a0 : Network} {r : List ByteArray} (hg : g = G.real) (ht : t = TE.real) (h : I_PlacesOf g t a0 = some r) : Fn Try.prog 36 [.g (Network.rs t a0)] (.c (.o 1 (t.d_S r))) := by
  obtain ⟨X, hX⟩ := hide (.c (.o 1 (t.d_S r)) : X)
  rw [← hX]
  refine fn_of (rvs := rv36) (j := ir36) Try.func36 rfl fit36 (Nat.le_of_ble_eq_true rfl) (by kernel_rfl) prog_mixed ?_
  intro g2 F hg2 hF
  obtain rfl : g2 = g := hg2.unique.trans hg.symm
  clear hg2
  obtain ⟨wrap, lt, le, eq, quo, rem, band, bor, bxor, shl, shr, nat, int, add, sub, mul, cat, seq, slt, sub3, byte, llen, nadd, nsub, dlen, dapp, dset, drep, rd, rda, up, rsub, dsub, all, sle, slen, hasI, putI, hasS, putS, imin, imax, fzc, bstr⟩ := g2
  obtain ⟨r_Leg, d_Leg, r_I64, d_I64, r_S, d_S⟩ := t
  obtain ⟨a0_Legs, a0_Off, a0_Change⟩ := a0
  unfold I_PlacesOf at h
  try dsimp only at h
  cbv
  obtain ⟨l1, hl1, h⟩ := of_lP h
  try dsimp only at h
  refine ANew.mk (d_S l1) (dlen (d_S l1)) (by rw [← hl1]; exact lit_S hg ht []) (by rw [← hl1]; exact litn_S hg ht []) ?_
  cbv
  obtain ⟨o1, ho1, h⟩ := of_cl h
  try dsimp only at h
  try rw [hg] at ho1
  try rw [ht] at ho1
  refine ABL.mk { p : Nat × Int × (List ByteArray) × List ByteArray // p.1 ≤ a0_Legs.length ∧ p.2.1 = ((p.1 : Nat) : Int) ∧ I_PlacesOf_l1 G.real TE.real (List.drop p.1 a0_Legs) p.2.2.1 p.2.2.2 = some o1 } (fun ⟨⟨k1, v1, w1, w2⟩, _⟩ => ({ sl := [(3, .c (.m 0)), (4, .c (.f 1 1 0 (dlen (d_S w2)))), (12, .c (.r (.s 6 (r_Leg a0_Legs)))), (13, .c (.r (.v (.int .i64 (llen (r_Leg a0_Legs)))))), (14, .c (.r (.v (.int .i64 v1))))], tab := [(0, some (.ms w1)), (1, some (.arr 1 (d_S w2)))] } : St)) 2 (fun p => a0_Legs.length - p.1.1) ⟨(0, 0, [], l1), Nat.zero_le _, rfl, ho1⟩ (List ByteArray) (fun y2 => ({ sl := [(4, .c (.f 0 1 0 (dlen (d_S y2))))], tab := [(0, some (.arr 1 (d_S y2)))] } : St)) 1 (fun y => o1 = y) ?_ ?_ ?_
  · refine Wk.of [(0, some 32), (1, some 64)] rfl rfl ?_ ?_
    · cbv
      all_goals exact ⟨⟨_, rfl, rfl⟩, ⟨_, rfl, rfl⟩, ⟨_, rfl, rfl⟩, ⟨_, rfl, rfl⟩, ⟨_, rfl, rfl⟩, trivial⟩
    · cbv
      all_goals exact ⟨⟨_, rfl, rfl⟩, ⟨_, rfl, rfl⟩, trivial⟩
  · rintro ⟨⟨k1, v1, w1, w2⟩, hk1, hi1, h_1⟩ hq1
    have hm1 := (hq1.1 12 _ _ rfl)
    try dsimp only at hk1 hi1 h_1
    clear hq1
    cbv
    by_cases hc1_ : k1 < a0_Legs.length
    · have hb1 : lt v1 (llen (r_Leg a0_Legs)) = true := ltL_true_Leg hg ht hi1 hc1_
      have hs1 := stepL_Leg hg ht hi1 hc1_ hm1
      obtain ⟨z1, hz1⟩ := some_of_lt hc1_
      rw [drop_of_some hz1] at h_1
      rw [I_PlacesOf_l1] at h_1
      obtain ⟨z1_From, z1_To, z1_Start, z1_Takes, z1_Days, z1_Room⟩ := z1
      try rw [← hg] at h_1
      try rw [← ht] at h_1
      try dsimp only at h_1
      rw [hb1]
      cbv
      refine AStep.mk (nn_L hi1) ?_
      cbv
      refine AGet.mk _ (r_getL_Leg hg ht hi1 hz1) ?_
      cbv
      obtain ⟨l2, hl2, h_1⟩ := of_lP h_1
      try dsimp only at h_1
      refine ANew.mk (d_S l2) (dlen (d_S l2)) (by rw [← hl2]; exact lit_S hg ht [z1_From, z1_To]) (by rw [← hl2]; exact litn_S hg ht [z1_From, z1_To]) ?_
      cbv
      obtain ⟨hB2, h_1⟩ := of_gd h_1
      obtain ⟨o2, ho2, h_1⟩ := of_cl h_1
      try dsimp only at h_1
      try rw [hg] at ho2
      try rw [ht] at ho2
      refine ABL.mk { p : Nat × Int × (List ByteArray) × List ByteArray // p.1 = cntLt p.2.1 (int (dlen (d_S l2))) ∧ 0 ≤ p.2.1 ∧ I_PlacesOf_l2 G.real TE.real l2 p.1 p.2.1 p.2.2.1 p.2.2.2 = some o2 } (fun ⟨⟨n2, v2, w3, w4⟩, _⟩ => ({ sl := [(3, .c (.m 0)), (4, .c (.f 1 1 0 (dlen (d_S w4)))), (12, .c (.r (.s 6 (r_Leg a0_Legs)))), (13, .c (.r (.v (.int .i64 (llen (r_Leg a0_Legs)))))), (14, .c (.r (.v (.int .i64 v1)))), (22, .c (.f 2 1 0 (dlen (d_S l2)))), (23, .c (.r (.v (.int .i64 (int (dlen (d_S l2))))))), (24, .c (.r (.v (.int .i64 v2))))], tab := [(0, some (.ms w3)), (1, some (.arr 1 (d_S w4))), (2, some (.arr 1 (d_S l2)))] } : St)) 3 (fun p => p.1.1) ⟨(cntLt 0 (int (dlen (d_S l2))), 0, w1, w2), rfl, Int.le_refl _, ho2⟩ ((List ByteArray) × List ByteArray) (fun ⟨y1_1, y1_2⟩ => ({ sl := [(3, .c (.m 0)), (4, .c (.f 1 1 0 (dlen (d_S y1_2)))), (12, .c (.r (.s 6 (r_Leg a0_Legs)))), (13, .c (.r (.v (.int .i64 (llen (r_Leg a0_Legs)))))), (14, .c (.r (.v (.int .i64 v1))))], tab := [(0, some (.ms y1_1)), (1, some (.arr 1 (d_S y1_2)))] } : St)) 2 (fun y => o2 = y) ?_ ?_ ?_
      · refine Wk.of [(0, some 0), (1, some 1), (2, some 146)] rfl rfl ?_ ?_
        · cbv
          all_goals exact ⟨⟨_, rfl, rfl⟩, ⟨_, rfl, rfl⟩, ⟨_, rfl, rfl⟩, ⟨_, rfl, rfl⟩, ⟨_, rfl, rfl⟩, ⟨_, rfl, rfl⟩, ⟨_, rfl, rfl⟩, ⟨_, rfl, rfl⟩, trivial⟩
        · cbv
          all_goals exact ⟨⟨_, rfl, rfl⟩, ⟨_, rfl, rfl⟩, ⟨_, rfl, rfl⟩, trivial⟩
      · rintro ⟨⟨n2, v2, w3, w4⟩, hn2, hi2, h_2⟩ hq2
        try dsimp only at hn2 hi2 h_2
        clear hq2
        cbv
        rcases n2 with _ | n2
        · have hb2 : lt v2 (int (dlen (d_S l2))) = false := ltC_false hg hn2
          rw [I_PlacesOf_l2] at h_2
          try rw [← hg] at h_2
          try rw [← ht] at h_2
          try dsimp only at h_2
          rw [hb2]
          cbv
          refine ⟨(w3, w4), Wk.of [(0, some 0), (1, some 1)] rfl rfl ?_ ?_, (Option.some.inj h_2).symm⟩
          · cbv
            all_goals exact ⟨⟨_, rfl, rfl⟩, ⟨_, rfl, rfl⟩, ⟨_, rfl, rfl⟩, ⟨_, rfl, rfl⟩, ⟨_, rfl, rfl⟩, trivial⟩
          · cbv
            all_goals exact ⟨⟨_, rfl, rfl⟩, ⟨_, rfl, rfl⟩, trivial⟩
        · have hb2 : lt v2 (int (dlen (d_S l2))) = true := ltC_true hg hn2
          have hl2 := ltC_le hn2
          have hs2 := stepltC hg hn2 hi2 hB2 (by decide)
          rw [I_PlacesOf_l2] at h_2
          try rw [← hg] at h_2
          try rw [← ht] at h_2
          try dsimp only at h_2
          rw [hb2]
          cbv
          refine AStep.mk (rg_int hg hi2 hl2) ?_
          cbv
          obtain ⟨x1, hx1, h_2⟩ := of_gt h_2
          try dsimp only at h_2
          refine AGet.mk _ (d_get_S hg ht hx1) ?_
          cbv
          cases hb3 : (hasS w3 x1) with
          | true =>
            rw [br_true hb3] at h_2
            cbv
            try rw [hg] at h_2
            try rw [ht] at h_2
            refine ⟨⟨(n2, (wrap .i64 (add v2 1)), w3, w4), hs2.1, hs2.2, h_2⟩, Wk.of [(0, some 0), (1, some 1), (2, some 2)] rfl rfl ?_ ?_, Nat.lt_succ_self _⟩
            · cbv
              all_goals exact ⟨⟨_, rfl, rfl⟩, ⟨_, rfl, rfl⟩, ⟨_, rfl, rfl⟩, ⟨_, rfl, rfl⟩, ⟨_, rfl, rfl⟩, ⟨_, rfl, rfl⟩, ⟨_, rfl, rfl⟩, ⟨_, rfl, rfl⟩, trivial⟩
            · cbv
              all_goals exact ⟨⟨_, rfl, rfl⟩, ⟨_, rfl, rfl⟩, ⟨_, rfl, rfl⟩, trivial⟩
          | false =>
            rw [br_false hb3] at h_2
            cbv
            obtain ⟨l3, hl3, h_2⟩ := of_lP h_2
            try dsimp only at h_2
            refine ANew.mk (d_S l3) (dlen (d_S l3)) (by rw [← hl3]; exact lit_S hg ht [x1]) (by rw [← hl3]; exact litn_S hg ht [x1]) ?_
            cbv
            obtain ⟨hc1, h_2⟩ := of_gd h_2
            refine AStep.mk ⟨⟨rfl, (dlen_S hg ht _)⟩, (app_ok_S hg ht (dlen_S hg ht _) rfl hc1)⟩ ?_
            cbv
            obtain ⟨l4, hl4, h_2⟩ := of_lP h_2
            try dsimp only at h_2
            refine ANew.mk (d_S l4) (dlen (d_S l4)) (by rw [← hl4]; exact app_S hg ht (dlen_S hg ht _) rfl) (by rw [← hl4]; exact appl_S hg ht (dlen_S hg ht _) rfl) ?_
            cbv
            try rw [hg] at h_2
            try rw [ht] at h_2
            refine ⟨⟨(n2, (wrap .i64 (add v2 1)), (putS w3 x1), l4), hs2.1, hs2.2, h_2⟩, Wk.of [(0, some 0), (1, some 227), (2, some 2)] rfl rfl ?_ ?_, Nat.lt_succ_self _⟩
            · cbv
              all_goals exact ⟨⟨_, rfl, rfl⟩, ⟨_, rfl, rfl⟩, ⟨_, rfl, rfl⟩, ⟨_, rfl, rfl⟩, ⟨_, rfl, rfl⟩, ⟨_, rfl, rfl⟩, ⟨_, rfl, rfl⟩, ⟨_, rfl, rfl⟩, trivial⟩
            · cbv
              all_goals exact ⟨⟨_, rfl, rfl⟩, ⟨_, rfl, rfl⟩, ⟨_, rfl, rfl⟩, trivial⟩
      · rintro ⟨y1_1, y1_2⟩ hy2
        replace hy2 := hy2.symm
        subst hy2
        try dsimp only [lr, lrL, lrp, lrpL] at h_1
        cbv
        try rw [hg] at h_1
        try rw [ht] at h_1
        refine ⟨⟨(k1 + 1, (wrap .i64 (add v1 1)), y1_1, y1_2), hc1_, hs1, h_1⟩, Wk.of [(0, some 0), (1, some 1)] rfl rfl ?_ ?_, meas_L hc1_⟩
        · cbv
          all_goals exact ⟨⟨_, rfl, rfl⟩, ⟨_, rfl, rfl⟩, ⟨_, rfl, rfl⟩, ⟨_, rfl, rfl⟩, ⟨_, rfl, rfl⟩, trivial⟩
        · cbv
          all_goals exact ⟨⟨_, rfl, rfl⟩, ⟨_, rfl, rfl⟩, trivial⟩
    · have hb1 : lt v1 (llen (r_Leg a0_Legs)) = false := ltL_false_Leg hg ht hi1 hc1_
      rw [List.drop_of_length_le (Nat.le_of_not_lt hc1_)] at h_1
      rw [I_PlacesOf_l1] at h_1
      try rw [← hg] at h_1
      try rw [← ht] at h_1
      try dsimp only at h_1
      rw [hb1]
      cbv
      refine ⟨w2, Wk.of [(0, some 1)] rfl rfl ?_ ?_, (Option.some.inj h_1).symm⟩
      · cbv
        all_goals exact ⟨⟨_, rfl, rfl⟩, trivial⟩
      · cbv
        all_goals exact ⟨⟨_, rfl, rfl⟩, trivial⟩
  · rintro y2 hy1
    replace hy1 := hy1.symm
    subst hy1
    try dsimp only [lr, lrL, lrp, lrpL] at h
    cbv
    refine AStep.mk ⟨rfl, (dlen_S hg ht _)⟩ ?_
    cbv
    obtain ⟨x2, hx2, h⟩ := of_cl h
    try dsimp only at h
    refine ACallM.mk _ _ _ _ rfl rfl (hF _ _ _ (c_X_sort_Strings hg ht hx2)) rfl (Nat.le_of_ble_eq_true rfl) (Nat.le_of_ble_eq_true rfl) ?_
    cbv
    obtain ⟨hc2, h⟩ := of_gd h
    obtain rfl := Option.some.inj h
    exact ARet.mk ⟨rfl, (lenp_S ht (dlen_S hg ht _) hc2)⟩ hX.symm
end Go.Vs
namespace Go.Vs
set_option maxRecDepth 100000
def ir54 : J :=
  .seq (.reg none [⟨(some 3), none, .box (.t 0)⟩,
     ⟨(some 6), none, .mv (.k (V.b false))⟩] [1, 2, 3])
  (.seq (.seq (.reg none [⟨(some 9), none, .mv (.t 1)⟩,
      ⟨(some 10), none, .bin .lss .i (.t 9) (.k (V.i 0))⟩,
      ⟨(some 11), none, .mv (.t 10)⟩,
      ⟨(some 12), (some (11, false)), .mv (.t 1)⟩,
      ⟨(some 13), (some (11, false)), .fa 0 (.t 3)⟩,
      ⟨(some 14), (some (11, false)), .ld false 1 (.t 13)⟩,
      ⟨(some 15), (some (11, false)), .len false (.t 14)⟩,
      ⟨(some 16), (some (11, false)), .bin .geq .i (.t 12) (.t 15)⟩,
      ⟨(some 17), none, .pick (.t 11) (.k (V.b true)) (.t 16)⟩,
      ⟨(some 18), none, .mv (.t 17)⟩,
      ⟨(some 19), (some (18, false)), .mv (.t 2)⟩,
      ⟨(some 20), (some (18, false)), .call 34 true [(.t 19), (.k (V.i 0)), (.k (V.i 60))]⟩,
      ⟨(some 21), (some (18, false)), .not (.t 20)⟩,
      ⟨(some 22), none, .pick (.t 18) (.k (V.b true)) (.t 21)⟩,
      ⟨(some 23), none, .mv (.t 22)⟩,
      ⟨(some 24), (some (23, false)), .fa 0 (.t 3)⟩,
      ⟨(some 25), (some (23, false)), .ld false 1 (.t 24)⟩,
      ⟨(some 26), (some (23, false)), .mv (.t 1)⟩,
      ⟨(some 27), (some (23, false)), .ia 6 (.t 25) (.t 26)⟩,
      ⟨(some 28), (some (23, false)), .fa 4 (.t 27)⟩,
      ⟨(some 29), (some (23, false)), .ld false 1 (.t 28)⟩,
      ⟨(some 30), (some (23, false)), .mv (.t 2)⟩,
      ⟨(some 31), (some (23, false)), .bin .rem .i (.t 30) (.k (V.i 7))⟩,
      ⟨(some 32), (some (23, false)), .bin .shr .i (.t 29) (.t 31)⟩,
      ⟨(some 33), (some (23, false)), .bin .and .i (.t 32) (.k (V.i 1))⟩,
      ⟨(some 34), (some (23, false)), .bin .eql .i (.t 33) (.k (V.i 0))⟩,
      ⟨(some 35), none, .pick (.t 23) (.k (V.b true)) (.t 34)⟩] [2, 3, 35])
   (.cond (.t 35)
    (.seq (.reg none [⟨(some 6), none, .mv (.k (V.b false))⟩] [6])
     (.ret))
    (.skip)))
  (.seq (.seq (.reg none [⟨(some 36), none, .fa 1 (.t 3)⟩,
      ⟨(some 37), none, .ld false 1 (.t 36)⟩,
      ⟨(some 38), none, .len false (.t 37)⟩,
      ⟨(some 39), none, .mv (.k (V.i 0))⟩] [2, 37, 38, 39])
   (.bl 0 (.seq (.reg none [⟨(some 40), none, .bin .lss .i (.t 39) (.t 38)⟩] [2, 37, 38, 39, 40])
    (.seq (.cond (.t 40)
      (.skip)
      (.exit 0))
    (.seq (.block 1 (.seq (.reg none [⟨(some 41), none, .ia 1 (.t 37) (.t 39)⟩,
         ⟨(some 42), none, .ld false 1 (.t 41)⟩,
         ⟨(some 8), none, .mv (.t 42)⟩] [2, 8, 37, 38, 39])
      (.seq (.reg none [⟨(some 43), none, .mv (.t 8)⟩,
         ⟨(some 44), none, .mv (.t 2)⟩,
         ⟨(some 45), none, .bin .eql .i (.t 43) (.t 44)⟩] [2, 37, 38, 39, 45])
      (.cond (.t 45)
       (.seq (.reg none [⟨(some 6), none, .mv (.k (V.b false))⟩] [6])
        (.ret))
       (.skip)))))
    (.reg none [⟨(some 46), none, .bin .add .i (.t 39) (.k (V.i 1))⟩,
      ⟨(some 39), none, .mv (.t 46)⟩] [2, 37, 38, 39]))))))
  (.seq (.reg none [⟨(some 6), none, .mv (.k (V.b true))⟩] [6])
  (.ret))))
def rv54 : List RV := [.t 6]
open Go.Proofs Go.IntWalk
set_option linter.unusedVariables false
set_option maxRecDepth 100000
set_option maxHeartbeats 4000000
def I_runs_l1 (g : G) (t : TE) (a2 : Int) : List Int → LR Bool Unit
  | [] =>
    (LR.out ())
  | z1 :: ls1 =>
    br (g.eq z1 a2)
    (
     (LR.ret false))
    (
     I_runs_l1 g t a2 ls1)
def I_runs (g : G) (t : TE) (a0 : Network) (a1 : Int) (a2 : Int) : Option Bool :=
  br (g.lt a1 0)
  (
   some false)
  (
   br (g.le (g.llen (t.r_Leg a0.Legs)) a1)
   (
    some false)
   (
    lP (I_within g t a2 0 60) fun x1 =>
    br x1
    (
     gd (((0 : Int) ≤ a1)) <|
     gt a0.Legs (g.nat a1) fun x2 =>
     gd (((0 : Int) ≤ (g.rem a2 7))) <|
     br (g.eq (g.band .i64 (g.shr .i64 x2.Days (g.rem a2 7)) 1) 0)
     (
      some false)
     (
      lP (I_runs_l1 g t a2 a0.Off) fun o1 => lr o1 fun y1 =>
      some true))
    (
     some false)))
theorem fit54 : codeFit Try.prog Try.f54.ntmps (Try.f54.body.getD .skip) ir54 = true := by kernel_rfl
theorem c_I_runs {g : G} {t : TE} {a0 : Network} {a1 : Int} {a2 : Int} {r : Bool} (hg : g = G.real) (ht : t = TE.real) (h : I_runs g t a0 a1 a2 = some r) : Fn Try.prog 54 [.g (Network.rs t a0), .c (.v (.int .i64 a1)), .c (.v (.int .i64 a2))] (.c (.r (.v (.bool r)))) := by
  obtain ⟨X, hX⟩ := hide (.c (.r (.v (.bool r))) : X)
  rw [← hX]
  refine fn_of (rvs := rv54) (j := ir54) Try.func54 rfl fit54 (Nat.le_of_ble_eq_true rfl) (by kernel_rfl) prog_mixed ?_
  intro g2 F hg2 hF
  obtain rfl : g2 = g := hg2.unique.trans hg.symm
  clear hg2
  obtain ⟨wrap, lt, le, eq, quo, rem, band, bor, bxor, shl, shr, nat, int, add, sub, mul, cat, seq, slt, sub3, byte, llen, nadd, nsub, dlen, dapp, dset, drep, rd, rda, up, rsub, dsub, all, sle, slen, hasI, putI, hasS, putS, imin, imax, fzc, bstr⟩ := g2
  obtain ⟨r_Leg, d_Leg, r_I64, d_I64, r_S, d_S⟩ := t
  obtain ⟨a0_Legs, a0_Off, a0_Change⟩ := a0
  unfold I_runs at h
  try dsimp only at h
  cbv
  cases hb1 : (lt a1 0) with
  | true =>
    rw [br_true hb1] at h
    cbv
    try (rw [hb1]; cbv)
    try (rw [hb1]; cbv)
    try (rw [hb1]; cbv)
    try (rw [hb1]; cbv)
    try (rw [hb1]; cbv)
    obtain rfl := Option.some.inj h
    exact ARet.mk trivial hX.symm
  | false =>
    rw [br_false hb1] at h
    cbv
    try (rw [hb1]; cbv)
    try (rw [hb1]; cbv)
    try (rw [hb1]; cbv)
    try (rw [hb1]; cbv)
    try (rw [hb1]; cbv)
    cases hb2 : (le (llen (r_Leg a0_Legs)) a1) with
    | true =>
      rw [br_true hb2] at h
      cbv
      try (rw [hb2]; cbv)
      try (rw [hb2]; cbv)
      try (rw [hb2]; cbv)
      obtain rfl := Option.some.inj h
      exact ARet.mk trivial hX.symm
    | false =>
      rw [br_false hb2] at h
      cbv
      try (rw [hb2]; cbv)
      obtain ⟨x1, hx1, h⟩ := of_lP h
      try dsimp only at h
      refine ACall.mk _ _ rfl (hF _ _ _ (c_I_within hg ht hx1)) (.inl rfl) (Nat.le_of_ble_eq_true rfl) ?_
      cbv
      try (rw [hb2]; cbv)
      try (rw [hb2]; cbv)
      cases hb3 : x1 with
      | true =>
        rw [br_true hb3] at h
        cbv
        try (rw [hb3]; cbv)
        try (rw [hb3]; cbv)
        try (rw [hb3]; cbv)
        obtain ⟨hc1, h⟩ := of_gd h
        refine AStep.mk hc1 ?_
        cbv
        obtain ⟨x2, hx2, h⟩ := of_gt h
        obtain ⟨x2_From, x2_To, x2_Start, x2_Takes, x2_Days, x2_Room⟩ := x2
        try dsimp only at h
        refine AGet.mk _ (r_get_Leg hg ht hx2) ?_
        cbv
        try (rw [hb3]; cbv)
        try (rw [hb3]; cbv)
        try (rw [hb3]; cbv)
        try (rw [hb3]; cbv)
        refine AStep.mk (by decide) ?_
        cbv
        try (rw [hb3]; cbv)
        obtain ⟨hc2, h⟩ := of_gd h
        refine AStep.mk hc2 ?_
        cbv
        try (rw [hb3]; cbv)
        try (rw [hb3]; cbv)
        try (rw [hb3]; cbv)
        cases hb4 : (eq (band .i64 (shr .i64 x2_Days (rem a2 7)) 1) 0) with
        | true =>
          rw [br_true hb4] at h
          cbv
          obtain rfl := Option.some.inj h
          exact ARet.mk trivial hX.symm
        | false =>
          rw [br_false hb4] at h
          cbv
          obtain ⟨o1, ho1, h⟩ := of_lP h
          try dsimp only at h
          try rw [hg] at ho1
          try rw [ht] at ho1
          refine ABL.mk { p : Nat × Int // p.1 ≤ a0_Off.length ∧ p.2 = ((p.1 : Nat) : Int) ∧ I_runs_l1 G.real TE.real a2 (List.drop p.1 a0_Off) = o1 } (fun ⟨⟨k1, v1⟩, _⟩ => ({ sl := [(2, .c (.r (.v (.int .i64 a2)))), (37, .c (.r (.s 1 (r_I64 a0_Off)))), (38, .c (.r (.v (.int .i64 (llen (r_I64 a0_Off)))))), (39, .c (.r (.v (.int .i64 v1))))], tab := [] } : St)) 0 (fun p => a0_Off.length - p.1.1) ⟨(0, 0), Nat.zero_le _, rfl, ho1⟩ (Unit) (fun _ => ({ sl := [], tab := [] } : St)) 0 (fun y => o1 = LR.out y) ?_ ?_ ?_
          · refine Wk.of [] rfl rfl ?_ ?_
            · cbv
              all_goals exact ⟨⟨_, rfl, rfl⟩, ⟨_, rfl, rfl⟩, ⟨_, rfl, rfl⟩, ⟨_, rfl, rfl⟩, trivial⟩
            · cbv
              all_goals exact trivial
          · rintro ⟨⟨k1, v1⟩, hk1, hi1, h_1⟩ hq1
            have hm1 := (hq1.1 37 _ _ rfl)
            try dsimp only at hk1 hi1 h_1
            clear hq1
            cbv
            by_cases hc1_ : k1 < a0_Off.length
            · have hb5 : lt v1 (llen (r_I64 a0_Off)) = true := ltL_true_I64 hg ht hi1 hc1_
              have hs1 := stepL_I64 hg ht hi1 hc1_ hm1
              obtain ⟨z1, hz1⟩ := some_of_lt hc1_
              rw [drop_of_some hz1] at h_1
              rw [I_runs_l1] at h_1
              try rw [← hg] at h_1
              try rw [← ht] at h_1
              try dsimp only at h_1
              rw [hb5]
              cbv
              refine AStep.mk (nn_L hi1) ?_
              cbv
              refine AGet.mk _ (r_getL_I64 hg ht hi1 hz1) ?_
              cbv
              cases hb6 : (eq z1 a2) with
              | true =>
                rw [br_true hb6] at h_1
                cbv
                subst h_1
                try dsimp only [lr, lrL, lrp, lrpL] at h
                obtain rfl := Option.some.inj h
                exact ARet.mk trivial hX.symm
              | false =>
                rw [br_false hb6] at h_1
                cbv
                try rw [hg] at h_1
                try rw [ht] at h_1
                refine ⟨⟨(k1 + 1, (wrap .i64 (add v1 1))), hc1_, hs1, h_1⟩, Wk.of [] rfl rfl ?_ ?_, meas_L hc1_⟩
                · cbv
                  all_goals exact ⟨⟨_, rfl, rfl⟩, ⟨_, rfl, rfl⟩, ⟨_, rfl, rfl⟩, ⟨_, rfl, rfl⟩, trivial⟩
                · cbv
                  all_goals exact trivial
            · have hb5 : lt v1 (llen (r_I64 a0_Off)) = false := ltL_false_I64 hg ht hi1 hc1_
              rw [List.drop_of_length_le (Nat.le_of_not_lt hc1_)] at h_1
              rw [I_runs_l1] at h_1
              try rw [← hg] at h_1
              try rw [← ht] at h_1
              try dsimp only at h_1
              rw [hb5]
              cbv
              refine ⟨(), Wk.of [] rfl rfl ?_ ?_, h_1.symm⟩
              · cbv
                all_goals exact trivial
              · cbv
                all_goals exact trivial
          · rintro _ hy1
            replace hy1 := hy1.symm
            subst hy1
            try dsimp only [lr, lrL, lrp, lrpL] at h
            cbv
            obtain rfl := Option.some.inj h
            exact ARet.mk trivial hX.symm
      | false =>
        rw [br_false hb3] at h
        cbv
        try (rw [hb3]; cbv)
        try (rw [hb3]; cbv)
        try (rw [hb3]; cbv)
        try (rw [hb3]; cbv)
        try (rw [hb3]; cbv)
        try (rw [hb3]; cbv)
        try (rw [hb3]; cbv)
        try (rw [hb3]; cbv)
        try (rw [hb3]; cbv)
        try (rw [hb3]; cbv)
        try (rw [hb3]; cbv)
        obtain rfl := Option.some.inj h
        exact ARet.mk trivial hX.symm
end Go.Vs
namespace Go.Vs
set_option maxRecDepth 100000
def ir48 : J :=
  .seq (.reg none [⟨(some 3), none, .box (.t 0)⟩,
     ⟨(some 6), none, .mv (.k (V.b false))⟩] [1, 2, 3])
  (.seq (.reg none [⟨(some 7), none, .ld true 3 (.t 3)⟩,
     ⟨(some 8), none, .call 33 true [(.t 7)]⟩,
     ⟨(some 9), none, .mv (.t 8)⟩,
     ⟨(some 10), (some (9, true)), .ld true 3 (.t 3)⟩,
     ⟨(some 11), (some (9, true)), .mv (.t 1)⟩,
     ⟨(some 12), (some (9, true)), .mv (.t 2)⟩,
     ⟨(some 13), (some (9, true)), .call 54 true [(.t 10), (.t 11), (.t 12)]⟩,
     ⟨(some 14), none, .pick (.t 9) (.t 13) (.k (V.b false))⟩,
     ⟨(some 6), none, .mv (.t 14)⟩] [6])
  (.ret))
def rv48 : List RV := [.t 6]
open Go.Proofs Go.IntWalk
set_option linter.unusedVariables false
set_option maxRecDepth 100000
set_option maxHeartbeats 4000000
def I_RunsOn (g : G) (t : TE) (a0 : Network) (a1 : Int) (a2 : Int) : Option Bool :=
  cl (I_IsNetwork g t a0) fun x1 =>
  br x1
  (
   cl (I_runs g t a0 a1 a2) fun x2 =>
   some x2)
  (
   some false)
theorem fit48 : codeFit Try.prog Try.f48.ntmps (Try.f48.body.getD .skip) ir48 = true := by kernel_rfl
theorem c_I_RunsOn {g : G} {t : TE} {a0 : Network} {a1 : Int} {a2 : Int} {r : Bool} (hg : g = G.real) (ht : t = TE.real) (h : I_RunsOn g t a0 a1 a2 = some r) : Fn Try.prog 48 [.g (Network.rs t a0), .c (.v (.int .i64 a1)), .c (.v (.int .i64 a2))] (.c (.r (.v (.bool r)))) := by
  obtain ⟨X, hX⟩ := hide (.c (.r (.v (.bool r))) : X)
  rw [← hX]
  refine fn_of (rvs := rv48) (j := ir48) Try.func48 rfl fit48 (Nat.le_of_ble_eq_true rfl) (by kernel_rfl) prog_mixed ?_
  intro g2 F hg2 hF
  obtain rfl : g2 = g := hg2.unique.trans hg.symm
  clear hg2
  obtain ⟨wrap, lt, le, eq, quo, rem, band, bor, bxor, shl, shr, nat, int, add, sub, mul, cat, seq, slt, sub3, byte, llen, nadd, nsub, dlen, dapp, dset, drep, rd, rda, up, rsub, dsub, all, sle, slen, hasI, putI, hasS, putS, imin, imax, fzc, bstr⟩ := g2
  obtain ⟨r_Leg, d_Leg, r_I64, d_I64, r_S, d_S⟩ := t
  obtain ⟨a0_Legs, a0_Off, a0_Change⟩ := a0
  unfold I_RunsOn at h
  try dsimp only at h
  cbv
  obtain ⟨x1, hx1, h⟩ := of_cl h
  try dsimp only at h
  refine ACall.mk _ _ rfl (hF _ _ _ (c_I_IsNetwork hg ht hx1)) (.inl rfl) (Nat.le_of_ble_eq_true rfl) ?_
  cbv
  cases hb1 : x1 with
  | true =>
    rw [br_true hb1] at h
    cbv
    try (rw [hb1]; cbv)
    try (rw [hb1]; cbv)
    try (rw [hb1]; cbv)
    obtain ⟨x2, hx2, h⟩ := of_cl h
    try dsimp only at h
    refine ACall.mk _ _ rfl (hF _ _ _ (c_I_runs hg ht hx2)) (.inl rfl) (Nat.le_of_ble_eq_true rfl) ?_
    cbv
    try (rw [hb1]; cbv)
    obtain rfl := Option.some.inj h
    exact ARet.mk trivial hX.symm
  | false =>
    rw [br_false hb1] at h
    cbv
    try (rw [hb1]; cbv)
    try (rw [hb1]; cbv)
    try (rw [hb1]; cbv)
    try (rw [hb1]; cbv)
    obtain rfl := Option.some.inj h
    exact ARet.mk trivial hX.symm
end Go.Vs
namespace Go.Vs
set_option maxRecDepth 100000
def ir37 : J :=
  .seq (.reg none [⟨(some 2), none, .box (.t 0)⟩,
     ⟨(some 3), none, .box (.t 1)⟩,
     ⟨(some 4), none, .mv (.k (V.b false))⟩] [2, 3])
  (.seq (.reg none [⟨(some 5), none, .ld true 3 (.t 2)⟩,
     ⟨(some 6), none, .fa 0 (.t 3)⟩,
     ⟨(some 7), none, .ld false 1 (.t 6)⟩,
     ⟨(some 8), none, .fa 1 (.t 3)⟩,
     ⟨(some 9), none, .ld false 1 (.t 8)⟩,
     ⟨(some 10), none, .call 48 true [(.t 5), (.t 7), (.t 9)]⟩,
     ⟨(some 4), none, .mv (.t 10)⟩] [4])
  (.ret))
def rv37 : List RV := [.t 4]
open Go.Proofs Go.IntWalk
set_option linter.unusedVariables false
set_option maxRecDepth 100000
set_option maxHeartbeats 4000000
def I_IsTrip (g : G) (t : TE) (a0 : Network) (a1 : Trip) : Option Bool :=
  cl (I_RunsOn g t a0 a1.Leg a1.Day) fun x1 =>
  some x1
theorem fit37 : codeFit Try.prog Try.f37.ntmps (Try.f37.body.getD .skip) ir37 = true := by kernel_rfl
theorem c_I_IsTrip {g : G} {t : TE} {a0 : Network} {a1 : Trip} {r : Bool} (hg : g = G.real) (ht : t = TE.real) (h : I_IsTrip g t a0 a1 = some r) : Fn Try.prog 37 [.g (Network.rs t a0), .g (Trip.rs t a1)] (.c (.r (.v (.bool r)))) := by
  obtain ⟨X, hX⟩ := hide (.c (.r (.v (.bool r))) : X)
  rw [← hX]
  refine fn_of (rvs := rv37) (j := ir37) Try.func37 rfl fit37 (Nat.le_of_ble_eq_true rfl) (by kernel_rfl) prog_mixed ?_
  intro g2 F hg2 hF
  obtain rfl : g2 = g := hg2.unique.trans hg.symm
  clear hg2
  obtain ⟨wrap, lt, le, eq, quo, rem, band, bor, bxor, shl, shr, nat, int, add, sub, mul, cat, seq, slt, sub3, byte, llen, nadd, nsub, dlen, dapp, dset, drep, rd, rda, up, rsub, dsub, all, sle, slen, hasI, putI, hasS, putS, imin, imax, fzc, bstr⟩ := g2
  obtain ⟨r_Leg, d_Leg, r_I64, d_I64, r_S, d_S⟩ := t
  obtain ⟨a0_Legs, a0_Off, a0_Change⟩ := a0
  obtain ⟨a1_Leg, a1_Day⟩ := a1
  unfold I_IsTrip at h
  try dsimp only at h
  cbv
  obtain ⟨x1, hx1, h⟩ := of_cl h
  try dsimp only at h
  refine ACall.mk _ _ rfl (hF _ _ _ (c_I_RunsOn hg ht hx1)) (.inl rfl) (Nat.le_of_ble_eq_true rfl) ?_
  cbv
  obtain rfl := Option.some.inj h
  exact ARet.mk trivial hX.symm
end Go.Vs
namespace Go.Vs
set_option maxRecDepth 100000
def ir38 : J :=
  .seq (.reg none [⟨(some 2), none, .box (.t 0)⟩,
     ⟨(some 3), none, .box (.t 1)⟩,
     ⟨(some 4), none, .mv (.k (V.i 0))⟩] [2, 3])
  (.seq (.reg (some [[], [0], [0, 1], [], [3], [], [5], [3, 4, 5, 6], [3, 4, 5, 6, 7], [3, 4, 5, 6, 7, 8], [0, 1, 2, 3, 4, 5, 6, 7, 8, 9], [0, 1, 2, 3, 4, 5, 6, 7, 8, 9, 10]]) [⟨(some 5), none, .fa 1 (.t 3)⟩,
     ⟨(some 6), none, .ld false 1 (.t 5)⟩,
     ⟨(some 7), none, .bin .mul .i (.t 6) (.k (V.i 1440))⟩,
     ⟨(some 8), none, .fa 0 (.t 2)⟩,
     ⟨(some 9), none, .ld false 1 (.t 8)⟩,
     ⟨(some 10), none, .fa 0 (.t 3)⟩,
     ⟨(some 11), none, .ld false 1 (.t 10)⟩,
     ⟨(some 12), none, .ia 6 (.t 9) (.t 11)⟩,
     ⟨(some 13), none, .fa 2 (.t 12)⟩,
     ⟨(some 14), none, .ld false 1 (.t 13)⟩,
     ⟨(some 15), none, .bin .add .i (.t 7) (.t 14)⟩,
     ⟨(some 4), none, .mv (.t 15)⟩] [4])
  (.ret))
def rv38 : List RV := [.t 4]
open Go.Proofs Go.IntWalk
set_option linter.unusedVariables false
set_option maxRecDepth 100000
set_option maxHeartbeats 4000000
def I_starts (g : G) (t : TE) (a0 : Network) (a1 : Trip) : Option Int :=
  gd (((0 : Int) ≤ a1.Leg)) <|
  gt a0.Legs (g.nat a1.Leg) fun x1 =>
  some (g.wrap .i64 (g.add (g.wrap .i64 (g.mul a1.Day 1440)) x1.Start))
theorem fit38 : codeFit Try.prog Try.f38.ntmps (Try.f38.body.getD .skip) ir38 = true := by kernel_rfl
theorem c_I_starts {g : G} {t : TE} {a0 : Network} {a1 : Trip} {r : Int} (hg : g = G.real) (ht : t = TE.real) (h : I_starts g t a0 a1 = some r) : Fn Try.prog 38 [.g (Network.rs t a0), .g (Trip.rs t a1)] (.c (.r (.v (.int .i64 r)))) := by
  obtain ⟨X, hX⟩ := hide (.c (.r (.v (.int .i64 r))) : X)
  rw [← hX]
  refine fn_of (rvs := rv38) (j := ir38) Try.func38 rfl fit38 (Nat.le_of_ble_eq_true rfl) (by kernel_rfl) prog_mixed ?_
  intro g2 F hg2 hF
  obtain rfl : g2 = g := hg2.unique.trans hg.symm
  clear hg2
  obtain ⟨wrap, lt, le, eq, quo, rem, band, bor, bxor, shl, shr, nat, int, add, sub, mul, cat, seq, slt, sub3, byte, llen, nadd, nsub, dlen, dapp, dset, drep, rd, rda, up, rsub, dsub, all, sle, slen, hasI, putI, hasS, putS, imin, imax, fzc, bstr⟩ := g2
  obtain ⟨r_Leg, d_Leg, r_I64, d_I64, r_S, d_S⟩ := t
  obtain ⟨a0_Legs, a0_Off, a0_Change⟩ := a0
  obtain ⟨a1_Leg, a1_Day⟩ := a1
  unfold I_starts at h
  try dsimp only at h
  cbv
  obtain ⟨hc1, h⟩ := of_gd h
  refine AStep.mk hc1 ?_
  cbv
  obtain ⟨x1, hx1, h⟩ := of_gt h
  obtain ⟨x1_From, x1_To, x1_Start, x1_Takes, x1_Days, x1_Room⟩ := x1
  try dsimp only at h
  refine AGet.mk _ (r_get_Leg hg ht hx1) ?_
  cbv
  obtain rfl := Option.some.inj h
  exact ARet.mk trivial hX.symm
end Go.Vs
namespace Go.Vs
set_option maxRecDepth 100000
def ir39 : J :=
  .seq (.reg none [⟨(some 2), none, .box (.t 0)⟩,
     ⟨(some 3), none, .box (.t 1)⟩,
     ⟨(some 4), none, .mv (.k (V.i 0))⟩] [2, 3])
  (.seq (.reg (some [[], [], [0, 1], [], [3], [], [5], [3, 4, 5, 6], [3, 4, 5, 6, 7], [3, 4, 5, 6, 7, 8], [0, 1, 2, 3, 4, 5, 6, 7, 8, 9], [0, 1, 2, 3, 4, 5, 6, 7, 8, 9, 10]]) [⟨(some 5), none, .ld true 3 (.t 2)⟩,
     ⟨(some 6), none, .ld true 2 (.t 3)⟩,
     ⟨(some 7), none, .call 38 true [(.t 5), (.t 6)]⟩,
     ⟨(some 8), none, .fa 0 (.t 2)⟩,
     ⟨(some 9), none, .ld false 1 (.t 8)⟩,
     ⟨(some 10), none, .fa 0 (.t 3)⟩,
     ⟨(some 11), none, .ld false 1 (.t 10)⟩,
     ⟨(some 12), none, .ia 6 (.t 9) (.t 11)⟩,
     ⟨(some 13), none, .fa 3 (.t 12)⟩,
     ⟨(some 14), none, .ld false 1 (.t 13)⟩,
     ⟨(some 15), none, .bin .add .i (.t 7) (.t 14)⟩,
     ⟨(some 4), none, .mv (.t 15)⟩] [4])
  (.ret))
def rv39 : List RV := [.t 4]
open Go.Proofs Go.IntWalk
set_option linter.unusedVariables false
set_option maxRecDepth 100000
set_option maxHeartbeats 4000000
def I_ends (g : G) (t : TE) (a0 : Network) (a1 : Trip) : Option Int :=
  cl (I_starts g t a0 a1) fun x1 =>
  gd (((0 : Int) ≤ a1.Leg)) <|
  gt a0.Legs (g.nat a1.Leg) fun x2 =>
  some (g.wrap .i64 (g.add x1 x2.Takes))
theorem fit39 : codeFit Try.prog Try.f39.ntmps (Try.f39.body.getD .skip) ir39 = true := by kernel_rfl
theorem c_I_ends {g : G} {t : TE} {a0 : Network} {a1 : Trip} {r : Int} (hg : g = G.real) (ht : t = TE.real) (h : I_ends g t a0 a1 = some r) : Fn Try.prog 39 [.g (Network.rs t a0), .g (Trip.rs t a1)] (.c (.r (.v (.int .i64 r)))) := by
  obtain ⟨X, hX⟩ := hide (.c (.r (.v (.int .i64 r))) : X)
  rw [← hX]
  refine fn_of (rvs := rv39) (j := ir39) Try.func39 rfl fit39 (Nat.le_of_ble_eq_true rfl) (by kernel_rfl) prog_mixed ?_
  intro g2 F hg2 hF
  obtain rfl : g2 = g := hg2.unique.trans hg.symm
  clear hg2
  obtain ⟨wrap, lt, le, eq, quo, rem, band, bor, bxor, shl, shr, nat, int, add, sub, mul, cat, seq, slt, sub3, byte, llen, nadd, nsub, dlen, dapp, dset, drep, rd, rda, up, rsub, dsub, all, sle, slen, hasI, putI, hasS, putS, imin, imax, fzc, bstr⟩ := g2
  obtain ⟨r_Leg, d_Leg, r_I64, d_I64, r_S, d_S⟩ := t
  obtain ⟨a0_Legs, a0_Off, a0_Change⟩ := a0
  obtain ⟨a1_Leg, a1_Day⟩ := a1
  unfold I_ends at h
  try dsimp only at h
  cbv
  obtain ⟨x1, hx1, h⟩ := of_cl h
  try dsimp only at h
  refine ACall.mk _ _ rfl (hF _ _ _ (c_I_starts hg ht hx1)) (.inl rfl) (Nat.le_of_ble_eq_true rfl) ?_
  cbv
  obtain ⟨hc1, h⟩ := of_gd h
  refine AStep.mk hc1 ?_
  cbv
  obtain ⟨x2, hx2, h⟩ := of_gt h
  obtain ⟨x2_From, x2_To, x2_Start, x2_Takes, x2_Days, x2_Room⟩ := x2
  try dsimp only at h
  refine AGet.mk _ (r_get_Leg hg ht hx2) ?_
  cbv
  obtain rfl := Option.some.inj h
  exact ARet.mk trivial hX.symm
end Go.Vs
namespace Go.Vs
set_option maxRecDepth 100000
def ir12 (s_k0 : ByteArray) : J :=
  .seq (.reg none [⟨(some 2), none, .box (.t 0)⟩,
     ⟨(some 3), none, .box (.t 1)⟩,
     ⟨(some 4), none, .mv (.k (V.b false))⟩] [2, 3])
  (.seq (.seq (.reg none [⟨(some 5), none, .ld true 3 (.t 2)⟩,
      ⟨(some 6), none, .call 33 true [(.t 5)]⟩,
      ⟨(some 7), none, .not (.t 6)⟩,
      ⟨(some 8), none, .mv (.t 7)⟩,
      ⟨(some 9), (some (8, false)), .fa 0 (.t 3)⟩,
      ⟨(some 10), (some (8, false)), .ld false 1 (.t 9)⟩,
      ⟨(some 11), (some (8, false)), .call 34 true [(.t 10), (.k (V.i 1)), (.k (V.i 9999))]⟩,
      ⟨(some 12), (some (8, false)), .not (.t 11)⟩,
      ⟨(some 13), none, .pick (.t 8) (.k (V.b true)) (.t 12)⟩,
      ⟨(some 14), none, .mv (.t 13)⟩,
      ⟨(some 15), (some (14, false)), .fa 1 (.t 3)⟩,
      ⟨(some 16), (some (14, false)), .ld false 1 (.t 15)⟩,
      ⟨(some 17), (some (14, false)), .call 34 true [(.t 16), (.k (V.i 0)), (.k (V.i 100000))]⟩,
      ⟨(some 18), (some (14, false)), .not (.t 17)⟩,
      ⟨(some 19), none, .pick (.t 14) (.k (V.b true)) (.t 18)⟩] [2, 3, 19])
   (.cond (.t 19)
    (.seq (.reg none [⟨(some 4), none, .mv (.k (V.b false))⟩] [4])
     (.ret))
    (.skip)))
  (.seq (.seq (.reg none [⟨(some 20), none, .fa 2 (.t 3)⟩,
      ⟨(some 21), none, .ld false 1 (.t 20)⟩] [2, 3, 21])
   (.block 0 (.seq (.seq (.reg none [⟨(some 23), none, .bin .eql .i (.t 21) (.k (V.i 1))⟩,
        ⟨(some 22), none, .mv (.t 23)⟩] [2, 3, 21, 22])
     (.cond (.t 22)
      (.skip)
      (.reg none [⟨(some 24), none, .bin .eql .i (.t 21) (.k (V.i 4))⟩,
         ⟨(some 22), none, .mv (.t 24)⟩] [2, 3, 21, 22])))
    (.cond (.t 22)
     (.seq (.reg (some [[], [0], [], [2], [0, 1, 2, 3], [0, 1, 2, 3, 4], [0, 1, 2, 3, 4, 5], [0, 1, 2, 3, 4, 5, 6], [0, 1, 2, 3, 4, 5, 6, 7], [0, 1, 2, 3, 4, 5, 6], [0, 1, 2, 3, 4, 5, 6, 7, 8, 9], [0, 1, 2, 3, 4, 5, 6, 7, 8, 9, 10], [0, 1, 2, 3, 4, 5, 6, 7, 8, 9, 10, 11]]) [⟨(some 25), none, .ld true 3 (.t 2)⟩,
         ⟨(some 26), none, .call 36 true [(.t 25)]⟩,
         ⟨(some 27), none, .fa 3 (.t 3)⟩,
         ⟨(some 28), none, .ld false 1 (.t 27)⟩,
         ⟨(some 29), none, .call 35 true [(.t 26), (.t 28)]⟩,
         ⟨(some 30), none, .bin .geq .i (.t 29) (.k (V.i 0))⟩,
         ⟨(some 31), none, .mv (.t 30)⟩,
         ⟨(some 32), (some (31, true)), .fa 4 (.t 3)⟩,
         ⟨(some 33), (some (31, true)), .ld true 2 (.t 32)⟩,
         ⟨(some 34), (some (31, true)), .bld [.r (.v (.int .i64 0)), .r (.v (.int .i64 0))] []⟩,
         ⟨(some 35), (some (31, true)), .eqs false [.i, .i] (.t 33) (.t 34)⟩,
         ⟨(some 36), none, .pick (.t 31) (.t 35) (.k (V.b false))⟩,
         ⟨(some 4), none, .mv (.t 36)⟩] [4])
      (.ret))
     (.seq (.reg none [⟨(some 38), none, .bin .eql .i (.t 21) (.k (V.i 3))⟩,
         ⟨(some 37), none, .mv (.t 38)⟩] [2, 3, 21, 37])
      (.cond (.t 37)
       (.seq (.reg (some [[], [0], [0, 1], [0, 1, 2], [0, 1, 2, 3], [0, 1, 2, 3], [0, 1, 2, 3, 5], [0, 1, 2, 3, 4, 5, 6], [0, 1, 2, 3, 4, 5, 6, 7], [0, 1, 2, 3, 4, 5, 6, 7, 8], [0, 1, 2, 3, 4, 5, 6, 7, 8, 9], [0, 1, 2, 3, 4, 5, 6, 7, 8, 9, 10], [0, 1, 2, 3, 4, 5, 6, 7, 8, 9], [0, 1, 2, 3, 4, 5, 6, 7, 8, 9], [0, 1, 2, 3, 4, 5, 6, 7, 8, 9, 13], [0, 1, 2, 3, 4, 5, 6, 7, 8, 9, 12, 13, 14], [0, 1, 2, 3, 4, 5, 6, 7, 8, 9, 10, 11, 12, 13, 14, 15], [0, 1, 2, 3, 4, 5, 6, 7, 8, 9, 10, 11, 12, 13, 14, 15, 16], [0, 1, 2, 3, 4, 5, 6, 7, 8, 9, 10, 11, 12, 13, 14, 15, 16, 17]]) [⟨(some 39), none, .fa 3 (.t 3)⟩,
           ⟨(some 40), none, .ld false 1 (.t 39)⟩,
           ⟨(some 41), none, .bin .eql .s (.t 40) (.k (.c (.r (.v (.string s_k0)))))⟩,
           ⟨(some 42), none, .mv (.t 41)⟩,
           ⟨(some 43), (some (42, true)), .ld true 3 (.t 2)⟩,
           ⟨(some 44), (some (42, true)), .fa 4 (.t 3)⟩,
           ⟨(some 45), (some (42, true)), .ld true 2 (.t 44)⟩,
           ⟨(some 46), (some (42, true)), .call 37 true [(.t 43), (.t 45)]⟩,
           ⟨(some 47), none, .pick (.t 42) (.t 46) (.k (V.b false))⟩,
           ⟨(some 48), none, .mv (.t 47)⟩,
           ⟨(some 49), (some (48, true)), .fa 1 (.t 3)⟩,
           ⟨(some 50), (some (48, true)), .ld false 1 (.t 49)⟩,
           ⟨(some 51), (some (48, true)), .ld true 3 (.t 2)⟩,
           ⟨(some 52), (some (48, true)), .fa 4 (.t 3)⟩,
           ⟨(some 53), (some (48, true)), .ld true 2 (.t 52)⟩,
           ⟨(some 54), (some (48, true)), .call 38 true [(.t 51), (.t 53)]⟩,
           ⟨(some 55), (some (48, true)), .bin .leq .i (.t 50) (.t 54)⟩,
           ⟨(some 56), none, .pick (.t 48) (.t 55) (.k (V.b false))⟩,
           ⟨(some 4), none, .mv (.t 56)⟩] [4])
        (.ret))
       (.seq (.reg none [⟨(some 58), none, .bin .eql .i (.t 21) (.k (V.i 2))⟩,
           ⟨(some 57), none, .mv (.t 58)⟩] [2, 3, 57])
        (.cond (.t 57)
         (.seq (.reg (some [[], [0], [0, 1], [0, 1, 2], [0, 1, 2, 3], [0, 1, 2, 3], [0, 1, 2, 3, 5], [0, 1, 2, 3, 4, 5, 6], [0, 1, 2, 3, 4, 5, 6, 7], [0, 1, 2, 3, 4, 5, 6, 7, 8], [0, 1, 2, 3, 4, 5, 6, 7, 8, 9], [0, 1, 2, 3, 4, 5, 6, 7, 8, 9, 10], [0, 1, 2, 3, 4, 5, 6, 7, 8, 9], [0, 1, 2, 3, 4, 5, 6, 7, 8, 9], [0, 1, 2, 3, 4, 5, 6, 7, 8, 9, 13], [0, 1, 2, 3, 4, 5, 6, 7, 8, 9, 12, 13, 14], [0, 1, 2, 3, 4, 5, 6, 7, 8, 9, 10, 11, 12, 13, 14, 15], [0, 1, 2, 3, 4, 5, 6, 7, 8, 9, 10, 11, 12, 13, 14, 15, 16], [0, 1, 2, 3, 4, 5, 6, 7, 8, 9, 10, 11, 12, 13, 14, 15, 16, 17]]) [⟨(some 59), none, .fa 3 (.t 3)⟩,
             ⟨(some 60), none, .ld false 1 (.t 59)⟩,
             ⟨(some 61), none, .bin .eql .s (.t 60) (.k (.c (.r (.v (.string s_k0)))))⟩,
             ⟨(some 62), none, .mv (.t 61)⟩,
             ⟨(some 63), (some (62, true)), .ld true 3 (.t 2)⟩,
             ⟨(some 64), (some (62, true)), .fa 4 (.t 3)⟩,
             ⟨(some 65), (some (62, true)), .ld true 2 (.t 64)⟩,
             ⟨(some 66), (some (62, true)), .call 37 true [(.t 63), (.t 65)]⟩,
             ⟨(some 67), none, .pick (.t 62) (.t 66) (.k (V.b false))⟩,
             ⟨(some 68), none, .mv (.t 67)⟩,
             ⟨(some 69), (some (68, true)), .fa 1 (.t 3)⟩,
             ⟨(some 70), (some (68, true)), .ld false 1 (.t 69)⟩,
             ⟨(some 71), (some (68, true)), .ld true 3 (.t 2)⟩,
             ⟨(some 72), (some (68, true)), .fa 4 (.t 3)⟩,
             ⟨(some 73), (some (68, true)), .ld true 2 (.t 72)⟩,
             ⟨(some 74), (some (68, true)), .call 39 true [(.t 71), (.t 73)]⟩,
             ⟨(some 75), (some (68, true)), .bin .geq .i (.t 70) (.t 74)⟩,
             ⟨(some 76), none, .pick (.t 68) (.t 75) (.k (V.b false))⟩,
             ⟨(some 4), none, .mv (.t 76)⟩] [4])
          (.ret))
         (.skip)))))))))
  (.seq (.reg none [⟨(some 4), none, .mv (.k (V.b false))⟩] [4])
  (.ret))))
def rv12 : List RV := [.t 4]
open Go.Proofs Go.IntWalk
set_option linter.unusedVariables false
set_option maxRecDepth 100000
set_option maxHeartbeats 4000000
def I_IsScan (g : G) (t : TE) (a0 : Network) (a1 : Scan) : Option Bool :=
  cl (I_IsNetwork g t a0) fun x1 =>
  br x1
  (
   lP (I_within g t a1.Thing 1 9999) fun x2 =>
   br x2
   (
    lP (I_within g t a1.At 0 100000) fun x3 =>
    br x3
    (
     br (g.eq a1.Kind 1)
     (
      cl (I_PlacesOf g t a0) fun x4 =>
      lP (I_placeAt g t x4 a1.Place) fun x5 =>
      br (g.le 0 x5)
      (
       some (g.all [(g.eq a1.Trip.Leg 0), (g.eq a1.Trip.Day 0)]))
      (
       some false))
     (
      br (g.eq a1.Kind 4)
      (
       cl (I_PlacesOf g t a0) fun x6 =>
       lP (I_placeAt g t x6 a1.Place) fun x7 =>
       br (g.le 0 x7)
       (
        some (g.all [(g.eq a1.Trip.Leg 0), (g.eq a1.Trip.Day 0)]))
       (
        some false))
      (
       br (g.eq a1.Kind 3)
       (
        br (g.seq a1.Place str_k0)
        (
         cl (I_IsTrip g t a0 (Trip.mk a1.Trip.Leg a1.Trip.Day)) fun x8 =>
         br x8
         (
          cl (I_starts g t a0 (Trip.mk a1.Trip.Leg a1.Trip.Day)) fun x9 =>
          some (g.le a1.At x9))
         (
          some false))
        (
         some false))
       (
        br (g.eq a1.Kind 2)
        (
         br (g.seq a1.Place str_k0)
         (
          cl (I_IsTrip g t a0 (Trip.mk a1.Trip.Leg a1.Trip.Day)) fun x10 =>
          br x10
          (
           cl (I_ends g t a0 (Trip.mk a1.Trip.Leg a1.Trip.Day)) fun x11 =>
           some (g.le x11 a1.At))
          (
           some false))
         (
          some false))
        (
         some false)))))
    (
     some false))
   (
    some false))
  (
   some false)
theorem fit12 : codeFit Try.prog Try.f12.ntmps (Try.f12.body.getD .skip) (ir12 str_k0) = true := by kernel_rfl
theorem c_I_IsScan {g : G} {t : TE} {a0 : Network} {a1 : Scan} {r : Bool} (hg : g = G.real) (ht : t = TE.real) (h : I_IsScan g t a0 a1 = some r) : Fn Try.prog 12 [.g (Network.rs t a0), .g (Scan.rs t a1)] (.c (.r (.v (.bool r)))) := by
  obtain ⟨X, hX⟩ := hide (.c (.r (.v (.bool r))) : X)
  rw [← hX]
  refine fn_of (rvs := rv12) (j := (ir12 str_k0)) Try.func12 rfl fit12 (Nat.le_of_ble_eq_true rfl) (by kernel_rfl) prog_mixed ?_
  intro g2 F hg2 hF
  obtain rfl : g2 = g := hg2.unique.trans hg.symm
  clear hg2
  obtain ⟨wrap, lt, le, eq, quo, rem, band, bor, bxor, shl, shr, nat, int, add, sub, mul, cat, seq, slt, sub3, byte, llen, nadd, nsub, dlen, dapp, dset, drep, rd, rda, up, rsub, dsub, all, sle, slen, hasI, putI, hasS, putS, imin, imax, fzc, bstr⟩ := g2
  obtain ⟨r_Leg, d_Leg, r_I64, d_I64, r_S, d_S⟩ := t
  obtain ⟨a0_Legs, a0_Off, a0_Change⟩ := a0
  obtain ⟨a1_Thing, a1_At, a1_Kind, a1_Place, ⟨a1_Trip_Leg, a1_Trip_Day⟩⟩ := a1
  unfold I_IsScan at h
  try dsimp only at h
  obtain ⟨s_k0, hs_k0⟩ : ∃ s, str_k0 = s := ⟨_, rfl⟩
  try rw [hs_k0] at h
  rw [hs_k0]
  cbv
  obtain ⟨x1, hx1, h⟩ := of_cl h
  try dsimp only at h
  refine ACall.mk _ _ rfl (hF _ _ _ (c_I_IsNetwork hg ht hx1)) (.inl rfl) (Nat.le_of_ble_eq_true rfl) ?_
  cbv
  cases hb1 : x1 with
  | true =>
    rw [br_true hb1] at h
    cbv
    try (rw [hb1]; cbv)
    try (rw [hb1]; cbv)
    obtain ⟨x2, hx2, h⟩ := of_lP h
    try dsimp only at h
    refine ACall.mk _ _ rfl (hF _ _ _ (c_I_within hg ht hx2)) (.inl rfl) (Nat.le_of_ble_eq_true rfl) ?_
    cbv
    try (rw [hb1]; cbv)
    try (rw [hb1]; cbv)
    cases hb2 : x2 with
    | true =>
      rw [br_true hb2] at h
      cbv
      try (rw [hb2]; cbv)
      try (rw [hb2]; cbv)
      obtain ⟨x3, hx3, h⟩ := of_lP h
      try dsimp only at h
      refine ACall.mk _ _ rfl (hF _ _ _ (c_I_within hg ht hx3)) (.inl rfl) (Nat.le_of_ble_eq_true rfl) ?_
      cbv
      try (rw [hb2]; cbv)
      try (rw [hb2]; cbv)
      cases hb3 : x3 with
      | true =>
        rw [br_true hb3] at h
        cbv
        cases hb4 : (eq a1_Kind 1) with
        | true =>
          rw [br_true hb4] at h
          cbv
          try (rw [hb4]; cbv)
          obtain ⟨x4, hx4, h⟩ := of_cl h
          try dsimp only at h
          refine ACall.mk _ _ rfl (hF _ _ _ (c_I_PlacesOf hg ht hx4)) (.inl rfl) (Nat.le_of_ble_eq_true rfl) ?_
          cbv
          refine AStep.mk (lend_S ht (dlen_S hg ht _)) ?_
          cbv
          obtain ⟨x5, hx5, h⟩ := of_lP h
          try dsimp only at h
          refine ACall.mk _ _ (by rw [show rd (d_S x4) 0 (dlen (d_S x4)) = r_S x4 from rdw_S hg ht (dlen_S hg ht _)]; try rfl) (hF _ _ _ (c_I_placeAt hg ht hx5)) (.inr rfl) (Nat.le_of_ble_eq_true rfl) ?_
          cbv
          cases hb5 : (le 0 x5) with
          | true =>
            rw [br_true hb5] at h
            cbv
            try (rw [hb5]; cbv)
            try (rw [hb5]; cbv)
            try (rw [hb5]; cbv)
            try (rw [hb5]; cbv)
            obtain rfl := Option.some.inj h
            exact ARet.mk trivial hX.symm
          | false =>
            rw [br_false hb5] at h
            cbv
            try (rw [hb5]; cbv)
            try (rw [hb5]; cbv)
            try (rw [hb5]; cbv)
            try (rw [hb5]; cbv)
            obtain rfl := Option.some.inj h
            exact ARet.mk trivial hX.symm
        | false =>
          rw [br_false hb4] at h
          cbv
          cases hb6 : (eq a1_Kind 4) with
          | true =>
            rw [br_true hb6] at h
            cbv
            obtain ⟨x6, hx6, h⟩ := of_cl h
            try dsimp only at h
            refine ACall.mk _ _ rfl (hF _ _ _ (c_I_PlacesOf hg ht hx6)) (.inl rfl) (Nat.le_of_ble_eq_true rfl) ?_
            cbv
            refine AStep.mk (lend_S ht (dlen_S hg ht _)) ?_
            cbv
            obtain ⟨x7, hx7, h⟩ := of_lP h
            try dsimp only at h
            refine ACall.mk _ _ (by rw [show rd (d_S x6) 0 (dlen (d_S x6)) = r_S x6 from rdw_S hg ht (dlen_S hg ht _)]; try rfl) (hF _ _ _ (c_I_placeAt hg ht hx7)) (.inr rfl) (Nat.le_of_ble_eq_true rfl) ?_
            cbv
            cases hb7 : (le 0 x7) with
            | true =>
              rw [br_true hb7] at h
              cbv
              try (rw [hb7]; cbv)
              try (rw [hb7]; cbv)
              try (rw [hb7]; cbv)
              try (rw [hb7]; cbv)
              obtain rfl := Option.some.inj h
              exact ARet.mk trivial hX.symm
            | false =>
              rw [br_false hb7] at h
              cbv
              try (rw [hb7]; cbv)
              try (rw [hb7]; cbv)
              try (rw [hb7]; cbv)
              try (rw [hb7]; cbv)
              obtain rfl := Option.some.inj h
              exact ARet.mk trivial hX.symm
          | false =>
            rw [br_false hb6] at h
            cbv
            cases hb8 : (eq a1_Kind 3) with
            | true =>
              rw [br_true hb8] at h
              cbv
              cases hb9 : (seq a1_Place s_k0) with
              | true =>
                rw [br_true hb9] at h
                cbv
                try (rw [hb9]; cbv)
                try (rw [hb9]; cbv)
                try (rw [hb9]; cbv)
                obtain ⟨x8, hx8, h⟩ := of_cl h
                try dsimp only at h
                refine ACall.mk _ _ rfl (hF _ _ _ (c_I_IsTrip hg ht hx8)) (.inl rfl) (Nat.le_of_ble_eq_true rfl) ?_
                cbv
                try (rw [hb9]; cbv)
                cases hb10 : x8 with
                | true =>
                  rw [br_true hb10] at h
                  cbv
                  try (rw [hb10]; cbv)
                  try (rw [hb10]; cbv)
                  try (rw [hb10]; cbv)
                  try (rw [hb10]; cbv)
                  try (rw [hb10]; cbv)
                  obtain ⟨x9, hx9, h⟩ := of_cl h
                  try dsimp only at h
                  refine ACall.mk _ _ rfl (hF _ _ _ (c_I_starts hg ht hx9)) (.inl rfl) (Nat.le_of_ble_eq_true rfl) ?_
                  cbv
                  try (rw [hb10]; cbv)
                  try (rw [hb10]; cbv)
                  obtain rfl := Option.some.inj h
                  exact ARet.mk trivial hX.symm
                | false =>
                  rw [br_false hb10] at h
                  cbv
                  try (rw [hb10]; cbv)
                  try (rw [hb10]; cbv)
                  try (rw [hb10]; cbv)
                  try (rw [hb10]; cbv)
                  try (rw [hb10]; cbv)
                  try (rw [hb10]; cbv)
                  try (rw [hb10]; cbv)
                  obtain rfl := Option.some.inj h
                  exact ARet.mk trivial hX.symm
              | false =>
                rw [br_false hb9] at h
                cbv
                try (rw [hb9]; cbv)
                try (rw [hb9]; cbv)
                try (rw [hb9]; cbv)
                try (rw [hb9]; cbv)
                obtain rfl := Option.some.inj h
                exact ARet.mk trivial hX.symm
            | false =>
              rw [br_false hb8] at h
              cbv
              cases hb11 : (eq a1_Kind 2) with
              | true =>
                rw [br_true hb11] at h
                cbv
                cases hb12 : (seq a1_Place s_k0) with
                | true =>
                  rw [br_true hb12] at h
                  cbv
                  try (rw [hb12]; cbv)
                  try (rw [hb12]; cbv)
                  try (rw [hb12]; cbv)
                  obtain ⟨x10, hx10, h⟩ := of_cl h
                  try dsimp only at h
                  refine ACall.mk _ _ rfl (hF _ _ _ (c_I_IsTrip hg ht hx10)) (.inl rfl) (Nat.le_of_ble_eq_true rfl) ?_
                  cbv
                  try (rw [hb12]; cbv)
                  cases hb13 : x10 with
                  | true =>
                    rw [br_true hb13] at h
                    cbv
                    try (rw [hb13]; cbv)
                    try (rw [hb13]; cbv)
                    try (rw [hb13]; cbv)
                    try (rw [hb13]; cbv)
                    try (rw [hb13]; cbv)
                    obtain ⟨x11, hx11, h⟩ := of_cl h
                    try dsimp only at h
                    refine ACall.mk _ _ rfl (hF _ _ _ (c_I_ends hg ht hx11)) (.inl rfl) (Nat.le_of_ble_eq_true rfl) ?_
                    cbv
                    try (rw [hb13]; cbv)
                    try (rw [hb13]; cbv)
                    obtain rfl := Option.some.inj h
                    exact ARet.mk trivial hX.symm
                  | false =>
                    rw [br_false hb13] at h
                    cbv
                    try (rw [hb13]; cbv)
                    try (rw [hb13]; cbv)
                    try (rw [hb13]; cbv)
                    try (rw [hb13]; cbv)
                    try (rw [hb13]; cbv)
                    try (rw [hb13]; cbv)
                    try (rw [hb13]; cbv)
                    obtain rfl := Option.some.inj h
                    exact ARet.mk trivial hX.symm
                | false =>
                  rw [br_false hb12] at h
                  cbv
                  try (rw [hb12]; cbv)
                  try (rw [hb12]; cbv)
                  try (rw [hb12]; cbv)
                  try (rw [hb12]; cbv)
                  obtain rfl := Option.some.inj h
                  exact ARet.mk trivial hX.symm
              | false =>
                rw [br_false hb11] at h
                cbv
                obtain rfl := Option.some.inj h
                exact ARet.mk trivial hX.symm
      | false =>
        rw [br_false hb3] at h
        cbv
        obtain rfl := Option.some.inj h
        exact ARet.mk trivial hX.symm
    | false =>
      rw [br_false hb2] at h
      cbv
      try (rw [hb2]; cbv)
      try (rw [hb2]; cbv)
      try (rw [hb2]; cbv)
      try (rw [hb2]; cbv)
      obtain rfl := Option.some.inj h
      exact ARet.mk trivial hX.symm
  | false =>
    rw [br_false hb1] at h
    cbv
    try (rw [hb1]; cbv)
    try (rw [hb1]; cbv)
    try (rw [hb1]; cbv)
    try (rw [hb1]; cbv)
    obtain rfl := Option.some.inj h
    exact ARet.mk trivial hX.symm
end Go.Vs
namespace Go.Vs
set_option maxRecDepth 100000
def ir49 : J :=
  .seq (.reg none [⟨(some 2), none, .box (.t 0)⟩,
     ⟨(some 3), none, .box (.t 1)⟩,
     ⟨(some 4), none, .mv (.k (V.b false))⟩] [2, 3])
  (.seq (.seq (.reg none [⟨(some 5), none, .fa 0 (.t 2)⟩,
      ⟨(some 6), none, .ld false 1 (.t 5)⟩,
      ⟨(some 7), none, .fa 0 (.t 3)⟩,
      ⟨(some 8), none, .ld false 1 (.t 7)⟩,
      ⟨(some 9), none, .bin .neq .s (.t 6) (.t 8)⟩] [2, 3, 9])
   (.cond (.t 9)
    (.seq (.reg none [⟨(some 4), none, .mv (.k (V.b false))⟩] [4])
     (.ret))
    (.skip)))
  (.seq (.seq (.reg none [⟨(some 10), none, .fa 1 (.t 2)⟩,
      ⟨(some 11), none, .ld false 1 (.t 10)⟩,
      ⟨(some 12), none, .fa 1 (.t 3)⟩,
      ⟨(some 13), none, .ld false 1 (.t 12)⟩,
      ⟨(some 14), none, .bin .neq .s (.t 11) (.t 13)⟩] [2, 3, 14])
   (.cond (.t 14)
    (.seq (.reg none [⟨(some 4), none, .mv (.k (V.b false))⟩] [4])
     (.ret))
    (.skip)))
  (.seq (.seq (.reg none [⟨(some 15), none, .fa 2 (.t 2)⟩,
      ⟨(some 16), none, .ld false 1 (.t 15)⟩,
      ⟨(some 17), none, .fa 2 (.t 3)⟩,
      ⟨(some 18), none, .ld false 1 (.t 17)⟩,
      ⟨(some 19), none, .bin .neq .i (.t 16) (.t 18)⟩] [2, 3, 19])
   (.cond (.t 19)
    (.seq (.reg none [⟨(some 4), none, .mv (.k (V.b false))⟩] [4])
     (.ret))
    (.skip)))
  (.seq (.seq (.reg none [⟨(some 20), none, .fa 3 (.t 2)⟩,
      ⟨(some 21), none, .ld false 1 (.t 20)⟩,
      ⟨(some 22), none, .fa 3 (.t 3)⟩,
      ⟨(some 23), none, .ld false 1 (.t 22)⟩,
      ⟨(some 24), none, .bin .neq .i (.t 21) (.t 23)⟩] [2, 3, 24])
   (.cond (.t 24)
    (.seq (.reg none [⟨(some 4), none, .mv (.k (V.b false))⟩] [4])
     (.ret))
    (.skip)))
  (.seq (.seq (.reg none [⟨(some 25), none, .fa 4 (.t 2)⟩,
      ⟨(some 26), none, .ld false 1 (.t 25)⟩,
      ⟨(some 27), none, .fa 4 (.t 3)⟩,
      ⟨(some 28), none, .ld false 1 (.t 27)⟩,
      ⟨(some 29), none, .bin .neq .i (.t 26) (.t 28)⟩] [2, 3, 29])
   (.cond (.t 29)
    (.seq (.reg none [⟨(some 4), none, .mv (.k (V.b false))⟩] [4])
     (.ret))
    (.skip)))
  (.seq (.seq (.reg none [⟨(some 30), none, .fa 5 (.t 2)⟩,
      ⟨(some 31), none, .ld false 1 (.t 30)⟩,
      ⟨(some 32), none, .fa 5 (.t 3)⟩,
      ⟨(some 33), none, .ld false 1 (.t 32)⟩,
      ⟨(some 34), none, .bin .neq .i (.t 31) (.t 33)⟩] [34])
   (.cond (.t 34)
    (.seq (.reg none [⟨(some 4), none, .mv (.k (V.b false))⟩] [4])
     (.ret))
    (.skip)))
  (.seq (.reg none [⟨(some 4), none, .mv (.k (V.b true))⟩] [4])
  (.ret))))))))
def rv49 : List RV := [.t 4]
open Go.Proofs Go.IntWalk
set_option linter.unusedVariables false
set_option maxRecDepth 100000
set_option maxHeartbeats 4000000
def L_eqLeg (g : G) (t : TE) (a0 : Leg) (a1 : Leg) : Bool :=
  br (g.seq a0.From a1.From)
  (
   br (g.seq a0.To a1.To)
   (
    br (g.eq a0.Start a1.Start)
    (
     br (g.eq a0.Takes a1.Takes)
     (
      br (g.eq a0.Days a1.Days)
      (
       br (g.eq a0.Room a1.Room)
       (
        true)
       (
        false))
      (
       false))
     (
      false))
    (
     false))
   (
    false))
  (
   false)
theorem fit49 : codeFit Try.prog Try.f49.ntmps (Try.f49.body.getD .skip) ir49 = true := by kernel_rfl
theorem c_L_eqLeg {g : G} {t : TE} {a0 : Leg} {a1 : Leg} {r : Bool} (hg : g = G.real) (ht : t = TE.real) (h : L_eqLeg g t a0 a1 = r) : Fn Try.prog 49 [.g (Leg.rs t a0), .g (Leg.rs t a1)] (.c (.r (.v (.bool r)))) := by
  obtain ⟨X, hX⟩ := hide (.c (.r (.v (.bool r))) : X)
  rw [← hX]
  refine fn_of (rvs := rv49) (j := ir49) Try.func49 rfl fit49 (Nat.le_of_ble_eq_true rfl) (by kernel_rfl) prog_mixed ?_
  intro g2 F hg2 hF
  obtain rfl : g2 = g := hg2.unique.trans hg.symm
  clear hg2
  obtain ⟨wrap, lt, le, eq, quo, rem, band, bor, bxor, shl, shr, nat, int, add, sub, mul, cat, seq, slt, sub3, byte, llen, nadd, nsub, dlen, dapp, dset, drep, rd, rda, up, rsub, dsub, all, sle, slen, hasI, putI, hasS, putS, imin, imax, fzc, bstr⟩ := g2
  obtain ⟨r_Leg, d_Leg, r_I64, d_I64, r_S, d_S⟩ := t
  obtain ⟨a0_From, a0_To, a0_Start, a0_Takes, a0_Days, a0_Room⟩ := a0
  obtain ⟨a1_From, a1_To, a1_Start, a1_Takes, a1_Days, a1_Room⟩ := a1
  unfold L_eqLeg at h
  try dsimp only at h
  cbv
  cases hb1 : (seq a0_From a1_From) with
  | true =>
    rw [br_true hb1] at h
    cbv
    cases hb2 : (seq a0_To a1_To) with
    | true =>
      rw [br_true hb2] at h
      cbv
      cases hb3 : (eq a0_Start a1_Start) with
      | true =>
        rw [br_true hb3] at h
        cbv
        cases hb4 : (eq a0_Takes a1_Takes) with
        | true =>
          rw [br_true hb4] at h
          cbv
          cases hb5 : (eq a0_Days a1_Days) with
          | true =>
            rw [br_true hb5] at h
            cbv
            cases hb6 : (eq a0_Room a1_Room) with
            | true =>
              rw [br_true hb6] at h
              cbv
              subst h
              exact ARet.mk trivial hX.symm
            | false =>
              rw [br_false hb6] at h
              cbv
              subst h
              exact ARet.mk trivial hX.symm
          | false =>
            rw [br_false hb5] at h
            cbv
            subst h
            exact ARet.mk trivial hX.symm
        | false =>
          rw [br_false hb4] at h
          cbv
          subst h
          exact ARet.mk trivial hX.symm
      | false =>
        rw [br_false hb3] at h
        cbv
        subst h
        exact ARet.mk trivial hX.symm
    | false =>
      rw [br_false hb2] at h
      cbv
      subst h
      exact ARet.mk trivial hX.symm
  | false =>
    rw [br_false hb1] at h
    cbv
    subst h
    exact ARet.mk trivial hX.symm
end Go.Vs
namespace Go.Vs
set_option maxRecDepth 100000
def ir40 : J :=
  .seq (.reg none [⟨(some 4), none, .mv (.k (V.b false))⟩] [0, 1])
  (.seq (.seq (.reg none [⟨(some 6), none, .mv (.t 0)⟩,
      ⟨(some 7), none, .len false (.t 6)⟩,
      ⟨(some 8), none, .mv (.t 1)⟩,
      ⟨(some 9), none, .len false (.t 8)⟩,
      ⟨(some 10), none, .bin .neq .i (.t 7) (.t 9)⟩] [0, 1, 10])
   (.cond (.t 10)
    (.seq (.reg none [⟨(some 4), none, .mv (.k (V.b false))⟩] [4])
     (.ret))
    (.skip)))
  (.seq (.seq (.reg none [⟨(some 5), none, .mv (.k (V.i 0))⟩] [0, 1, 5])
   (.bl 0 (.seq (.seq (.reg none [⟨(some 11), none, .mv (.t 5)⟩,
        ⟨(some 12), none, .mv (.t 0)⟩,
        ⟨(some 13), none, .len false (.t 12)⟩,
        ⟨(some 14), none, .bin .lss .i (.t 11) (.t 13)⟩] [0, 1, 5, 14])
     (.cond (.t 14)
      (.skip)
      (.exit 0)))
    (.seq (.block 1 (.seq (.reg (some [[], [], [0, 1], [0, 1, 2], [], [], [4, 5], [4, 5, 6], [0, 1, 2, 3, 4, 5, 6, 7], [0, 1, 2, 3, 4, 5, 6, 7, 8]]) [⟨(some 17), none, .mv (.t 0)⟩,
         ⟨(some 18), none, .mv (.t 5)⟩,
         ⟨(some 19), none, .ia 6 (.t 17) (.t 18)⟩,
         ⟨(some 20), none, .ld true 6 (.t 19)⟩,
         ⟨(some 21), none, .mv (.t 1)⟩,
         ⟨(some 22), none, .mv (.t 5)⟩,
         ⟨(some 23), none, .ia 6 (.t 21) (.t 22)⟩,
         ⟨(some 24), none, .ld true 6 (.t 23)⟩,
         ⟨(some 25), none, .call 49 true [(.t 20), (.t 24)]⟩,
         ⟨(some 26), none, .not (.t 25)⟩] [0, 1, 5, 26])
      (.cond (.t 26)
       (.seq (.reg none [⟨(some 4), none, .mv (.k (V.b false))⟩] [4])
        (.ret))
       (.skip))))
    (.reg none [⟨(some 15), none, .mv (.t 5)⟩,
      ⟨(some 16), none, .bin .add .i (.t 15) (.k (V.i 1))⟩,
      ⟨(some 5), none, .mv (.t 16)⟩] [0, 1, 5])))))
  (.seq (.reg none [⟨(some 4), none, .mv (.k (V.b true))⟩] [4])
  (.ret))))
def rv40 : List RV := [.t 4]
open Go.Proofs Go.IntWalk
set_option linter.unusedVariables false
set_option maxRecDepth 100000
set_option maxHeartbeats 4000000
def L_eqLegS_l1 (g : G) (t : TE) (a1 : List Leg) : List Leg → Int → Option (LR Bool Unit)
  | [], v1 =>
    some (LR.out ())
  | z1 :: ls1, v1 =>
    gt a1 (g.nat v1) fun x1 =>
    lP (L_eqLeg g t z1 x1) fun x2 =>
    br x2
    (
     L_eqLegS_l1 g t a1 ls1 (g.wrap .i64 (g.add v1 1)))
    (
     some (LR.ret false))
def L_eqLegS (g : G) (t : TE) (a0 : List Leg) (a1 : List Leg) : Option Bool :=
  br (g.eq (g.llen (t.r_Leg a0)) (g.llen (t.r_Leg a1)))
  (
   cl (L_eqLegS_l1 g t a1 a0 0) fun o1 => lr o1 fun y1 =>
   some true)
  (
   some false)
theorem fit40 : codeFit Try.prog Try.f40.ntmps (Try.f40.body.getD .skip) ir40 = true := by kernel_rfl
theorem c_L_eqLegS {g : G} {t : TE} {a0 : List Leg} {a1 : List Leg} {r : Bool} (hg : g = G.real) (ht : t = TE.real) (h : L_eqLegS g t a0 a1 = some r) : Fn Try.prog 40 [.c (.s 6 (t.r_Leg a0)), .c (.s 6 (t.r_Leg a1))] (.c (.r (.v (.bool r)))) := by
  obtain ⟨X, hX⟩ := hide (.c (.r (.v (.bool r))) : X)
  rw [← hX]
  refine fn_of (rvs := rv40) (j := ir40) Try.func40 rfl fit40 (Nat.le_of_ble_eq_true rfl) (by kernel_rfl) prog_mixed ?_
  intro g2 F hg2 hF
  obtain rfl : g2 = g := hg2.unique.trans hg.symm
  clear hg2
  obtain ⟨wrap, lt, le, eq, quo, rem, band, bor, bxor, shl, shr, nat, int, add, sub, mul, cat, seq, slt, sub3, byte, llen, nadd, nsub, dlen, dapp, dset, drep, rd, rda, up, rsub, dsub, all, sle, slen, hasI, putI, hasS, putS, imin, imax, fzc, bstr⟩ := g2
  obtain ⟨r_Leg, d_Leg, r_I64, d_I64, r_S, d_S⟩ := t
  unfold L_eqLegS at h
  try dsimp only at h
  cbv
  cases hb1 : (eq (llen (r_Leg a0)) (llen (r_Leg a1))) with
  | true =>
    rw [br_true hb1] at h
    cbv
    obtain ⟨o1, ho1, h⟩ := of_cl h
    try dsimp only at h
    try rw [hg] at ho1
    try rw [ht] at ho1
    refine ABL.mk { p : Nat × Int // p.1 ≤ a0.length ∧ p.2 = ((p.1 : Nat) : Int) ∧ L_eqLegS_l1 G.real TE.real a1 (List.drop p.1 a0) p.2 = some o1 } (fun ⟨⟨k1, v1⟩, _⟩ => ({ sl := [(0, .c (.r (.s 6 (r_Leg a0)))), (1, .c (.r (.s 6 (r_Leg a1)))), (5, .c (.r (.v (.int .i64 v1))))], tab := [] } : St)) 0 (fun p => a0.length - p.1.1) ⟨(0, 0), Nat.zero_le _, rfl, ho1⟩ (Unit) (fun _ => ({ sl := [], tab := [] } : St)) 0 (fun y => o1 = LR.out y) ?_ ?_ ?_
    · refine Wk.of [] rfl rfl ?_ ?_
      · cbv
        all_goals exact ⟨⟨_, rfl, rfl⟩, ⟨_, rfl, rfl⟩, ⟨_, rfl, rfl⟩, trivial⟩
      · cbv
        all_goals exact trivial
    · rintro ⟨⟨k1, v1⟩, hk1, hi1, h_1⟩ hq1
      have hm1 := (hq1.1 0 _ _ rfl)
      try dsimp only at hk1 hi1 h_1
      clear hq1
      cbv
      by_cases hc1_ : k1 < a0.length
      · have hb2 : lt v1 (llen (r_Leg a0)) = true := ltL_true_Leg hg ht hi1 hc1_
        have hs1 := stepL_Leg hg ht hi1 hc1_ hm1
        obtain ⟨z1, hz1⟩ := some_of_lt hc1_
        rw [drop_of_some hz1] at h_1
        rw [L_eqLegS_l1] at h_1
        obtain ⟨z1_From, z1_To, z1_Start, z1_Takes, z1_Days, z1_Room⟩ := z1
        try rw [← hg] at h_1
        try rw [← ht] at h_1
        try dsimp only at h_1
        rw [hb2]
        cbv
        refine AStep.mk (nn_L hi1) ?_
        cbv
        refine AGet.mk _ (r_getL_Leg hg ht hi1 hz1) ?_
        cbv
        refine AStep.mk (nn_L hi1) ?_
        cbv
        obtain ⟨x1, hx1, h_1⟩ := of_gt h_1
        obtain ⟨x1_From, x1_To, x1_Start, x1_Takes, x1_Days, x1_Room⟩ := x1
        try dsimp only at h_1
        refine AGet.mk _ (r_get_Leg hg ht hx1) ?_
        cbv
        obtain ⟨x2, hx2, h_1⟩ := of_lP h_1
        try dsimp only at h_1
        refine ACall.mk _ _ rfl (hF _ _ _ (c_L_eqLeg hg ht hx2)) (.inl rfl) (Nat.le_of_ble_eq_true rfl) ?_
        cbv
        cases hb3 : x2 with
        | true =>
          rw [br_true hb3] at h_1
          cbv
          try rw [hg] at h_1
          try rw [ht] at h_1
          refine ⟨⟨(k1 + 1, (wrap .i64 (add v1 1))), hc1_, hs1, h_1⟩, Wk.of [] rfl rfl ?_ ?_, meas_L hc1_⟩
          · cbv
            all_goals exact ⟨⟨_, rfl, rfl⟩, ⟨_, rfl, rfl⟩, ⟨_, rfl, rfl⟩, trivial⟩
          · cbv
            all_goals exact trivial
        | false =>
          rw [br_false hb3] at h_1
          cbv
          obtain rfl := Option.some.inj h_1
          try dsimp only [lr, lrL, lrp, lrpL] at h
          obtain rfl := Option.some.inj h
          exact ARet.mk trivial hX.symm
      · have hb2 : lt v1 (llen (r_Leg a0)) = false := ltL_false_Leg hg ht hi1 hc1_
        rw [List.drop_of_length_le (Nat.le_of_not_lt hc1_)] at h_1
        rw [L_eqLegS_l1] at h_1
        try rw [← hg] at h_1
        try rw [← ht] at h_1
        try dsimp only at h_1
        rw [hb2]
        cbv
        refine ⟨(), Wk.of [] rfl rfl ?_ ?_, (Option.some.inj h_1).symm⟩
        · cbv
          all_goals exact trivial
        · cbv
          all_goals exact trivial
    · rintro _ hy1
      replace hy1 := hy1.symm
      subst hy1
      try dsimp only [lr, lrL, lrp, lrpL] at h
      cbv
      obtain rfl := Option.some.inj h
      exact ARet.mk trivial hX.symm
  | false =>
    rw [br_false hb1] at h
    cbv
    obtain rfl := Option.some.inj h
    exact ARet.mk trivial hX.symm
end Go.Vs
namespace Go.Vs
set_option maxRecDepth 100000
def ir41 : J :=
  .seq (.reg none [⟨(some 4), none, .mv (.k (V.b false))⟩] [0, 1])
  (.seq (.seq (.reg none [⟨(some 6), none, .mv (.t 0)⟩,
      ⟨(some 7), none, .len false (.t 6)⟩,
      ⟨(some 8), none, .mv (.t 1)⟩,
      ⟨(some 9), none, .len false (.t 8)⟩,
      ⟨(some 10), none, .bin .neq .i (.t 7) (.t 9)⟩] [0, 1, 10])
   (.cond (.t 10)
    (.seq (.reg none [⟨(some 4), none, .mv (.k (V.b false))⟩] [4])
     (.ret))
    (.skip)))
  (.seq (.seq (.reg none [⟨(some 5), none, .mv (.k (V.i 0))⟩] [0, 1, 5])
   (.bl 0 (.seq (.seq (.reg none [⟨(some 11), none, .mv (.t 5)⟩,
        ⟨(some 12), none, .mv (.t 0)⟩,
        ⟨(some 13), none, .len false (.t 12)⟩,
        ⟨(some 14), none, .bin .lss .i (.t 11) (.t 13)⟩] [0, 1, 5, 14])
     (.cond (.t 14)
      (.skip)
      (.exit 0)))
    (.seq (.block 1 (.seq (.reg (some [[], [], [0, 1], [0, 1, 2], [], [], [4, 5], [4, 5, 6], [0, 1, 2, 3, 4, 5, 6, 7]]) [⟨(some 17), none, .mv (.t 0)⟩,
         ⟨(some 18), none, .mv (.t 5)⟩,
         ⟨(some 19), none, .ia 1 (.t 17) (.t 18)⟩,
         ⟨(some 20), none, .ld false 1 (.t 19)⟩,
         ⟨(some 21), none, .mv (.t 1)⟩,
         ⟨(some 22), none, .mv (.t 5)⟩,
         ⟨(some 23), none, .ia 1 (.t 21) (.t 22)⟩,
         ⟨(some 24), none, .ld false 1 (.t 23)⟩,
         ⟨(some 25), none, .bin .neq .i (.t 20) (.t 24)⟩] [0, 1, 5, 25])
      (.cond (.t 25)
       (.seq (.reg none [⟨(some 4), none, .mv (.k (V.b false))⟩] [4])
        (.ret))
       (.skip))))
    (.reg none [⟨(some 15), none, .mv (.t 5)⟩,
      ⟨(some 16), none, .bin .add .i (.t 15) (.k (V.i 1))⟩,
      ⟨(some 5), none, .mv (.t 16)⟩] [0, 1, 5])))))
  (.seq (.reg none [⟨(some 4), none, .mv (.k (V.b true))⟩] [4])
  (.ret))))
def rv41 : List RV := [.t 4]
open Go.Proofs Go.IntWalk
set_option linter.unusedVariables false
set_option maxRecDepth 100000
set_option maxHeartbeats 4000000
def L_eqIntS_l1 (g : G) (t : TE) (a1 : List Int) : List Int → Int → Option (LR Bool Unit)
  | [], v1 =>
    some (LR.out ())
  | z1 :: ls1, v1 =>
    gt a1 (g.nat v1) fun x1 =>
    br (g.eq z1 x1)
    (
     L_eqIntS_l1 g t a1 ls1 (g.wrap .i64 (g.add v1 1)))
    (
     some (LR.ret false))
def L_eqIntS (g : G) (t : TE) (a0 : List Int) (a1 : List Int) : Option Bool :=
  br (g.eq (g.llen (t.r_I64 a0)) (g.llen (t.r_I64 a1)))
  (
   cl (L_eqIntS_l1 g t a1 a0 0) fun o1 => lr o1 fun y1 =>
   some true)
  (
   some false)
theorem fit41 : codeFit Try.prog Try.f41.ntmps (Try.f41.body.getD .skip) ir41 = true := by kernel_rfl
theorem c_L_eqIntS {g : G} {t : TE} {a0 : List Int} {a1 : List Int} {r : Bool} (hg : g = G.real) (ht : t = TE.real) (h : L_eqIntS g t a0 a1 = some r) : Fn Try.prog 41 [.c (.s 1 (t.r_I64 a0)), .c (.s 1 (t.r_I64 a1))] (.c (.r (.v (.bool r)))) := by
  obtain ⟨X, hX⟩ := hide (.c (.r (.v (.bool r))) : X)
  rw [← hX]
  refine fn_of (rvs := rv41) (j := ir41) Try.func41 rfl fit41 (Nat.le_of_ble_eq_true rfl) (by kernel_rfl) prog_mixed ?_
  intro g2 F hg2 hF
  obtain rfl : g2 = g := hg2.unique.trans hg.symm
  clear hg2
  obtain ⟨wrap, lt, le, eq, quo, rem, band, bor, bxor, shl, shr, nat, int, add, sub, mul, cat, seq, slt, sub3, byte, llen, nadd, nsub, dlen, dapp, dset, drep, rd, rda, up, rsub, dsub, all, sle, slen, hasI, putI, hasS, putS, imin, imax, fzc, bstr⟩ := g2
  obtain ⟨r_Leg, d_Leg, r_I64, d_I64, r_S, d_S⟩ := t
  unfold L_eqIntS at h
  try dsimp only at h
  cbv
  cases hb1 : (eq (llen (r_I64 a0)) (llen (r_I64 a1))) with
  | true =>
    rw [br_true hb1] at h
    cbv
    obtain ⟨o1, ho1, h⟩ := of_cl h
    try dsimp only at h
    try rw [hg] at ho1
    try rw [ht] at ho1
    refine ABL.mk { p : Nat × Int // p.1 ≤ a0.length ∧ p.2 = ((p.1 : Nat) : Int) ∧ L_eqIntS_l1 G.real TE.real a1 (List.drop p.1 a0) p.2 = some o1 } (fun ⟨⟨k1, v1⟩, _⟩ => ({ sl := [(0, .c (.r (.s 1 (r_I64 a0)))), (1, .c (.r (.s 1 (r_I64 a1)))), (5, .c (.r (.v (.int .i64 v1))))], tab := [] } : St)) 0 (fun p => a0.length - p.1.1) ⟨(0, 0), Nat.zero_le _, rfl, ho1⟩ (Unit) (fun _ => ({ sl := [], tab := [] } : St)) 0 (fun y => o1 = LR.out y) ?_ ?_ ?_
    · refine Wk.of [] rfl rfl ?_ ?_
      · cbv
        all_goals exact ⟨⟨_, rfl, rfl⟩, ⟨_, rfl, rfl⟩, ⟨_, rfl, rfl⟩, trivial⟩
      · cbv
        all_goals exact trivial
    · rintro ⟨⟨k1, v1⟩, hk1, hi1, h_1⟩ hq1
      have hm1 := (hq1.1 0 _ _ rfl)
      try dsimp only at hk1 hi1 h_1
      clear hq1
      cbv
      by_cases hc1_ : k1 < a0.length
      · have hb2 : lt v1 (llen (r_I64 a0)) = true := ltL_true_I64 hg ht hi1 hc1_
        have hs1 := stepL_I64 hg ht hi1 hc1_ hm1
        obtain ⟨z1, hz1⟩ := some_of_lt hc1_
        rw [drop_of_some hz1] at h_1
        rw [L_eqIntS_l1] at h_1
        try rw [← hg] at h_1
        try rw [← ht] at h_1
        try dsimp only at h_1
        rw [hb2]
        cbv
        refine AStep.mk (nn_L hi1) ?_
        cbv
        refine AGet.mk _ (r_getL_I64 hg ht hi1 hz1) ?_
        cbv
        refine AStep.mk (nn_L hi1) ?_
        cbv
        obtain ⟨x1, hx1, h_1⟩ := of_gt h_1
        try dsimp only at h_1
        refine AGet.mk _ (r_get_I64 hg ht hx1) ?_
        cbv
        cases hb3 : (eq z1 x1) with
        | true =>
          rw [br_true hb3] at h_1
          cbv
          try rw [hg] at h_1
          try rw [ht] at h_1
          refine ⟨⟨(k1 + 1, (wrap .i64 (add v1 1))), hc1_, hs1, h_1⟩, Wk.of [] rfl rfl ?_ ?_, meas_L hc1_⟩
          · cbv
            all_goals exact ⟨⟨_, rfl, rfl⟩, ⟨_, rfl, rfl⟩, ⟨_, rfl, rfl⟩, trivial⟩
          · cbv
            all_goals exact trivial
        | false =>
          rw [br_false hb3] at h_1
          cbv
          obtain rfl := Option.some.inj h_1
          try dsimp only [lr, lrL, lrp, lrpL] at h
          obtain rfl := Option.some.inj h
          exact ARet.mk trivial hX.symm
      · have hb2 : lt v1 (llen (r_I64 a0)) = false := ltL_false_I64 hg ht hi1 hc1_
        rw [List.drop_of_length_le (Nat.le_of_not_lt hc1_)] at h_1
        rw [L_eqIntS_l1] at h_1
        try rw [← hg] at h_1
        try rw [← ht] at h_1
        try dsimp only at h_1
        rw [hb2]
        cbv
        refine ⟨(), Wk.of [] rfl rfl ?_ ?_, (Option.some.inj h_1).symm⟩
        · cbv
          all_goals exact trivial
        · cbv
          all_goals exact trivial
    · rintro _ hy1
      replace hy1 := hy1.symm
      subst hy1
      try dsimp only [lr, lrL, lrp, lrpL] at h
      cbv
      obtain rfl := Option.some.inj h
      exact ARet.mk trivial hX.symm
  | false =>
    rw [br_false hb1] at h
    cbv
    obtain rfl := Option.some.inj h
    exact ARet.mk trivial hX.symm
end Go.Vs
namespace Go.Vs
set_option maxRecDepth 100000
def ir13 : J :=
  .seq (.reg none [⟨(some 2), none, .box (.t 0)⟩,
     ⟨(some 3), none, .box (.t 1)⟩,
     ⟨(some 4), none, .mv (.k (V.b false))⟩] [2, 3])
  (.seq (.seq (.reg none [⟨(some 5), none, .fa 0 (.t 2)⟩,
      ⟨(some 6), none, .ld false 1 (.t 5)⟩,
      ⟨(some 7), none, .fa 0 (.t 3)⟩,
      ⟨(some 8), none, .ld false 1 (.t 7)⟩,
      ⟨(some 9), none, .call 40 true [(.t 6), (.t 8)]⟩,
      ⟨(some 10), none, .not (.t 9)⟩] [2, 3, 10])
   (.cond (.t 10)
    (.seq (.reg none [⟨(some 4), none, .mv (.k (V.b false))⟩] [4])
     (.ret))
    (.skip)))
  (.seq (.seq (.reg none [⟨(some 11), none, .fa 1 (.t 2)⟩,
      ⟨(some 12), none, .ld false 1 (.t 11)⟩,
      ⟨(some 13), none, .fa 1 (.t 3)⟩,
      ⟨(some 14), none, .ld false 1 (.t 13)⟩,
      ⟨(some 15), none, .call 41 true [(.t 12), (.t 14)]⟩,
      ⟨(some 16), none, .not (.t 15)⟩] [2, 3, 16])
   (.cond (.t 16)
    (.seq (.reg none [⟨(some 4), none, .mv (.k (V.b false))⟩] [4])
     (.ret))
    (.skip)))
  (.seq (.seq (.reg none [⟨(some 17), none, .fa 2 (.t 2)⟩,
      ⟨(some 18), none, .ld false 1 (.t 17)⟩,
      ⟨(some 19), none, .fa 2 (.t 3)⟩,
      ⟨(some 20), none, .ld false 1 (.t 19)⟩,
      ⟨(some 21), none, .bin .neq .i (.t 18) (.t 20)⟩] [21])
   (.cond (.t 21)
    (.seq (.reg none [⟨(some 4), none, .mv (.k (V.b false))⟩] [4])
     (.ret))
    (.skip)))
  (.seq (.reg none [⟨(some 4), none, .mv (.k (V.b true))⟩] [4])
  (.ret)))))
def rv13 : List RV := [.t 4]
open Go.Proofs Go.IntWalk
set_option linter.unusedVariables false
set_option maxRecDepth 100000
set_option maxHeartbeats 4000000
def L_eqNetwork (g : G) (t : TE) (a0 : Network) (a1 : Network) : Option Bool :=
  cl (L_eqLegS g t a0.Legs a1.Legs) fun x1 =>
  br x1
  (
   cl (L_eqIntS g t a0.Off a1.Off) fun x2 =>
   br x2
   (
    br (g.eq a0.Change a1.Change)
    (
     some true)
    (
     some false))
   (
    some false))
  (
   some false)
theorem fit13 : codeFit Try.prog Try.f13.ntmps (Try.f13.body.getD .skip) ir13 = true := by kernel_rfl
theorem c_L_eqNetwork {g : G} {t : TE} {a0 : Network} {a1 : Network} {r : Bool} (hg : g = G.real) (ht : t = TE.real) (h : L_eqNetwork g t a0 a1 = some r) : Fn Try.prog 13 [.g (Network.rs t a0), .g (Network.rs t a1)] (.c (.r (.v (.bool r)))) := by
  obtain ⟨X, hX⟩ := hide (.c (.r (.v (.bool r))) : X)
  rw [← hX]
  refine fn_of (rvs := rv13) (j := ir13) Try.func13 rfl fit13 (Nat.le_of_ble_eq_true rfl) (by kernel_rfl) prog_mixed ?_
  intro g2 F hg2 hF
  obtain rfl : g2 = g := hg2.unique.trans hg.symm
  clear hg2
  obtain ⟨wrap, lt, le, eq, quo, rem, band, bor, bxor, shl, shr, nat, int, add, sub, mul, cat, seq, slt, sub3, byte, llen, nadd, nsub, dlen, dapp, dset, drep, rd, rda, up, rsub, dsub, all, sle, slen, hasI, putI, hasS, putS, imin, imax, fzc, bstr⟩ := g2
  obtain ⟨r_Leg, d_Leg, r_I64, d_I64, r_S, d_S⟩ := t
  obtain ⟨a0_Legs, a0_Off, a0_Change⟩ := a0
  obtain ⟨a1_Legs, a1_Off, a1_Change⟩ := a1
  unfold L_eqNetwork at h
  try dsimp only at h
  cbv
  obtain ⟨x1, hx1, h⟩ := of_cl h
  try dsimp only at h
  refine ACall.mk _ _ rfl (hF _ _ _ (c_L_eqLegS hg ht hx1)) (.inl rfl) (Nat.le_of_ble_eq_true rfl) ?_
  cbv
  cases hb1 : x1 with
  | true =>
    rw [br_true hb1] at h
    cbv
    obtain ⟨x2, hx2, h⟩ := of_cl h
    try dsimp only at h
    refine ACall.mk _ _ rfl (hF _ _ _ (c_L_eqIntS hg ht hx2)) (.inl rfl) (Nat.le_of_ble_eq_true rfl) ?_
    cbv
    cases hb2 : x2 with
    | true =>
      rw [br_true hb2] at h
      cbv
      cases hb3 : (eq a0_Change a1_Change) with
      | true =>
        rw [br_true hb3] at h
        cbv
        obtain rfl := Option.some.inj h
        exact ARet.mk trivial hX.symm
      | false =>
        rw [br_false hb3] at h
        cbv
        obtain rfl := Option.some.inj h
        exact ARet.mk trivial hX.symm
    | false =>
      rw [br_false hb2] at h
      cbv
      obtain rfl := Option.some.inj h
      exact ARet.mk trivial hX.symm
  | false =>
    rw [br_false hb1] at h
    cbv
    obtain rfl := Option.some.inj h
    exact ARet.mk trivial hX.symm
end Go.Vs
namespace Go.Vs
set_option maxRecDepth 100000
def ir15 (s_k0 : ByteArray) : J :=
  .seq (.reg none [⟨(some 2), none, .box (.t 0)⟩,
     ⟨(some 3), none, .box (.t 1)⟩,
     ⟨(some 4), none, .mv (.k (.c (.r (.v (.string s_k0)))))⟩] [2, 3])
  (.seq (.seq (.reg none [⟨(some 5), none, .ld true 3 (.t 2)⟩,
      ⟨(some 6), none, .ld true 6 (.t 3)⟩,
      ⟨(some 7), none, .call 12 true [(.t 5), (.t 6)]⟩,
      ⟨(some 8), none, .not (.t 7)⟩] [2, 3, 8])
   (.cond (.t 8)
    (.seq (.reg none [⟨(some 4), none, .mv (.k (.c (.r (.v (.string s_k0)))))⟩] [4])
     (.ret))
    (.skip)))
  (.seq (.seq (.reg none [⟨(some 9), none, .fa 2 (.t 3)⟩,
      ⟨(some 10), none, .ld false 1 (.t 9)⟩] [2, 3, 10])
   (.block 0 (.seq (.reg none [⟨(some 12), none, .bin .eql .i (.t 10) (.k (V.i 3))⟩,
       ⟨(some 11), none, .mv (.t 12)⟩] [2, 3, 10, 11])
    (.cond (.t 11)
     (.seq (.reg none [⟨(some 13), none, .fa 0 (.t 2)⟩,
         ⟨(some 14), none, .ld false 1 (.t 13)⟩,
         ⟨(some 15), none, .fa 4 (.t 3)⟩,
         ⟨(some 16), none, .fa 0 (.t 15)⟩,
         ⟨(some 17), none, .ld false 1 (.t 16)⟩,
         ⟨(some 18), none, .ia 6 (.t 14) (.t 17)⟩,
         ⟨(some 19), none, .fa 0 (.t 18)⟩,
         ⟨(some 20), none, .ld false 1 (.t 19)⟩,
         ⟨(some 4), none, .mv (.t 20)⟩] [4])
      (.ret))
     (.seq (.reg none [⟨(some 22), none, .bin .eql .i (.t 10) (.k (V.i 2))⟩,
         ⟨(some 21), none, .mv (.t 22)⟩] [2, 3, 21])
      (.cond (.t 21)
       (.seq (.reg none [⟨(some 23), none, .fa 0 (.t 2)⟩,
           ⟨(some 24), none, .ld false 1 (.t 23)⟩,
           ⟨(some 25), none, .fa 4 (.t 3)⟩,
           ⟨(some 26), none, .fa 0 (.t 25)⟩,
           ⟨(some 27), none, .ld false 1 (.t 26)⟩,
           ⟨(some 28), none, .ia 6 (.t 24) (.t 27)⟩,
           ⟨(some 29), none, .fa 1 (.t 28)⟩,
           ⟨(some 30), none, .ld false 1 (.t 29)⟩,
           ⟨(some 4), none, .mv (.t 30)⟩] [4])
        (.ret))
       (.skip)))))))
  (.seq (.reg none [⟨(some 31), none, .fa 3 (.t 3)⟩,
     ⟨(some 32), none, .ld false 1 (.t 31)⟩,
     ⟨(some 4), none, .mv (.t 32)⟩] [4])
  (.ret))))
def rv15 : List RV := [.t 4]
open Go.Proofs Go.IntWalk
set_option linter.unusedVariables false
set_option maxRecDepth 100000
set_option maxHeartbeats 4000000
def I_PlaceOf (g : G) (t : TE) (a0 : Network) (a1 : Scan) : Option ByteArray :=
  cl (I_IsScan g t a0 (Scan.mk a1.Thing a1.At a1.Kind a1.Place (Trip.mk a1.Trip.Leg a1.Trip.Day))) fun x1 =>
  br x1
  (
   br (g.eq a1.Kind 3)
   (
    gd (((0 : Int) ≤ a1.Trip.Leg)) <|
    gt a0.Legs (g.nat a1.Trip.Leg) fun x2 =>
    some x2.From)
   (
    br (g.eq a1.Kind 2)
    (
     gd (((0 : Int) ≤ a1.Trip.Leg)) <|
     gt a0.Legs (g.nat a1.Trip.Leg) fun x3 =>
     some x3.To)
    (
     some a1.Place)))
  (
   some str_k0)
theorem fit15 : codeFit Try.prog Try.f15.ntmps (Try.f15.body.getD .skip) (ir15 str_k0) = true := by kernel_rfl
theorem c_I_PlaceOf {g : G} {t : TE} {a0 : Network} {a1 : Scan} {r : ByteArray} (hg : g = G.real) (ht : t = TE.real) (h : I_PlaceOf g t a0 a1 = some r) : Fn Try.prog 15 [.g (Network.rs t a0), .g (Scan.rs t a1)] (.c (.r (.v (.string r)))) := by
  obtain ⟨X, hX⟩ := hide (.c (.r (.v (.string r))) : X)
  rw [← hX]
  refine fn_of (rvs := rv15) (j := (ir15 str_k0)) Try.func15 rfl fit15 (Nat.le_of_ble_eq_true rfl) (by kernel_rfl) prog_mixed ?_
  intro g2 F hg2 hF
  obtain rfl : g2 = g := hg2.unique.trans hg.symm
  clear hg2
  obtain ⟨wrap, lt, le, eq, quo, rem, band, bor, bxor, shl, shr, nat, int, add, sub, mul, cat, seq, slt, sub3, byte, llen, nadd, nsub, dlen, dapp, dset, drep, rd, rda, up, rsub, dsub, all, sle, slen, hasI, putI, hasS, putS, imin, imax, fzc, bstr⟩ := g2
  obtain ⟨r_Leg, d_Leg, r_I64, d_I64, r_S, d_S⟩ := t
  obtain ⟨a0_Legs, a0_Off, a0_Change⟩ := a0
  obtain ⟨a1_Thing, a1_At, a1_Kind, a1_Place, ⟨a1_Trip_Leg, a1_Trip_Day⟩⟩ := a1
  unfold I_PlaceOf at h
  try dsimp only at h
  obtain ⟨s_k0, hs_k0⟩ : ∃ s, str_k0 = s := ⟨_, rfl⟩
  try rw [hs_k0] at h
  rw [hs_k0]
  cbv
  obtain ⟨x1, hx1, h⟩ := of_cl h
  try dsimp only at h
  refine ACall.mk _ _ rfl (hF _ _ _ (c_I_IsScan hg ht hx1)) (.inl rfl) (Nat.le_of_ble_eq_true rfl) ?_
  cbv
  cases hb1 : x1 with
  | true =>
    rw [br_true hb1] at h
    cbv
    cases hb2 : (eq a1_Kind 3) with
    | true =>
      rw [br_true hb2] at h
      cbv
      obtain ⟨hc1, h⟩ := of_gd h
      refine AStep.mk hc1 ?_
      cbv
      obtain ⟨x2, hx2, h⟩ := of_gt h
      obtain ⟨x2_From, x2_To, x2_Start, x2_Takes, x2_Days, x2_Room⟩ := x2
      try dsimp only at h
      refine AGet.mk _ (r_get_Leg hg ht hx2) ?_
      cbv
      obtain rfl := Option.some.inj h
      exact ARet.mk trivial hX.symm
    | false =>
      rw [br_false hb2] at h
      cbv
      cases hb3 : (eq a1_Kind 2) with
      | true =>
        rw [br_true hb3] at h
        cbv
        obtain ⟨hc2, h⟩ := of_gd h
        refine AStep.mk hc2 ?_
        cbv
        obtain ⟨x3, hx3, h⟩ := of_gt h
        obtain ⟨x3_From, x3_To, x3_Start, x3_Takes, x3_Days, x3_Room⟩ := x3
        try dsimp only at h
        refine AGet.mk _ (r_get_Leg hg ht hx3) ?_
        cbv
        obtain rfl := Option.some.inj h
        exact ARet.mk trivial hX.symm
      | false =>
        rw [br_false hb3] at h
        cbv
        obtain rfl := Option.some.inj h
        exact ARet.mk trivial hX.symm
  | false =>
    rw [br_false hb1] at h
    cbv
    obtain rfl := Option.some.inj h
    exact ARet.mk trivial hX.symm
end Go.Vs
namespace Go.Vs
set_option maxRecDepth 100000
def ir14 (s_k0 : ByteArray) : J :=
  .seq (.reg none [⟨(some 2), none, .box (.t 0)⟩,
     ⟨(some 3), none, .box (.t 1)⟩,
     ⟨(some 4), none, .mv (.k (.c (.r (.v (.string s_k0)))))⟩] [2, 3])
  (.seq (.block 0 (.seq (.reg none [⟨(some 6), none, .ld true 3 (.t 2)⟩,
       ⟨(some 7), none, .ld true 6 (.t 3)⟩,
       ⟨(some 8), none, .call 9 true [(.t 6), (.t 7)]⟩,
       ⟨(some 9), none, .not (.t 8)⟩,
       ⟨(some 5), none, .mv (.t 9)⟩] [2, 3, 5])
    (.cond (.t 5)
     (.seq (.reg none [⟨(some 4), none, .mv (.k (.c (.r (.v (.string s_k0)))))⟩] [4])
      (.ret))
     (.seq (.reg none [⟨(some 11), none, .fa 2 (.t 3)⟩,
         ⟨(some 12), none, .ld false 1 (.t 11)⟩,
         ⟨(some 13), none, .bin .eql .i (.t 12) (.k (V.i 3))⟩,
         ⟨(some 10), none, .mv (.t 13)⟩] [2, 3, 10])
      (.cond (.t 10)
       (.seq (.reg none [⟨(some 14), none, .fa 0 (.t 2)⟩,
           ⟨(some 15), none, .ld false 1 (.t 14)⟩,
           ⟨(some 16), none, .fa 4 (.t 3)⟩,
           ⟨(some 17), none, .fa 0 (.t 16)⟩,
           ⟨(some 18), none, .ld false 1 (.t 17)⟩,
           ⟨(some 19), none, .ia 6 (.t 15) (.t 18)⟩,
           ⟨(some 20), none, .fa 0 (.t 19)⟩,
           ⟨(some 21), none, .ld false 1 (.t 20)⟩,
           ⟨(some 4), none, .mv (.t 21)⟩] [4])
        (.ret))
       (.seq (.reg none [⟨(some 23), none, .fa 2 (.t 3)⟩,
           ⟨(some 24), none, .ld false 1 (.t 23)⟩,
           ⟨(some 25), none, .bin .eql .i (.t 24) (.k (V.i 2))⟩,
           ⟨(some 22), none, .mv (.t 25)⟩] [2, 3, 22])
        (.cond (.t 22)
         (.seq (.reg none [⟨(some 26), none, .fa 0 (.t 2)⟩,
             ⟨(some 27), none, .ld false 1 (.t 26)⟩,
             ⟨(some 28), none, .fa 4 (.t 3)⟩,
             ⟨(some 29), none, .fa 0 (.t 28)⟩,
             ⟨(some 30), none, .ld false 1 (.t 29)⟩,
             ⟨(some 31), none, .ia 6 (.t 27) (.t 30)⟩,
             ⟨(some 32), none, .fa 1 (.t 31)⟩,
             ⟨(some 33), none, .ld false 1 (.t 32)⟩,
             ⟨(some 4), none, .mv (.t 33)⟩] [4])
          (.ret))
         (.skip))))))))
  (.seq (.reg none [⟨(some 34), none, .fa 3 (.t 3)⟩,
     ⟨(some 35), none, .ld false 1 (.t 34)⟩,
     ⟨(some 4), none, .mv (.t 35)⟩] [4])
  (.ret)))
def rv14 : List RV := [.t 4]
open Go.Proofs Go.IntWalk
set_option linter.unusedVariables false
set_option maxRecDepth 100000
set_option maxHeartbeats 4000000
def S_PlaceOf (g : G) (t : TE) (a0 : Network) (a1 : Scan) : Option ByteArray :=
  cl (S_IsScan g t a0 (Scan.mk a1.Thing a1.At a1.Kind a1.Place (Trip.mk a1.Trip.Leg a1.Trip.Day))) fun x1 =>
  br x1
  (
   br (g.eq a1.Kind 3)
   (
    gd (((0 : Int) ≤ a1.Trip.Leg)) <|
    gt a0.Legs (g.nat a1.Trip.Leg) fun x2 =>
    some x2.From)
   (
    br (g.eq a1.Kind 2)
    (
     gd (((0 : Int) ≤ a1.Trip.Leg)) <|
     gt a0.Legs (g.nat a1.Trip.Leg) fun x3 =>
     some x3.To)
    (
     some a1.Place)))
  (
   some str_k0)
theorem fit14 : codeFit Try.prog Try.f14.ntmps (Try.f14.body.getD .skip) (ir14 str_k0) = true := by kernel_rfl
theorem c_S_PlaceOf {g : G} {t : TE} {a0 : Network} {a1 : Scan} {r : ByteArray} (hg : g = G.real) (ht : t = TE.real) (h : S_PlaceOf g t a0 a1 = some r) : Fn Try.prog 14 [.g (Network.rs t a0), .g (Scan.rs t a1)] (.c (.r (.v (.string r)))) := by
  obtain ⟨X, hX⟩ := hide (.c (.r (.v (.string r))) : X)
  rw [← hX]
  refine fn_of (rvs := rv14) (j := (ir14 str_k0)) Try.func14 rfl fit14 (Nat.le_of_ble_eq_true rfl) (by kernel_rfl) prog_mixed ?_
  intro g2 F hg2 hF
  obtain rfl : g2 = g := hg2.unique.trans hg.symm
  clear hg2
  obtain ⟨wrap, lt, le, eq, quo, rem, band, bor, bxor, shl, shr, nat, int, add, sub, mul, cat, seq, slt, sub3, byte, llen, nadd, nsub, dlen, dapp, dset, drep, rd, rda, up, rsub, dsub, all, sle, slen, hasI, putI, hasS, putS, imin, imax, fzc, bstr⟩ := g2
  obtain ⟨r_Leg, d_Leg, r_I64, d_I64, r_S, d_S⟩ := t
  obtain ⟨a0_Legs, a0_Off, a0_Change⟩ := a0
  obtain ⟨a1_Thing, a1_At, a1_Kind, a1_Place, ⟨a1_Trip_Leg, a1_Trip_Day⟩⟩ := a1
  unfold S_PlaceOf at h
  try dsimp only at h
  obtain ⟨s_k0, hs_k0⟩ : ∃ s, str_k0 = s := ⟨_, rfl⟩
  try rw [hs_k0] at h
  rw [hs_k0]
  cbv
  obtain ⟨x1, hx1, h⟩ := of_cl h
  try dsimp only at h
  refine ACall.mk _ _ rfl (hF _ _ _ (c_S_IsScan hg ht hx1)) (.inl rfl) (Nat.le_of_ble_eq_true rfl) ?_
  cbv
  cases hb1 : x1 with
  | true =>
    rw [br_true hb1] at h
    cbv
    cases hb2 : (eq a1_Kind 3) with
    | true =>
      rw [br_true hb2] at h
      cbv
      obtain ⟨hc1, h⟩ := of_gd h
      refine AStep.mk hc1 ?_
      cbv
      obtain ⟨x2, hx2, h⟩ := of_gt h
      obtain ⟨x2_From, x2_To, x2_Start, x2_Takes, x2_Days, x2_Room⟩ := x2
      try dsimp only at h
      refine AGet.mk _ (r_get_Leg hg ht hx2) ?_
      cbv
      obtain rfl := Option.some.inj h
      exact ARet.mk trivial hX.symm
    | false =>
      rw [br_false hb2] at h
      cbv
      cases hb3 : (eq a1_Kind 2) with
      | true =>
        rw [br_true hb3] at h
        cbv
        obtain ⟨hc2, h⟩ := of_gd h
        refine AStep.mk hc2 ?_
        cbv
        obtain ⟨x3, hx3, h⟩ := of_gt h
        obtain ⟨x3_From, x3_To, x3_Start, x3_Takes, x3_Days, x3_Room⟩ := x3
        try dsimp only at h
        refine AGet.mk _ (r_get_Leg hg ht hx3) ?_
        cbv
        obtain rfl := Option.some.inj h
        exact ARet.mk trivial hX.symm
      | false =>
        rw [br_false hb3] at h
        cbv
        obtain rfl := Option.some.inj h
        exact ARet.mk trivial hX.symm
  | false =>
    rw [br_false hb1] at h
    cbv
    obtain rfl := Option.some.inj h
    exact ARet.mk trivial hX.symm
end Go.Vs
namespace Go.Vs
set_option maxRecDepth 100000
def ir20 : J :=
  .seq (.reg none [⟨(some 2), none, .box (.t 0)⟩,
     ⟨(some 3), none, .box (.t 1)⟩,
     ⟨(some 4), none, .alloc [.r (.v (.string .empty)), .r (.v (.int .i64 0))]⟩] [2, 3, 4])
  (.seq (.seq (.reg none [⟨(some 5), none, .ld true 3 (.t 2)⟩,
      ⟨(some 6), none, .ld true 6 (.t 3)⟩,
      ⟨(some 7), none, .call 12 true [(.t 5), (.t 6)]⟩,
      ⟨(some 8), none, .not (.t 7)⟩] [2, 3, 4, 8])
   (.cond (.t 8)
    (.seq (.reg none [⟨(some 9), none, .bld [.r (.v (.string .empty)), .r (.v (.int .i64 0))] []⟩,
        ⟨none, none, .st 2 (.t 4) (.t 9)⟩] [4])
     (.ret))
    (.skip)))
  (.seq (.seq (.reg none [⟨(some 10), none, .fa 2 (.t 3)⟩,
      ⟨(some 11), none, .ld false 1 (.t 10)⟩,
      ⟨(some 12), none, .bin .eql .i (.t 11) (.k (V.i 3))⟩] [2, 3, 4, 12])
   (.cond (.t 12)
    (.seq (.reg (some [[], [0], [], [2], [2, 3], [0, 1, 2, 3, 4], [0, 1, 2, 3, 4, 5], [0, 1, 2, 3, 4, 5, 6], [], [], [9], [8, 9, 10], [0, 1, 2, 3, 4, 5, 6, 7, 8, 9, 10, 11], [0, 1, 2, 3, 4, 5, 6, 7, 8, 9, 10, 11, 12]]) [⟨(some 13), none, .fa 0 (.t 2)⟩,
        ⟨(some 14), none, .ld false 1 (.t 13)⟩,
        ⟨(some 15), none, .fa 4 (.t 3)⟩,
        ⟨(some 16), none, .fa 0 (.t 15)⟩,
        ⟨(some 17), none, .ld false 1 (.t 16)⟩,
        ⟨(some 18), none, .ia 6 (.t 14) (.t 17)⟩,
        ⟨(some 19), none, .fa 1 (.t 18)⟩,
        ⟨(some 20), none, .ld false 1 (.t 19)⟩,
        ⟨(some 21), none, .ld true 3 (.t 2)⟩,
        ⟨(some 22), none, .fa 4 (.t 3)⟩,
        ⟨(some 23), none, .ld true 2 (.t 22)⟩,
        ⟨(some 24), none, .call 39 true [(.t 21), (.t 23)]⟩,
        ⟨(some 25), none, .bld [.r (.v (.string .empty)), .r (.v (.int .i64 0))] [(0, 1, (.t 20)), (1, 1, (.t 24))]⟩,
        ⟨none, none, .st 2 (.t 4) (.t 25)⟩] [4])
     (.ret))
    (.skip)))
  (.seq (.reg (some [[], [], [0, 1], [], [3], [0, 1, 2, 3, 4], [0, 1, 2, 3, 4, 5]]) [⟨(some 26), none, .ld true 3 (.t 2)⟩,
     ⟨(some 27), none, .ld true 6 (.t 3)⟩,
     ⟨(some 28), none, .call 15 true [(.t 26), (.t 27)]⟩,
     ⟨(some 29), none, .fa 1 (.t 3)⟩,
     ⟨(some 30), none, .ld false 1 (.t 29)⟩,
     ⟨(some 31), none, .bld [.r (.v (.string .empty)), .r (.v (.int .i64 0))] [(0, 1, (.t 28)), (1, 1, (.t 30))]⟩,
     ⟨none, none, .st 2 (.t 4) (.t 31)⟩] [4])
  (.ret))))
def rv20 : List RV := [.c 4 true 2]
open Go.Proofs Go.IntWalk
set_option linter.unusedVariables false
set_option maxRecDepth 100000
set_option maxHeartbeats 4000000
def I_SpotBehind (g : G) (t : TE) (a0 : Network) (a1 : Scan) : Option Spot :=
  cl (I_IsScan g t a0 (Scan.mk a1.Thing a1.At a1.Kind a1.Place (Trip.mk a1.Trip.Leg a1.Trip.Day))) fun x1 =>
  br x1
  (
   br (g.eq a1.Kind 3)
   (
    gd (((0 : Int) ≤ a1.Trip.Leg)) <|
    gt a0.Legs (g.nat a1.Trip.Leg) fun x2 =>
    cl (I_ends g t a0 (Trip.mk a1.Trip.Leg a1.Trip.Day)) fun x3 =>
    some (Spot.mk x2.To x3))
   (
    cl (I_PlaceOf g t a0 (Scan.mk a1.Thing a1.At a1.Kind a1.Place (Trip.mk a1.Trip.Leg a1.Trip.Day))) fun x4 =>
    some (Spot.mk x4 a1.At)))
  (
   some (Spot.mk ByteArray.empty 0))
theorem fit20 : codeFit Try.prog Try.f20.ntmps (Try.f20.body.getD .skip) ir20 = true := by kernel_rfl
theorem c_I_SpotBehind {g : G} {t : TE} {a0 : Network} {a1 : Scan} {r : Spot} (hg : g = G.real) (ht : t = TE.real) (h : I_SpotBehind g t a0 a1 = some r) : Fn Try.prog 20 [.g (Network.rs t a0), .g (Scan.rs t a1)] (.g (Spot.ds t r)) := by
  obtain ⟨X, hX⟩ := hide (.g (Spot.ds t r) : X)
  rw [← hX]
  refine fn_of (rvs := rv20) (j := ir20) Try.func20 rfl fit20 (Nat.le_of_ble_eq_true rfl) (by kernel_rfl) prog_mixed ?_
  intro g2 F hg2 hF
  obtain rfl : g2 = g := hg2.unique.trans hg.symm
  clear hg2
  obtain ⟨wrap, lt, le, eq, quo, rem, band, bor, bxor, shl, shr, nat, int, add, sub, mul, cat, seq, slt, sub3, byte, llen, nadd, nsub, dlen, dapp, dset, drep, rd, rda, up, rsub, dsub, all, sle, slen, hasI, putI, hasS, putS, imin, imax, fzc, bstr⟩ := g2
  obtain ⟨r_Leg, d_Leg, r_I64, d_I64, r_S, d_S⟩ := t
  obtain ⟨a0_Legs, a0_Off, a0_Change⟩ := a0
  obtain ⟨a1_Thing, a1_At, a1_Kind, a1_Place, ⟨a1_Trip_Leg, a1_Trip_Day⟩⟩ := a1
  unfold I_SpotBehind at h
  try dsimp only at h
  cbv
  obtain ⟨x1, hx1, h⟩ := of_cl h
  try dsimp only at h
  refine ACall.mk _ _ rfl (hF _ _ _ (c_I_IsScan hg ht hx1)) (.inl rfl) (Nat.le_of_ble_eq_true rfl) ?_
  cbv
  cases hb1 : x1 with
  | true =>
    rw [br_true hb1] at h
    cbv
    cases hb2 : (eq a1_Kind 3) with
    | true =>
      rw [br_true hb2] at h
      cbv
      obtain ⟨hc1, h⟩ := of_gd h
      refine AStep.mk hc1 ?_
      cbv
      obtain ⟨x2, hx2, h⟩ := of_gt h
      obtain ⟨x2_From, x2_To, x2_Start, x2_Takes, x2_Days, x2_Room⟩ := x2
      try dsimp only at h
      refine AGet.mk _ (r_get_Leg hg ht hx2) ?_
      cbv
      obtain ⟨x3, hx3, h⟩ := of_cl h
      try dsimp only at h
      refine ACall.mk _ _ rfl (hF _ _ _ (c_I_ends hg ht hx3)) (.inl rfl) (Nat.le_of_ble_eq_true rfl) ?_
      cbv
      obtain rfl := Option.some.inj h
      exact ARet.mk trivial hX.symm
    | false =>
      rw [br_false hb2] at h
      cbv
      obtain ⟨x4, hx4, h⟩ := of_cl h
      try dsimp only at h
      refine ACall.mk _ _ rfl (hF _ _ _ (c_I_PlaceOf hg ht hx4)) (.inl rfl) (Nat.le_of_ble_eq_true rfl) ?_
      cbv
      obtain rfl := Option.some.inj h
      exact ARet.mk trivial hX.symm
  | false =>
    rw [br_false hb1] at h
    cbv
    obtain rfl := Option.some.inj h
    exact ARet.mk trivial hX.symm
end Go.Vs
namespace Go.Vs
set_option maxRecDepth 100000
def ir19 : J :=
  .seq (.reg none [⟨(some 2), none, .box (.t 0)⟩,
     ⟨(some 3), none, .box (.t 1)⟩,
     ⟨(some 4), none, .alloc [.r (.v (.string .empty)), .r (.v (.int .i64 0))]⟩] [2, 3, 4])
  (.seq (.block 0 (.seq (.reg none [⟨(some 6), none, .ld true 3 (.t 2)⟩,
       ⟨(some 7), none, .ld true 6 (.t 3)⟩,
       ⟨(some 8), none, .call 9 true [(.t 6), (.t 7)]⟩,
       ⟨(some 9), none, .not (.t 8)⟩,
       ⟨(some 5), none, .mv (.t 9)⟩] [2, 3, 4, 5])
    (.cond (.t 5)
     (.seq (.reg none [⟨(some 10), none, .bld [.r (.v (.string .empty)), .r (.v (.int .i64 0))] []⟩,
         ⟨none, none, .st 2 (.t 4) (.t 10)⟩] [4])
      (.ret))
     (.seq (.reg none [⟨(some 12), none, .fa 2 (.t 3)⟩,
         ⟨(some 13), none, .ld false 1 (.t 12)⟩,
         ⟨(some 14), none, .bin .eql .i (.t 13) (.k (V.i 3))⟩,
         ⟨(some 11), none, .mv (.t 14)⟩] [2, 3, 4, 11])
      (.cond (.t 11)
       (.seq (.reg (some [[], [0], [], [2], [2, 3], [0, 1, 2, 3, 4], [0, 1, 2, 3, 4, 5], [0, 1, 2, 3, 4, 5, 6], [], [], [9], [8, 9, 10], [0, 1, 2, 3, 4, 5, 6, 7, 8, 9, 10, 11], [0, 1, 2, 3, 4, 5, 6, 7, 8, 9, 10, 11, 12]]) [⟨(some 15), none, .fa 0 (.t 2)⟩,
           ⟨(some 16), none, .ld false 1 (.t 15)⟩,
           ⟨(some 17), none, .fa 4 (.t 3)⟩,
           ⟨(some 18), none, .fa 0 (.t 17)⟩,
           ⟨(some 19), none, .ld false 1 (.t 18)⟩,
           ⟨(some 20), none, .ia 6 (.t 16) (.t 19)⟩,
           ⟨(some 21), none, .fa 1 (.t 20)⟩,
           ⟨(some 22), none, .ld false 1 (.t 21)⟩,
           ⟨(some 23), none, .ld true 3 (.t 2)⟩,
           ⟨(some 24), none, .fa 4 (.t 3)⟩,
           ⟨(some 25), none, .ld true 2 (.t 24)⟩,
           ⟨(some 26), none, .call 29 true [(.t 23), (.t 25)]⟩,
           ⟨(some 27), none, .bld [.r (.v (.string .empty)), .r (.v (.int .i64 0))] [(0, 1, (.t 22)), (1, 1, (.t 26))]⟩,
           ⟨none, none, .st 2 (.t 4) (.t 27)⟩] [4])
        (.ret))
       (.skip))))))
  (.seq (.reg (some [[], [], [0, 1], [], [3], [0, 1, 2, 3, 4], [0, 1, 2, 3, 4, 5]]) [⟨(some 28), none, .ld true 3 (.t 2)⟩,
     ⟨(some 29), none, .ld true 6 (.t 3)⟩,
     ⟨(some 30), none, .call 14 true [(.t 28), (.t 29)]⟩,
     ⟨(some 31), none, .fa 1 (.t 3)⟩,
     ⟨(some 32), none, .ld false 1 (.t 31)⟩,
     ⟨(some 33), none, .bld [.r (.v (.string .empty)), .r (.v (.int .i64 0))] [(0, 1, (.t 30)), (1, 1, (.t 32))]⟩,
     ⟨none, none, .st 2 (.t 4) (.t 33)⟩] [4])
  (.ret)))
def rv19 : List RV := [.c 4 true 2]
open Go.Proofs Go.IntWalk
set_option linter.unusedVariables false
set_option maxRecDepth 100000
set_option maxHeartbeats 4000000
def S_SpotBehind (g : G) (t : TE) (a0 : Network) (a1 : Scan) : Option Spot :=
  cl (S_IsScan g t a0 (Scan.mk a1.Thing a1.At a1.Kind a1.Place (Trip.mk a1.Trip.Leg a1.Trip.Day))) fun x1 =>
  br x1
  (
   br (g.eq a1.Kind 3)
   (
    gd (((0 : Int) ≤ a1.Trip.Leg)) <|
    gt a0.Legs (g.nat a1.Trip.Leg) fun x2 =>
    cl (S_l3Ends g t a0 (Trip.mk a1.Trip.Leg a1.Trip.Day)) fun x3 =>
    some (Spot.mk x2.To x3))
   (
    cl (S_PlaceOf g t a0 (Scan.mk a1.Thing a1.At a1.Kind a1.Place (Trip.mk a1.Trip.Leg a1.Trip.Day))) fun x4 =>
    some (Spot.mk x4 a1.At)))
  (
   some (Spot.mk ByteArray.empty 0))
theorem fit19 : codeFit Try.prog Try.f19.ntmps (Try.f19.body.getD .skip) ir19 = true := by kernel_rfl
theorem c_S_SpotBehind {g : G} {t : TE} {a0 : Network} {a1 : Scan} {r : Spot} (hg : g = G.real) (ht : t = TE.real) (h : S_SpotBehind g t a0 a1 = some r) : Fn Try.prog 19 [.g (Network.rs t a0), .g (Scan.rs t a1)] (.g (Spot.ds t r)) := by
  obtain ⟨X, hX⟩ := hide (.g (Spot.ds t r) : X)
  rw [← hX]
  refine fn_of (rvs := rv19) (j := ir19) Try.func19 rfl fit19 (Nat.le_of_ble_eq_true rfl) (by kernel_rfl) prog_mixed ?_
  intro g2 F hg2 hF
  obtain rfl : g2 = g := hg2.unique.trans hg.symm
  clear hg2
  obtain ⟨wrap, lt, le, eq, quo, rem, band, bor, bxor, shl, shr, nat, int, add, sub, mul, cat, seq, slt, sub3, byte, llen, nadd, nsub, dlen, dapp, dset, drep, rd, rda, up, rsub, dsub, all, sle, slen, hasI, putI, hasS, putS, imin, imax, fzc, bstr⟩ := g2
  obtain ⟨r_Leg, d_Leg, r_I64, d_I64, r_S, d_S⟩ := t
  obtain ⟨a0_Legs, a0_Off, a0_Change⟩ := a0
  obtain ⟨a1_Thing, a1_At, a1_Kind, a1_Place, ⟨a1_Trip_Leg, a1_Trip_Day⟩⟩ := a1
  unfold S_SpotBehind at h
  try dsimp only at h
  cbv
  obtain ⟨x1, hx1, h⟩ := of_cl h
  try dsimp only at h
  refine ACall.mk _ _ rfl (hF _ _ _ (c_S_IsScan hg ht hx1)) (.inl rfl) (Nat.le_of_ble_eq_true rfl) ?_
  cbv
  cases hb1 : x1 with
  | true =>
    rw [br_true hb1] at h
    cbv
    cases hb2 : (eq a1_Kind 3) with
    | true =>
      rw [br_true hb2] at h
      cbv
      obtain ⟨hc1, h⟩ := of_gd h
      refine AStep.mk hc1 ?_
      cbv
      obtain ⟨x2, hx2, h⟩ := of_gt h
      obtain ⟨x2_From, x2_To, x2_Start, x2_Takes, x2_Days, x2_Room⟩ := x2
      try dsimp only at h
      refine AGet.mk _ (r_get_Leg hg ht hx2) ?_
      cbv
      obtain ⟨x3, hx3, h⟩ := of_cl h
      try dsimp only at h
      refine ACall.mk _ _ rfl (hF _ _ _ (c_S_l3Ends hg ht hx3)) (.inl rfl) (Nat.le_of_ble_eq_true rfl) ?_
      cbv
      obtain rfl := Option.some.inj h
      exact ARet.mk trivial hX.symm
    | false =>
      rw [br_false hb2] at h
      cbv
      obtain ⟨x4, hx4, h⟩ := of_cl h
      try dsimp only at h
      refine ACall.mk _ _ rfl (hF _ _ _ (c_S_PlaceOf hg ht hx4)) (.inl rfl) (Nat.le_of_ble_eq_true rfl) ?_
      cbv
      obtain rfl := Option.some.inj h
      exact ARet.mk trivial hX.symm
  | false =>
    rw [br_false hb1] at h
    cbv
    obtain rfl := Option.some.inj h
    exact ARet.mk trivial hX.symm
end Go.Vs
namespace Go.Vs
set_option maxRecDepth 100000
def ir17 : J :=
  .seq (.reg none [⟨(some 2), none, .box (.t 0)⟩,
     ⟨(some 3), none, .box (.t 1)⟩,
     ⟨(some 4), none, .alloc [.r (.v (.string .empty)), .r (.v (.int .i64 0))]⟩] [2, 3, 4])
  (.seq (.seq (.reg none [⟨(some 5), none, .ld true 3 (.t 2)⟩,
      ⟨(some 6), none, .ld true 6 (.t 3)⟩,
      ⟨(some 7), none, .call 12 true [(.t 5), (.t 6)]⟩,
      ⟨(some 8), none, .not (.t 7)⟩] [2, 3, 4, 8])
   (.cond (.t 8)
    (.seq (.reg none [⟨(some 9), none, .bld [.r (.v (.string .empty)), .r (.v (.int .i64 0))] []⟩,
        ⟨none, none, .st 2 (.t 4) (.t 9)⟩] [4])
     (.ret))
    (.skip)))
  (.seq (.seq (.reg none [⟨(some 10), none, .fa 2 (.t 3)⟩,
      ⟨(some 11), none, .ld false 1 (.t 10)⟩,
      ⟨(some 12), none, .bin .eql .i (.t 11) (.k (V.i 3))⟩,
      ⟨(some 13), none, .mv (.t 12)⟩,
      ⟨(some 14), (some (13, false)), .fa 2 (.t 3)⟩,
      ⟨(some 15), (some (13, false)), .ld false 1 (.t 14)⟩,
      ⟨(some 16), (some (13, false)), .bin .eql .i (.t 15) (.k (V.i 2))⟩,
      ⟨(some 17), none, .pick (.t 13) (.k (V.b true)) (.t 16)⟩] [2, 3, 4, 17])
   (.cond (.t 17)
    (.seq (.reg (some [[], [0], [], [2], [2, 3], [0, 1, 2, 3, 4], [0, 1, 2, 3, 4, 5], [0, 1, 2, 3, 4, 5, 6], [], [], [9], [8, 9, 10], [0, 1, 2, 3, 4, 5, 6, 7, 8, 9, 10, 11], [0, 1, 2, 3, 4, 5, 6, 7, 8, 9, 10, 11, 12]]) [⟨(some 18), none, .fa 0 (.t 2)⟩,
        ⟨(some 19), none, .ld false 1 (.t 18)⟩,
        ⟨(some 20), none, .fa 4 (.t 3)⟩,
        ⟨(some 21), none, .fa 0 (.t 20)⟩,
        ⟨(some 22), none, .ld false 1 (.t 21)⟩,
        ⟨(some 23), none, .ia 6 (.t 19) (.t 22)⟩,
        ⟨(some 24), none, .fa 0 (.t 23)⟩,
        ⟨(some 25), none, .ld false 1 (.t 24)⟩,
        ⟨(some 26), none, .ld true 3 (.t 2)⟩,
        ⟨(some 27), none, .fa 4 (.t 3)⟩,
        ⟨(some 28), none, .ld true 2 (.t 27)⟩,
        ⟨(some 29), none, .call 38 true [(.t 26), (.t 28)]⟩,
        ⟨(some 30), none, .bld [.r (.v (.string .empty)), .r (.v (.int .i64 0))] [(0, 1, (.t 25)), (1, 1, (.t 29))]⟩,
        ⟨none, none, .st 2 (.t 4) (.t 30)⟩] [4])
     (.ret))
    (.skip)))
  (.seq (.reg none [⟨(some 31), none, .fa 3 (.t 3)⟩,
     ⟨(some 32), none, .ld false 1 (.t 31)⟩,
     ⟨(some 33), none, .fa 1 (.t 3)⟩,
     ⟨(some 34), none, .ld false 1 (.t 33)⟩,
     ⟨(some 35), none, .bld [.r (.v (.string .empty)), .r (.v (.int .i64 0))] [(0, 1, (.t 32)), (1, 1, (.t 34))]⟩,
     ⟨none, none, .st 2 (.t 4) (.t 35)⟩] [4])
  (.ret))))
def rv17 : List RV := [.c 4 true 2]
open Go.Proofs Go.IntWalk
set_option linter.unusedVariables false
set_option maxRecDepth 100000
set_option maxHeartbeats 4000000
def I_SpotBefore (g : G) (t : TE) (a0 : Network) (a1 : Scan) : Option Spot :=
  cl (I_IsScan g t a0 (Scan.mk a1.Thing a1.At a1.Kind a1.Place (Trip.mk a1.Trip.Leg a1.Trip.Day))) fun x1 =>
  br x1
  (
   br (g.eq a1.Kind 3)
   (
    gd (((0 : Int) ≤ a1.Trip.Leg)) <|
    gt a0.Legs (g.nat a1.Trip.Leg) fun x2 =>
    cl (I_starts g t a0 (Trip.mk a1.Trip.Leg a1.Trip.Day)) fun x3 =>
    some (Spot.mk x2.From x3))
   (
    br (g.eq a1.Kind 2)
    (
     gd (((0 : Int) ≤ a1.Trip.Leg)) <|
     gt a0.Legs (g.nat a1.Trip.Leg) fun x4 =>
     cl (I_starts g t a0 (Trip.mk a1.Trip.Leg a1.Trip.Day)) fun x5 =>
     some (Spot.mk x4.From x5))
    (
     some (Spot.mk a1.Place a1.At))))
  (
   some (Spot.mk ByteArray.empty 0))
theorem fit17 : codeFit Try.prog Try.f17.ntmps (Try.f17.body.getD .skip) ir17 = true := by kernel_rfl
theorem c_I_SpotBefore {g : G} {t : TE} {a0 : Network} {a1 : Scan} {r : Spot} (hg : g = G.real) (ht : t = TE.real) (h : I_SpotBefore g t a0 a1 = some r) : Fn Try.prog 17 [.g (Network.rs t a0), .g (Scan.rs t a1)] (.g (Spot.ds t r)) := by
  obtain ⟨X, hX⟩ := hide (.g (Spot.ds t r) : X)
  rw [← hX]
  refine fn_of (rvs := rv17) (j := ir17) Try.func17 rfl fit17 (Nat.le_of_ble_eq_true rfl) (by kernel_rfl) prog_mixed ?_
  intro g2 F hg2 hF
  obtain rfl : g2 = g := hg2.unique.trans hg.symm
  clear hg2
  obtain ⟨wrap, lt, le, eq, quo, rem, band, bor, bxor, shl, shr, nat, int, add, sub, mul, cat, seq, slt, sub3, byte, llen, nadd, nsub, dlen, dapp, dset, drep, rd, rda, up, rsub, dsub, all, sle, slen, hasI, putI, hasS, putS, imin, imax, fzc, bstr⟩ := g2
  obtain ⟨r_Leg, d_Leg, r_I64, d_I64, r_S, d_S⟩ := t
  obtain ⟨a0_Legs, a0_Off, a0_Change⟩ := a0
  obtain ⟨a1_Thing, a1_At, a1_Kind, a1_Place, ⟨a1_Trip_Leg, a1_Trip_Day⟩⟩ := a1
  unfold I_SpotBefore at h
  try dsimp only at h
  cbv
  obtain ⟨x1, hx1, h⟩ := of_cl h
  try dsimp only at h
  refine ACall.mk _ _ rfl (hF _ _ _ (c_I_IsScan hg ht hx1)) (.inl rfl) (Nat.le_of_ble_eq_true rfl) ?_
  cbv
  cases hb1 : x1 with
  | true =>
    rw [br_true hb1] at h
    cbv
    cases hb2 : (eq a1_Kind 3) with
    | true =>
      rw [br_true hb2] at h
      cbv
      try (rw [hb2]; cbv)
      try (rw [hb2]; cbv)
      try (rw [hb2]; cbv)
      obtain ⟨hc1, h⟩ := of_gd h
      refine AStep.mk hc1 ?_
      cbv
      obtain ⟨x2, hx2, h⟩ := of_gt h
      obtain ⟨x2_From, x2_To, x2_Start, x2_Takes, x2_Days, x2_Room⟩ := x2
      try dsimp only at h
      refine AGet.mk _ (r_get_Leg hg ht hx2) ?_
      cbv
      obtain ⟨x3, hx3, h⟩ := of_cl h
      try dsimp only at h
      refine ACall.mk _ _ rfl (hF _ _ _ (c_I_starts hg ht hx3)) (.inl rfl) (Nat.le_of_ble_eq_true rfl) ?_
      cbv
      obtain rfl := Option.some.inj h
      exact ARet.mk trivial hX.symm
    | false =>
      rw [br_false hb2] at h
      cbv
      try (rw [hb2]; cbv)
      try (rw [hb2]; cbv)
      try (rw [hb2]; cbv)
      cases hb3 : (eq a1_Kind 2) with
      | true =>
        rw [br_true hb3] at h
        cbv
        obtain ⟨hc2, h⟩ := of_gd h
        refine AStep.mk hc2 ?_
        cbv
        obtain ⟨x4, hx4, h⟩ := of_gt h
        obtain ⟨x4_From, x4_To, x4_Start, x4_Takes, x4_Days, x4_Room⟩ := x4
        try dsimp only at h
        refine AGet.mk _ (r_get_Leg hg ht hx4) ?_
        cbv
        obtain ⟨x5, hx5, h⟩ := of_cl h
        try dsimp only at h
        refine ACall.mk _ _ rfl (hF _ _ _ (c_I_starts hg ht hx5)) (.inl rfl) (Nat.le_of_ble_eq_true rfl) ?_
        cbv
        obtain rfl := Option.some.inj h
        exact ARet.mk trivial hX.symm
      | false =>
        rw [br_false hb3] at h
        cbv
        obtain rfl := Option.some.inj h
        exact ARet.mk trivial hX.symm
  | false =>
    rw [br_false hb1] at h
    cbv
    obtain rfl := Option.some.inj h
    exact ARet.mk trivial hX.symm
end Go.Vs
