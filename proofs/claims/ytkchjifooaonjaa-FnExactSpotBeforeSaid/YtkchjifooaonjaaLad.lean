/- Part of the proofs of this seat's laws: Lad. No condition. -/
import Derived.Test.YtkchjifooaonjaaTy
import Derived.Test.YtkchjifooaonjaaTIRall
set_option linter.unusedVariables false
set_option linter.unusedSimpArgs false
set_option linter.unusedSectionVars false
namespace Go.Vs
set_option maxRecDepth 100000
def ir18 : J :=
  .seq (.reg none [⟨(some 2), none, .box (.t 0)⟩,
     ⟨(some 3), none, .box (.t 1)⟩,
     ⟨(some 4), none, .mv (.k (V.b false))⟩] [2, 3])
  (.seq (.seq (.reg none [⟨(some 5), none, .fa 0 (.t 2)⟩,
      ⟨(some 6), none, .ld false 1 (.t 5)⟩,
      ⟨(some 7), none, .fa 0 (.t 3)⟩,
      ⟨(some 8), none, .ld false 1 (.t 7)⟩,
      ⟨(some 9), none, .bin .neq .s (.t 6) (.t 8)⟩] [2, 3, 9])
   (.cond (.t 9)
    (.seq (.reg none [⟨(some 4), none, .mv (.k (V.b false))⟩] [4])
     (.ret))
    (.skip)))
  (.seq (.seq (.reg none [⟨(some 10), none, .fa 1 (.t 2)⟩,
      ⟨(some 11), none, .ld false 1 (.t 10)⟩,
      ⟨(some 12), none, .fa 1 (.t 3)⟩,
      ⟨(some 13), none, .ld false 1 (.t 12)⟩,
      ⟨(some 14), none, .bin .neq .i (.t 11) (.t 13)⟩] [14])
   (.cond (.t 14)
    (.seq (.reg none [⟨(some 4), none, .mv (.k (V.b false))⟩] [4])
     (.ret))
    (.skip)))
  (.seq (.reg none [⟨(some 4), none, .mv (.k (V.b true))⟩] [4])
  (.ret))))
def rv18 : List RV := [.t 4]
open Go.Proofs Go.IntWalk
set_option linter.unusedVariables false
set_option maxRecDepth 100000
set_option maxHeartbeats 4000000
def L_eqSpot (g : G) (t : TE) (a0 : Spot) (a1 : Spot) : Bool :=
  br (g.seq a0.Place a1.Place)
  (
   br (g.eq a0.At a1.At)
   (
    true)
   (
    false))
  (
   false)
theorem fit18 : codeFit Try.prog Try.f18.ntmps (Try.f18.body.getD .skip) ir18 = true := by kernel_rfl
theorem c_L_eqSpot {g : G} {t : TE} {a0 : Spot} {a1 : Spot} {r : Bool} (hg : g = G.real) (ht : t = TE.real) (h : L_eqSpot g t a0 a1 = r) : Fn Try.prog 18 [.g (Spot.rs t a0), .g (Spot.rs t a1)] (.c (.r (.v (.bool r)))) := by
  obtain ⟨X, hX⟩ := hide (.c (.r (.v (.bool r))) : X)
  rw [← hX]
  refine fn_of (rvs := rv18) (j := ir18) Try.func18 rfl fit18 (Nat.le_of_ble_eq_true rfl) (by kernel_rfl) prog_mixed ?_
  intro g2 F hg2 hF
  obtain rfl : g2 = g := hg2.unique.trans hg.symm
  clear hg2
  obtain ⟨wrap, lt, le, eq, quo, rem, band, bor, bxor, shl, shr, nat, int, add, sub, mul, cat, seq, slt, sub3, byte, llen, nadd, nsub, dlen, dapp, dset, drep, rd, rda, up, rsub, dsub, all, sle, slen, hasI, putI, hasS, putS, imin, imax, fzc, bstr⟩ := g2
  obtain ⟨r_Leg, d_Leg, r_I64, d_I64, r_S, d_S⟩ := t
  obtain ⟨a0_Place, a0_At⟩ := a0
  obtain ⟨a1_Place, a1_At⟩ := a1
  unfold L_eqSpot at h
  try dsimp only at h
  cbv
  cases hb1 : (seq a0_Place a1_Place) with
  | true =>
    rw [br_true hb1] at h
    cbv
    cases hb2 : (eq a0_At a1_At) with
    | true =>
      rw [br_true hb2] at h
      cbv
      subst h
      exact ARet.mk trivial hX.symm
    | false =>
      rw [br_false hb2] at h
      cbv
      subst h
      exact ARet.mk trivial hX.symm
  | false =>
    rw [br_false hb1] at h
    cbv
    subst h
    exact ARet.mk trivial hX.symm
end Go.Vs
