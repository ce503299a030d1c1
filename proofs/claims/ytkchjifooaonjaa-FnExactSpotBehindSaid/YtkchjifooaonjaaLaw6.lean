/- The law FnExactSpotBehind holds: whatever its arguments, the call returns true and leaves them as they were. No condition. -/
import Derived.Test.YtkchjifooaonjaaHb
import Derived.Test.YtkchjifooaonjaaLah
import Derived.Test.YtkchjifooaonjaaScan
import Derived.Test.YtkchjifooaonjaaIs
import Derived.Test.YtkchjifooaonjaaOrder
import Derived.Test.YtkchjifooaonjaaRows
set_option linter.unusedVariables false
set_option linter.unusedSimpArgs false
set_option linter.unusedSectionVars false
namespace Go.Vs
open Go.IntWalk
theorem spot_e (x : Spot) : L_eqSpot G.real TE.real (Spot.mk x.Place x.At) (Spot.mk x.Place x.At) = true := by
  unfold L_eqSpot
  simp [R_seqd, R_eq, R_all]
theorem law6 (n : Network) (a : Scan) (hn : n.wd) (ha : a.wd) : L_FnExactSpotBehind G.real TE.real n a = some true := by
  unfold L_FnExactSpotBehind
  rw [szNetwork_r n _ (by omega) (by omega) hn]
  simp only [lP_eq, R_lt, br_dec]
  by_cases h : szOut 1048576 n.tot < 0
  · rw [if_pos h]
  · have hs := szOut_pos h
    rw [if_neg h, hs.1, szScan_r a _ (by omega) (by omega) ha]
    by_cases h2 : szOut (1048576 - (n.tot : Int)) a.tot < 0
    · rw [if_pos h2]
    · have hs2 := szOut_pos h2
      have ht : n.tot ≤ 1048576 := by omega
      rw [if_neg h2, toNetwork_r n ht, toScan_r a (by omega), cl_some]
      rw [show (Scan.mk a.Thing a.At a.Kind a.Place (Trip.mk a.Trip.Leg a.Trip.Day)) = a from rfl, bh_s ht, cl_some, cl_some, bh_i ht, cl_some, cl_some, eqNetwork_r n ht]
      rw [show L_eqSpot G.real TE.real (bhB n a) (bhB n a) = true from spot_e (bhB n a)]; rfl
end Go.Vs
namespace Go.Proofs.Ytkchjifooaonjaa.fnExactSpotBehind
open Go.Vs Go.RowKit Go.WideShapes Go.ChangeShapes
set_option linter.unusedVariables false
set_option maxRecDepth 100000
theorem given (as0 : List A) (h : ArgsIs Try.prog 8 Try.f6.params.toList as0) : Go.Vs.Fn Try.prog 6 as0 (.c (.r (.v (.bool true)))) := by
  rw [Try.params6] at h
  obtain ⟨x0, xs0, rfl, ⟨ts0, t0, q0⟩, h⟩ := h
  rw [show tyOf Try.prog 8 25 = some [.sl [.str, .str, .int .i64, .int .i64, .int .i64, .int .i64], .sl [.int .i64], .int .i64] from by kernel_rfl] at t0
  cases t0
  rw [show aggT Try.prog 25 = true from by kernel_rfl] at q0
  obtain ⟨r0, rfl, q0⟩ := q0
  obtain ⟨a0, rfl, w0⟩ := is_Network r0 q0
  obtain ⟨x1, xs1, rfl, ⟨ts1, t1, q1⟩, h⟩ := h
  rw [show tyOf Try.prog 8 29 = some [.int .i64, .int .i64, .int .i64, .str, .int .i64, .int .i64] from by kernel_rfl] at t1
  cases t1
  rw [show aggT Try.prog 29 = true from by kernel_rfl] at q1
  obtain ⟨r1, rfl, q1⟩ := q1
  obtain ⟨a1, rfl, w1⟩ := is_Scan r1 q1
  have h := h
  subst h
  exact c_L_FnExactSpotBehind rfl rfl (law6 _ _ w0 w1)
theorem lifted (os : Os) (started : os.Started) (H : Type) (enc : TypeId × Value → H) :
    ReturnsInHanded {} Try.checked os 6 .any (Rows.fnExactSpotBehindSpec.pre6 enc Try.prog Try.f6 Rows.fnExactSpotBehindRow.domain false) (Rows.fnExactSpotBehindSpec.post enc Try.prog Try.f6 false true false false) := by
  refine returnsInHanded_of_change (C := Try.checked) (s := Rows.fnExactSpotBehindSpec) (by kernel_rfl) started (by kernel_rfl) Try.func6
    (ChangeSpec.witness6 (enc := enc) (C := Try.checked) false ⟨#[], #[.agg #[.slice none 0 0, .slice none 0 0, .int .i64 0], .agg #[.int .i64 0, .int .i64 0, .int .i64 0, .string ⟨#[]⟩, .int .i64 0, .int .i64 0]], []⟩ 8 (by kernel_rfl) (by kernel_rfl) (by kernel_rfl) (by kernel_rfl)) ?_
  intro W base args ds gs before hval hW _ _
  refine law_contract (n := 8) (tb := 4) rfl rfl Try.underlying4 (by kernel_rfl) (by kernel_rfl) (fun ds hl => ?_) given W base args ds gs before hval hW
  rw [Try.params6] at hl
  match ds, hl with
  | [d0, d1], _ => exact ⟨rfl, rfl, rfl⟩
theorem facts : joinedFacts Try.prog 6 Try.f6 Rows.fnExactSpotBehindSpec Rows.fnExactSpotBehindRow = true := by
  unfold joinedFacts
  exact (and_i (and_i (and_i (and_i (and_i (and_i (and_i (and_i (and_i (and_i (and_i (and_i (and_i (and_i (and_i (and_i (and_i (and_i (and_i (and_i (and_i (and_i (and_i (and_i (and_i (and_i (and_i (and_i (and_i (and_i (and_i (by kernel_rfl) io_laid) io_maps) (by kernel_rfl)) (by kernel_rfl)) (by kernel_rfl)) (by kernel_rfl)) (by kernel_rfl)) (by kernel_rfl)) (by kernel_rfl)) (by kernel_rfl)) (by kernel_rfl)) (by kernel_rfl)) (by kernel_rfl)) (by kernel_rfl)) (by kernel_rfl)) (by kernel_rfl)) (by kernel_rfl)) (by kernel_rfl)) (by kernel_rfl)) (by kernel_rfl)) (by kernel_rfl)) (by kernel_rfl)) (by kernel_rfl)) io_heard) io_enter) (by rw [io_final]; rfl)) (by rw [io_make]; rfl)) (by kernel_rfl)) (by kernel_rfl)) (by kernel_rfl)) (by kernel_rfl))
theorem holds : Rows.FnExactSpotBehindSaid :=
  OpenClaim.holds_of_wide 6 Try.f6 rfl rfl rfl rfl rfl rfl rfl ⟨rfl, rfl, rfl, rfl, rfl⟩ rfl rfl rfl rfl rfl (by kernel_rfl) Try.func6 facts
    (of_decide_eq_true (by kernel_rfl)) (by unfold Func.isWrapper; first | (rw [if_pos (by decide +kernel)]; kernel_rfl) | (rw [if_neg (by decide +kernel)]; exact ⟨rfl, rfl⟩))
    (fun os started H enc _ => lifted os started H enc)
end Go.Proofs.Ytkchjifooaonjaa.fnExactSpotBehind
