/- The law FnExactBestFree holds: whatever its arguments, the call returns true and leaves them as they were. No condition. -/
import Derived.Test.YtilplaaijbpilaaHb
import Derived.Test.YtilplaaijbpilaaMark
import Derived.Test.YtilplaaijbpilaaLae
import Derived.Test.YtilplaaijbpilaaWays
import Derived.Test.YtilplaaijbpilaaIs
import Derived.Test.YtilplaaijbpilaaOrder
import Derived.Test.YtilplaaijbpilaaRows
set_option linter.unusedVariables false
set_option linter.unusedSimpArgs false
set_option linter.unusedSectionVars false
namespace Go.Vs
open Go.IntWalk
theorem bfL_len {n : Network} (ht : n.tot ≤ 1048576) (l : List Booking) (c : List Trip) (s : ByteArray) (a w m : Int) : (bfL n l c s a w m).length ≤ 40 := by
  unfold bfL
  split
  · rename_i h
    have hn := net_ok ht (bk_net h.1)
    have pl := plc_len n
    have hlen := hn.len
    unfold arrB
    split
    · simp
    · rw [itr_len, lab0_len]; omega
  · simp
theorem law4 (n : Network) (l : List Booking) (c : List Trip) (s : ByteArray) (a w m : Int) (hn : n.wd) (hl : l.length ≤ 9223372036854775807) (hc : c.length ≤ 9223372036854775807) (_ : s.size ≤ 9223372036854775807) (_ : -9223372036854775808 ≤ a ∧ a ≤ 9223372036854775807) (_ : -9223372036854775808 ≤ w ∧ w ≤ 9223372036854775807) (hm : -9223372036854775808 ≤ m ∧ m ≤ 9223372036854775807) : L_FnExactBestFree G.real TE.real n l c s a w m = some true := by
  unfold L_FnExactBestFree
  rw [R_lt, br_dec]
  split
  · rfl
  · rw [szNetwork_r n _ (by omega) (by omega) hn]
    simp only [lP_eq, R_lt, br_dec]
    by_cases h : szOut 1048576 n.tot < 0
    · rw [if_pos h]
    · have hs := szOut_pos h
      rw [if_neg h, hs.1, szBookingS_r l _ (by omega) (by omega) hl]
      by_cases h2 : szOut (1048576 - (n.tot : Int)) l.length < 0
      · rw [if_pos h2]
      · have hs2 := szOut_pos h2
        rw [if_neg h2, hs2.1, szTripS_r c _ (by omega) (by omega) hc]
        by_cases h3 : szOut (1048576 - (n.tot : Int) - (l.length : Int)) c.length < 0
        · rw [if_pos h3]
        · have hs3 := szOut_pos h3
          have ht : n.tot ≤ 1048576 := by omega
          have hl2 : l.length ≤ 1048576 := by omega
          have hc2 : c.length ≤ 1048576 := by omega
          have hr := bfL_len ht l c s a w m
          have c1 := cntNetwork_le n
          have c2 := cntBooking_le l
          have c3 := cntTrip_le c
          have c4 := cntI64_le (bfL n l c s a w m)
          obtain ⟨x', e1, e2, e3⟩ := markNetwork n 1 (by omega) (by omega)
          obtain ⟨l', f1, f2⟩ := markBooking l (1 + (cntNetwork n : Nat)) (by omega) (by omega) (by omega)
          obtain ⟨c', g1, g2, g3⟩ := markTrip c (1 + (cntNetwork n : Nat) + (cntBooking l : Nat)) (by omega) (by omega) (by omega)
          obtain ⟨r', k1, k2, k3⟩ := markI64 (bfL n l c s a w m) 1 (by omega) (by omega) (by omega)
          rw [if_neg h3, toNetwork_r n ht, toBookingS_r l hl2, toTripS_r c hc2]
          simp only [cl_some, bfr_s ht l hl2 c s a w hm.2, bfr_i ht l hl2 c s a w hm.2, eqIntS_r (bfL n l c s a w m) (by omega), eqNetwork_r n ht, eqBookingS_r l hl2, eqTripS_r c hc2, br_t, e1, f1, g1, k1]
          rw [gd_true e2, gd_true e3, gd_true f2, gd_true g2, if_neg (by omega), gd_true k2, k3, if_neg (by omega)]
          rw [show G.real.eq (1 + (cntI64 (bfL n l c s a w m) : Nat)) (1 + (cntI64 (bfL n l c s a w m) : Nat)) = true from by rw [R_eq]; simp]
          rw [br_t, if_neg (by omega), br_t]
end Go.Vs
namespace Go.Proofs.Ytilplaaijbpilaa.fnExactBestFree
open Go.Vs Go.RowKit Go.WideShapes Go.ChangeShapes
set_option linter.unusedVariables false
set_option maxRecDepth 100000
theorem given (as0 : List A) (h : ArgsIs Try.prog 8 Try.f4.params.toList as0) : Go.Vs.Fn Try.prog 4 as0 (.c (.r (.v (.bool true)))) := by
  rw [Try.params4] at h
  obtain ⟨x0, xs0, rfl, ⟨ts0, t0, q0⟩, h⟩ := h
  rw [show tyOf Try.prog 8 25 = some [.sl [.str, .str, .int .i64, .int .i64, .int .i64, .int .i64], .sl [.int .i64], .int .i64] from by kernel_rfl] at t0
  cases t0
  rw [show aggT Try.prog 25 = true from by kernel_rfl] at q0
  obtain ⟨r0, rfl, q0⟩ := q0
  obtain ⟨a0, rfl, w0⟩ := is_Network r0 q0
  obtain ⟨x1, xs1, rfl, ⟨ts1, t1, q1⟩, h⟩ := h
  rw [show tyOf Try.prog 8 43 = some [.sl [.int .i64, .int .i64, .int .i64, .int .i64]] from by kernel_rfl] at t1
  cases t1
  rw [show aggT Try.prog 43 = false from by kernel_rfl] at q1
  obtain ⟨r1, rfl, q1⟩ := q1
  obtain ⟨_, _, e1, q1, e1_⟩ := is_cons q1
  cases e1
  obtain ⟨b1, rfl, l1, q1⟩ := is_sl q1
  obtain ⟨a1, rfl, p1⟩ := rows_is is_Booking b1 q1
  rw [List.length_map] at l1
  obtain ⟨x2, xs2, rfl, ⟨ts2, t2, q2⟩, h⟩ := h
  rw [show tyOf Try.prog 8 44 = some [.sl [.int .i64, .int .i64]] from by kernel_rfl] at t2
  cases t2
  rw [show aggT Try.prog 44 = false from by kernel_rfl] at q2
  obtain ⟨r2, rfl, q2⟩ := q2
  obtain ⟨_, _, e2, q2, e2_⟩ := is_cons q2
  cases e2
  obtain ⟨b2, rfl, l2, q2⟩ := is_sl q2
  obtain ⟨a2, rfl, p2⟩ := rows_is is_Trip b2 q2
  rw [List.length_map] at l2
  obtain ⟨x3, xs3, rfl, ⟨ts3, t3, q3⟩, h⟩ := h
  rw [show tyOf Try.prog 8 9 = some [.str] from by kernel_rfl] at t3
  cases t3
  rw [show aggT Try.prog 9 = false from by kernel_rfl] at q3
  obtain ⟨r3, rfl, q3⟩ := q3
  obtain ⟨_, _, e3, q3, e3_⟩ := is_cons q3
  cases e3
  obtain ⟨a3, rfl, w3⟩ := is_str q3
  obtain ⟨x4, xs4, rfl, ⟨ts4, t4, q4⟩, h⟩ := h
  rw [show tyOf Try.prog 8 3 = some [.int .i64] from by kernel_rfl] at t4
  cases t4
  rw [show aggT Try.prog 3 = false from by kernel_rfl] at q4
  obtain ⟨r4, rfl, q4⟩ := q4
  obtain ⟨_, _, e4, q4, e4_⟩ := is_cons q4
  cases e4
  obtain ⟨a4, rfl, w4⟩ := is_i64 q4
  obtain ⟨x5, xs5, rfl, ⟨ts5, t5, q5⟩, h⟩ := h
  rw [show tyOf Try.prog 8 3 = some [.int .i64] from by kernel_rfl] at t5
  cases t5
  rw [show aggT Try.prog 3 = false from by kernel_rfl] at q5
  obtain ⟨r5, rfl, q5⟩ := q5
  obtain ⟨_, _, e5, q5, e5_⟩ := is_cons q5
  cases e5
  obtain ⟨a5, rfl, w5⟩ := is_i64 q5
  obtain ⟨x6, xs6, rfl, ⟨ts6, t6, q6⟩, h⟩ := h
  rw [show tyOf Try.prog 8 3 = some [.int .i64] from by kernel_rfl] at t6
  cases t6
  rw [show aggT Try.prog 3 = false from by kernel_rfl] at q6
  obtain ⟨r6, rfl, q6⟩ := q6
  obtain ⟨_, _, e6, q6, e6_⟩ := is_cons q6
  cases e6
  obtain ⟨a6, rfl, w6⟩ := is_i64 q6
  have h := h
  subst h
  exact c_L_FnExactBestFree rfl rfl (law4 _ _ _ _ _ _ _ w0 l1 l2 w3 w4 w5 w6)
theorem lifted (os : Os) (started : os.Started) (H : Type) (enc : TypeId × Value → H) :
    ReturnsInHanded {} Try.checked os 4 .any (Rows.fnExactBestFreeSpec.pre6 enc Try.prog Try.f4 Rows.fnExactBestFreeRow.domain false) (Rows.fnExactBestFreeSpec.post enc Try.prog Try.f4 false true false false) := by
  refine returnsInHanded_of_change (C := Try.checked) (s := Rows.fnExactBestFreeSpec) (by kernel_rfl) started (by kernel_rfl) Try.func4
    (ChangeSpec.witness6 (enc := enc) (C := Try.checked) false ⟨#[], #[.agg #[.slice none 0 0, .slice none 0 0, .int .i64 0], .slice none 0 0, .slice none 0 0, .string ⟨#[]⟩, .int .i64 0, .int .i64 0, .int .i64 0], []⟩ 8 (by kernel_rfl) (by kernel_rfl) (by kernel_rfl) (by kernel_rfl)) ?_
  intro W base args ds gs before hval hW _ _
  refine law_contract (n := 8) (tb := 4) rfl rfl Try.underlying4 (by kernel_rfl) (by kernel_rfl) (fun ds hl => ?_) given W base args ds gs before hval hW
  rw [Try.params4] at hl
  match ds, hl with
  | [d0, d1, d2, d3, d4, d5, d6], _ => exact ⟨rfl, rfl, rfl⟩
theorem facts : joinedFacts Try.prog 4 Try.f4 Rows.fnExactBestFreeSpec Rows.fnExactBestFreeRow = true := by
  unfold joinedFacts
  exact (and_i (and_i (and_i (and_i (and_i (and_i (and_i (and_i (and_i (and_i (and_i (and_i (and_i (and_i (and_i (and_i (and_i (and_i (and_i (and_i (and_i (and_i (and_i (and_i (and_i (and_i (and_i (and_i (and_i (and_i (and_i (by kernel_rfl) io_laid) io_maps) (by kernel_rfl)) (by kernel_rfl)) (by kernel_rfl)) (by kernel_rfl)) (by kernel_rfl)) (by kernel_rfl)) (by kernel_rfl)) (by kernel_rfl)) (by kernel_rfl)) (by kernel_rfl)) (by kernel_rfl)) (by kernel_rfl)) (by kernel_rfl)) (by kernel_rfl)) (by kernel_rfl)) (by kernel_rfl)) (by kernel_rfl)) (by kernel_rfl)) (by kernel_rfl)) (by kernel_rfl)) (by kernel_rfl)) io_heard) io_enter) (by rw [io_final]; rfl)) (by rw [io_make]; rfl)) (by kernel_rfl)) (by kernel_rfl)) (by kernel_rfl)) (by kernel_rfl))
theorem holds : Rows.FnExactBestFreeSaid :=
  OpenClaim.holds_of_wide 4 Try.f4 rfl rfl rfl rfl rfl rfl rfl ⟨rfl, rfl, rfl, rfl, rfl⟩ rfl rfl rfl rfl rfl (by kernel_rfl) Try.func4 facts
    (of_decide_eq_true (by kernel_rfl)) (by unfold Func.isWrapper; first | (rw [if_pos (by decide +kernel)]; kernel_rfl) | (rw [if_neg (by decide +kernel)]; exact ⟨rfl, rfl⟩))
    (fun os started H enc _ => lifted os started H enc)
end Go.Proofs.Ytilplaaijbpilaa.fnExactBestFree
