/- Part of the proofs of this seat's laws: Mark. No condition. -/
import Derived.Test.YtilplaaijbpilaaVf
import Derived.Test.YtilplaaijbpilaaHb
import Derived.Test.YtilplaaijbpilaaLac
set_option linter.unusedVariables false
set_option linter.unusedSimpArgs false
set_option linter.unusedSectionVars false
namespace Go.Vs
open Go.IntWalk
/-! A round at one place of a list. -/
theorem gt_mid {α β : Type} (pre l : List β) (x : β) (k : β → Option α) : gt (pre ++ x :: l) pre.length k = k x := gt_some (by simp)
theorem set_mid {β : Type} (pre l : List β) (x y : β) : (pre ++ x :: l).set pre.length y = pre ++ y :: l := by simp
theorem gd_mid {α β : Type} (pre l : List β) (x : β) (k : Option α) : gd ((0 : Int) ≤ (pre.length : Int) ∧ (pre.length : Int) < ((pre ++ x :: l).length : Nat)) k = k := gd_true (by simp; omega)
theorem lt_mid {β : Type} (pre l : List β) (x : β) : decide ((pre.length : Int) < ((pre ++ x :: l).length : Nat)) = true := by simp; omega
theorem lt_end {β : Type} (pre : List β) : decide ((pre.length : Int) < ((pre ++ []).length : Nat)) = false := by simp
theorem mid_app {β : Type} (pre l : List β) (x : β) : pre ++ x :: l = (pre ++ [x]) ++ l := by simp
theorem mid_len {β : Type} (pre : List β) (x : β) : ((pre.length : Nat) : Int) + 1 = (((pre ++ [x]).length : Nat) : Int) := by simp
end Go.Vs
namespace Go.Vs
open Go.IntWalk
set_option linter.unusedVariables false
set_option linter.unusedSimpArgs false
/-! What marks do. -/
theorem markText_l1 : ∀ (m n : Nat) (v : Int) (s : ByteArray), v < (10 : Int) ^ m → m < n → v ≤ 800000000 → s.size + m ≤ 1000 → ∃ r, L_markText_l1 G.real TE.real n v s = some r ∧ r.size ≤ s.size + m
  | m, 0, v, s, _, h, _, _ => by omega
  | 0, n + 1, v, s, h, _, _, _ => by
    rw [L_markText_l1]
    simp only [R_lt, br_dec]
    rw [if_neg (by simp at h; omega)]
    exact ⟨s, rfl, by omega⟩
  | m + 1, n + 1, v, s, h, hn, hv, hs => by
    rw [L_markText_l1]
    simp only [R_lt, br_dec, lP_eq]
    by_cases h0 : 0 < v
    · rw [if_pos h0]
      have hz : ∀ x : Int, (G.real.bstr [x]).size = 1 := fun x => by
        have : G.real.bstr [x] = strOfNums [x] := rfl
        rw [this, strOfNums_size]; rfl
      have hp : (10 : Int) ^ (m + 1) = (10 : Int) ^ m * 10 := by rw [Int.pow_succ]
      have hq : v.tdiv 10 < (10 : Int) ^ m := by
        rw [Int.tdiv_eq_ediv_of_nonneg (by omega)]
        rw [hp] at h
        exact Int.ediv_lt_of_lt_mul (by omega) h
      have hq2 : v.tdiv 10 ≤ 800000000 := by rw [Int.tdiv_eq_ediv_of_nonneg (by omega)]; omega
      have hq3 : 0 ≤ v.tdiv 10 := by rw [Int.tdiv_eq_ediv_of_nonneg (by omega)]; omega
      rw [gd_true (by rw [hz]; omega)]
      have hw : G.real.wrap .i64 (G.real.quo v 10) = v.tdiv 10 := by rw [R_quo]; exact w64 (by omega) (by omega)
      rw [hw]
      have hc : ∀ x : Int, (G.real.cat (G.real.bstr [x]) s).size = s.size + 1 := fun x => by rw [R_cat, ByteArray.size_append, hz]; omega
      obtain ⟨r, e1, e2⟩ := markText_l1 m n (v.tdiv 10) (G.real.cat (G.real.bstr [G.real.wrap .u8 (G.real.wrap .i64 (G.real.add 48 (G.real.rem v 10)))]) s) hq (by omega) hq2 (by rw [hc]; omega)
      exact ⟨r, e1, by rw [hc] at e2; omega⟩
    · rw [if_neg h0]
      exact ⟨s, rfl, by omega⟩
theorem markText_r (k : Int) (h0 : 0 ≤ k) (h1 : k ≤ 800000000) : ∃ s, L_markText G.real TE.real k = some s := by
  unfold L_markText
  simp only [R_le, br_dec]
  split
  · exact ⟨_, rfl⟩
  · obtain ⟨r, e1, e2⟩ := markText_l1 9 1000000000 k str_k0 (by omega) (by omega) (by omega) (by show (0 : Nat) + 9 ≤ 1000; omega)
    rw [e1, cl_some]
    have hz0 : (str_k0 : ByteArray).size = 0 := rfl
    have hz1 : (str_k2 : ByteArray).size = 1 := rfl
    rw [gd_true (by omega)]
    exact ⟨_, rfl⟩
def cntBooking (l : List Booking) : Nat := (l.map fun x => 4).sum
theorem cntBooking_cons (x : Booking) (l : List Booking) : cntBooking (x :: l) = (4) + cntBooking l := by simp [cntBooking]
theorem markBooking_l1 (l : List Booking) : ∀ (pre : List Booking) (k : Int) (n : Nat), l.length < n → 0 ≤ k → k + (cntBooking l : Nat) ≤ 800000000 → pre.length + l.length ≤ 800000000 →
    ∃ l', L_markBookingS_l1 G.real TE.real n (pre ++ l) k pre.length = some (pre ++ l', k + (cntBooking l : Nat)) ∧ l'.length = l.length := by
  induction l with
  | nil =>
    intro pre k n hn h0 hb hp
    cases n with
    | zero => simp at hn
    | succ n =>
      refine ⟨[], ?_, rfl⟩
      · rw [L_markBookingS_l1]; simp only [dlenx_Booking, R_lt, R_int, lt_end, br_f]; simp [cntBooking]
  | cons z l ih =>
    intro pre k n hn h0 hb hp
    cases n with
    | zero => simp at hn
    | succ n =>
      simp only [List.length_cons] at hn hp
      rw [cntBooking_cons] at hb
      have wp : G.real.wrap .i64 ((pre.length : Int) + 1) = (pre.length : Int) + 1 := w64 (by omega) (by omega)
      have w0 : G.real.wrap .i64 (k + 1) = k + 1 := w64 (by omega) (by omega)
      have w1 : G.real.wrap .i64 ((k + 1) + 1) = (k + 1) + 1 := w64 (by omega) (by omega)
      have w2 : G.real.wrap .i64 (((k + 1) + 1) + 1) = ((k + 1) + 1) + 1 := w64 (by omega) (by omega)
      have w3 : G.real.wrap .i64 ((((k + 1) + 1) + 1) + 1) = (((k + 1) + 1) + 1) + 1 := w64 (by omega) (by omega)
      obtain ⟨l', q1, q2⟩ := ih (pre ++ [(Booking.mk (k) (Trip.mk ((k + 1)) (((k + 1) + 1))) ((((k + 1) + 1) + 1)))]) ((((k + 1) + 1) + 1) + 1) n (by omega) (by omega) (by omega) (by simp; omega)
      refine ⟨(Booking.mk (k) (Trip.mk ((k + 1)) (((k + 1) + 1))) ((((k + 1) + 1) + 1))) :: l', ?_, by simp [q2]⟩
      · rw [L_markBookingS_l1]
        simp only [dlenx_Booking, R_lt, R_int, R_nat, R_add, Int.toNat_natCast, lt_mid, br_t, gd_mid, gt_mid, lP_eq, set_mid, cl_some, w0, w1, w2, w3]
        try rw [wp]
        rw [mid_app, mid_len pre (Booking.mk (k) (Trip.mk ((k + 1)) (((k + 1) + 1))) ((((k + 1) + 1) + 1))), q1, cntBooking_cons]
        simp only [List.append_assoc, List.singleton_append, Option.some.injEq, Prod.mk.injEq, true_and]
        omega
theorem cntBooking_le (l : List Booking) : cntBooking l ≤ 16 * l.length := by
  induction l with
  | nil => simp [cntBooking]
  | cons x l ih => rw [cntBooking_cons, List.length_cons]; omega
theorem markBooking (l : List Booking) (k : Int) (h0 : 0 ≤ k) (hb : k + (cntBooking l : Nat) ≤ 800000000) (hl : l.length ≤ 800000000) : ∃ l', L_markBookingS G.real TE.real l k = some (k + (cntBooking l : Nat), l') ∧ l'.length = l.length := by
  obtain ⟨l', q1, q2⟩ := markBooking_l1 l [] k 1000000000 (by omega) h0 hb (by simp; omega)
  simp only [List.nil_append, List.length_nil] at q1
  refine ⟨l', ?_, q2⟩
  · unfold L_markBookingS; rw [show (0 : Int) = ((0 : Nat) : Int) from rfl, q1, cl_some]; dsimp only; rw [gd_true q2]
def cntI64 (l : List Int) : Nat := (l.map fun x => 1).sum
theorem cntI64_cons (x : Int) (l : List Int) : cntI64 (x :: l) = (1) + cntI64 l := by simp [cntI64]
theorem markI64_l1 (l : List Int) : ∀ (pre : List Int) (k : Int) (n : Nat), l.length < n → 0 ≤ k → k + (cntI64 l : Nat) ≤ 800000000 → pre.length + l.length ≤ 800000000 →
    ∃ l', L_markIntS_l1 G.real TE.real n (pre ++ l) k pre.length = some (pre ++ l', k + (cntI64 l : Nat)) ∧ l'.length = l.length ∧ L_heldIntS_l1 G.real TE.real l' k = .out (k + (cntI64 l : Nat)) := by
  induction l with
  | nil =>
    intro pre k n hn h0 hb hp
    cases n with
    | zero => simp at hn
    | succ n =>
      refine ⟨[], ?_, rfl, ?_⟩
      · rw [L_markIntS_l1]; simp only [dlenx_I64, R_lt, R_int, lt_end, br_f]; simp [cntI64]
      · rw [L_heldIntS_l1]; simp [cntI64]
  | cons z l ih =>
    intro pre k n hn h0 hb hp
    cases n with
    | zero => simp at hn
    | succ n =>
      simp only [List.length_cons] at hn hp
      rw [cntI64_cons] at hb
      have wp : G.real.wrap .i64 ((pre.length : Int) + 1) = (pre.length : Int) + 1 := w64 (by omega) (by omega)
      have w0 : G.real.wrap .i64 (k + 1) = k + 1 := w64 (by omega) (by omega)
      obtain ⟨l', q1, q2, q3⟩ := ih (pre ++ [(k)]) (k + 1) n (by omega) (by omega) (by omega) (by simp; omega)
      refine ⟨(k) :: l', ?_, by simp [q2], ?_⟩
      · rw [L_markIntS_l1]
        simp only [dlenx_I64, R_lt, R_int, R_nat, R_add, Int.toNat_natCast, lt_mid, br_t, gd_mid, gt_mid, lP_eq, set_mid, cl_some, w0]
        try rw [wp]
        rw [mid_app, mid_len pre (k), q1, cntI64_cons]
        simp only [List.append_assoc, List.singleton_append, Option.some.injEq, Prod.mk.injEq, true_and]
        omega
      · rw [L_heldIntS_l1]
        try simp only [R_eq, R_seq, R_lt, R_add, decide_true, br_t, br_dec, lP_eq, cl_some, beq_self_eq_true, if_true, w0]
        rw [q3, cntI64_cons]
        congr 1
        omega
theorem len_cntI64 (l : List Int) : l.length ≤ cntI64 l := by
  induction l with
  | nil => simp
  | cons x l ih => rw [cntI64_cons, List.length_cons]; omega
theorem cntI64_le (l : List Int) : cntI64 l ≤ 16 * l.length := by
  induction l with
  | nil => simp [cntI64]
  | cons x l ih => rw [cntI64_cons, List.length_cons]; omega
theorem markI64 (l : List Int) (k : Int) (h0 : 0 ≤ k) (hb : k + (cntI64 l : Nat) ≤ 800000000) (hl : l.length ≤ 800000000) : ∃ l', L_markIntS G.real TE.real l k = some (k + (cntI64 l : Nat), l') ∧ l'.length = l.length ∧ L_heldIntS G.real TE.real l' k = k + (cntI64 l : Nat) := by
  obtain ⟨l', q1, q2, q3⟩ := markI64_l1 l [] k 1000000000 (by omega) h0 hb (by simp; omega)
  simp only [List.nil_append, List.length_nil] at q1
  refine ⟨l', ?_, q2, ?_⟩
  · unfold L_markIntS; rw [show (0 : Int) = ((0 : Nat) : Int) from rfl, q1, cl_some]; dsimp only; rw [gd_true q2]
  · unfold L_heldIntS; simp only [lP_eq, q3, lrp_out]
def cntLeg (l : List Leg) : Nat := (l.map fun x => 6).sum
theorem cntLeg_cons (x : Leg) (l : List Leg) : cntLeg (x :: l) = (6) + cntLeg l := by simp [cntLeg]
theorem markLeg_l1 (l : List Leg) : ∀ (pre : List Leg) (k : Int) (n : Nat), l.length < n → 0 ≤ k → k + (cntLeg l : Nat) ≤ 800000000 → pre.length + l.length ≤ 800000000 →
    ∃ l', L_markLegS_l1 G.real TE.real n (pre ++ l) k pre.length = some (pre ++ l', k + (cntLeg l : Nat)) ∧ l'.length = l.length := by
  induction l with
  | nil =>
    intro pre k n hn h0 hb hp
    cases n with
    | zero => simp at hn
    | succ n =>
      refine ⟨[], ?_, rfl⟩
      · rw [L_markLegS_l1]; simp only [dlenx_Leg, R_lt, R_int, lt_end, br_f]; simp [cntLeg]
  | cons z l ih =>
    intro pre k n hn h0 hb hp
    cases n with
    | zero => simp at hn
    | succ n =>
      simp only [List.length_cons] at hn hp
      rw [cntLeg_cons] at hb
      have wp : G.real.wrap .i64 ((pre.length : Int) + 1) = (pre.length : Int) + 1 := w64 (by omega) (by omega)
      obtain ⟨s1, e1⟩ := markText_r k (by omega) (by omega)
      have w0 : G.real.wrap .i64 (k + 1) = k + 1 := w64 (by omega) (by omega)
      obtain ⟨s2, e2⟩ := markText_r (k + 1) (by omega) (by omega)
      have w1 : G.real.wrap .i64 ((k + 1) + 1) = (k + 1) + 1 := w64 (by omega) (by omega)
      have w2 : G.real.wrap .i64 (((k + 1) + 1) + 1) = ((k + 1) + 1) + 1 := w64 (by omega) (by omega)
      have w3 : G.real.wrap .i64 ((((k + 1) + 1) + 1) + 1) = (((k + 1) + 1) + 1) + 1 := w64 (by omega) (by omega)
      have w4 : G.real.wrap .i64 (((((k + 1) + 1) + 1) + 1) + 1) = ((((k + 1) + 1) + 1) + 1) + 1 := w64 (by omega) (by omega)
      have w5 : G.real.wrap .i64 ((((((k + 1) + 1) + 1) + 1) + 1) + 1) = (((((k + 1) + 1) + 1) + 1) + 1) + 1 := w64 (by omega) (by omega)
      obtain ⟨l', q1, q2⟩ := ih (pre ++ [(Leg.mk (s1) (s2) (((k + 1) + 1)) ((((k + 1) + 1) + 1)) (((((k + 1) + 1) + 1) + 1)) ((((((k + 1) + 1) + 1) + 1) + 1)))]) ((((((k + 1) + 1) + 1) + 1) + 1) + 1) n (by omega) (by omega) (by omega) (by simp; omega)
      refine ⟨(Leg.mk (s1) (s2) (((k + 1) + 1)) ((((k + 1) + 1) + 1)) (((((k + 1) + 1) + 1) + 1)) ((((((k + 1) + 1) + 1) + 1) + 1))) :: l', ?_, by simp [q2]⟩
      · rw [L_markLegS_l1]
        simp only [dlenx_Leg, R_lt, R_int, R_nat, R_add, Int.toNat_natCast, lt_mid, br_t, gd_mid, gt_mid, lP_eq, set_mid, cl_some, w0, w1, w2, w3, w4, w5]
        try rw [e1]
        try simp only [dlenx_Leg, R_lt, R_int, R_nat, R_add, Int.toNat_natCast, lt_mid, br_t, gd_mid, gt_mid, lP_eq, set_mid, cl_some, w0, w1, w2, w3, w4, w5]
        try rw [e2]
        try simp only [dlenx_Leg, R_lt, R_int, R_nat, R_add, Int.toNat_natCast, lt_mid, br_t, gd_mid, gt_mid, lP_eq, set_mid, cl_some, w0, w1, w2, w3, w4, w5]
        try rw [wp]
        rw [mid_app, mid_len pre (Leg.mk (s1) (s2) (((k + 1) + 1)) ((((k + 1) + 1) + 1)) (((((k + 1) + 1) + 1) + 1)) ((((((k + 1) + 1) + 1) + 1) + 1))), q1, cntLeg_cons]
        simp only [List.append_assoc, List.singleton_append, Option.some.injEq, Prod.mk.injEq, true_and]
        omega
theorem len_cntLeg (l : List Leg) : l.length ≤ cntLeg l := by
  induction l with
  | nil => simp
  | cons x l ih => rw [cntLeg_cons, List.length_cons]; omega
theorem cntLeg_le (l : List Leg) : cntLeg l ≤ 16 * l.length := by
  induction l with
  | nil => simp [cntLeg]
  | cons x l ih => rw [cntLeg_cons, List.length_cons]; omega
theorem markLeg (l : List Leg) (k : Int) (h0 : 0 ≤ k) (hb : k + (cntLeg l : Nat) ≤ 800000000) (hl : l.length ≤ 800000000) : ∃ l', L_markLegS G.real TE.real l k = some (k + (cntLeg l : Nat), l') ∧ l'.length = l.length := by
  obtain ⟨l', q1, q2⟩ := markLeg_l1 l [] k 1000000000 (by omega) h0 hb (by simp; omega)
  simp only [List.nil_append, List.length_nil] at q1
  refine ⟨l', ?_, q2⟩
  · unfold L_markLegS; rw [show (0 : Int) = ((0 : Nat) : Int) from rfl, q1, cl_some]; dsimp only; rw [gd_true q2]
def cntNetwork (x : Network) : Nat := cntLeg x.Legs + cntI64 x.Off
theorem markNetwork (x : Network) (k : Int) (h0 : 0 ≤ k) (hb : k + (cntNetwork x : Nat) ≤ 800000000) : ∃ x', L_markNetwork G.real TE.real x k = some (k + (cntNetwork x : Nat), x') ∧ x'.Legs.length = x.Legs.length ∧ x'.Off.length = x.Off.length := by
  unfold cntNetwork at hb
  have lb0 := len_cntLeg x.Legs
  have lb1 := len_cntI64 x.Off
  obtain ⟨l0, e0, f0⟩ := markLeg x.Legs k (by omega) (by omega) (by omega)
  obtain ⟨l1, e1, f1, g1⟩ := markI64 x.Off (k + (cntLeg x.Legs : Nat)) (by omega) (by omega) (by omega)
  refine ⟨(Network.mk l0 l1 x.Change), ?_, f0, f1⟩
  · unfold L_markNetwork cntNetwork
    rw [e0, cl_some]; dsimp only; rw [gd_true f0]
    rw [e1, cl_some]; dsimp only; rw [gd_true f1]
    congr 2; omega
theorem cntNetwork_le (x : Network) : cntNetwork x ≤ 16 * Network.tot x := by
  have n0 := cntLeg_le x.Legs
  have n1 := cntI64_le x.Off
  unfold cntNetwork Network.tot
  omega
def cntTrip (l : List Trip) : Nat := (l.map fun x => 2).sum
theorem cntTrip_cons (x : Trip) (l : List Trip) : cntTrip (x :: l) = (2) + cntTrip l := by simp [cntTrip]
theorem markTrip_l1 (l : List Trip) : ∀ (pre : List Trip) (k : Int) (n : Nat), l.length < n → 0 ≤ k → k + (cntTrip l : Nat) ≤ 800000000 → pre.length + l.length ≤ 800000000 →
    ∃ l', L_markTripS_l1 G.real TE.real n (pre ++ l) k pre.length = some (pre ++ l', k + (cntTrip l : Nat)) ∧ l'.length = l.length ∧ L_heldTripS_l1 G.real TE.real l' k = .out (k + (cntTrip l : Nat)) := by
  induction l with
  | nil =>
    intro pre k n hn h0 hb hp
    cases n with
    | zero => simp at hn
    | succ n =>
      refine ⟨[], ?_, rfl, ?_⟩
      · rw [L_markTripS_l1]; simp only [dlenx_Trip, R_lt, R_int, lt_end, br_f]; simp [cntTrip]
      · rw [L_heldTripS_l1]; simp [cntTrip]
  | cons z l ih =>
    intro pre k n hn h0 hb hp
    cases n with
    | zero => simp at hn
    | succ n =>
      simp only [List.length_cons] at hn hp
      rw [cntTrip_cons] at hb
      have wp : G.real.wrap .i64 ((pre.length : Int) + 1) = (pre.length : Int) + 1 := w64 (by omega) (by omega)
      have w0 : G.real.wrap .i64 (k + 1) = k + 1 := w64 (by omega) (by omega)
      have w1 : G.real.wrap .i64 ((k + 1) + 1) = (k + 1) + 1 := w64 (by omega) (by omega)
      obtain ⟨l', q1, q2, q3⟩ := ih (pre ++ [(Trip.mk (k) ((k + 1)))]) ((k + 1) + 1) n (by omega) (by omega) (by omega) (by simp; omega)
      refine ⟨(Trip.mk (k) ((k + 1))) :: l', ?_, by simp [q2], ?_⟩
      · rw [L_markTripS_l1]
        simp only [dlenx_Trip, R_lt, R_int, R_nat, R_add, Int.toNat_natCast, lt_mid, br_t, gd_mid, gt_mid, lP_eq, set_mid, cl_some, w0, w1]
        try rw [wp]
        rw [mid_app, mid_len pre (Trip.mk (k) ((k + 1))), q1, cntTrip_cons]
        simp only [List.append_assoc, List.singleton_append, Option.some.injEq, Prod.mk.injEq, true_and]
        omega
      · rw [L_heldTripS_l1]
        try simp only [R_eq, R_seq, R_lt, R_add, decide_true, br_t, br_dec, lP_eq, cl_some, beq_self_eq_true, if_true, w0, w1]
        rw [q3, cntTrip_cons]
        congr 1
        omega
theorem cntTrip_le (l : List Trip) : cntTrip l ≤ 16 * l.length := by
  induction l with
  | nil => simp [cntTrip]
  | cons x l ih => rw [cntTrip_cons, List.length_cons]; omega
theorem markTrip (l : List Trip) (k : Int) (h0 : 0 ≤ k) (hb : k + (cntTrip l : Nat) ≤ 800000000) (hl : l.length ≤ 800000000) : ∃ l', L_markTripS G.real TE.real l k = some (k + (cntTrip l : Nat), l') ∧ l'.length = l.length ∧ L_heldTripS G.real TE.real l' k = k + (cntTrip l : Nat) := by
  obtain ⟨l', q1, q2, q3⟩ := markTrip_l1 l [] k 1000000000 (by omega) h0 hb (by simp; omega)
  simp only [List.nil_append, List.length_nil] at q1
  refine ⟨l', ?_, q2, ?_⟩
  · unfold L_markTripS; rw [show (0 : Int) = ((0 : Nat) : Int) from rfl, q1, cl_some]; dsimp only; rw [gd_true q2]
  · unfold L_heldTripS; simp only [lP_eq, q3, lrp_out]
end Go.Vs
