/- Part of the proofs of this seat's laws: Hb. No condition. -/
import Derived.Test.YtilplaaijbpilaaHa
import Derived.Test.YtilplaaijbpilaaLaa
import Derived.Test.YtilplaaijbpilaaLac
import Derived.Test.YtilplaaijbpilaaLab
set_option linter.unusedVariables false
set_option linter.unusedSimpArgs false
set_option linter.unusedSectionVars false
namespace Go.Vs
open Go.IntWalk
set_option linter.unusedVariables false
set_option linter.unusedSimpArgs false
theorem toLeg_r (x : Leg) (h : Leg.tot x ≤ 1048576) : L_toLeg G.real TE.real x = x := by
  unfold Leg.tot at h
  rfl
theorem eqLeg_r (x : Leg) (h : Leg.tot x ≤ 1048576) : L_eqLeg G.real TE.real x x = true := by
  unfold Leg.tot at h
  simp [L_eqLeg]
theorem szLeg_r (x : Leg) (v : Int) (h0 : 0 ≤ v) (h1 : v < 4294967296) (hw : Leg.wd x) : L_szLeg G.real TE.real x v = szOut v (Leg.tot x) := by
  unfold Leg.wd at hw
  unfold L_szLeg Leg.tot
  have hw0_ := hw.1
  try simp only [R_int, R_slen, R_sub]
  rw [w64 (by omega) (by omega)]
  try simp only [R_lt, br_dec]
  by_cases g0 : v - ((x.From.size : Nat) : Int) < 0
  · rw [if_pos g0]; unfold szOut; rw [if_pos (by omega)]
  rw [if_neg g0, show v - ((x.From.size : Nat) : Int) = v - ((x.From.size : Nat) : Int) by omega]
  have hw1_ := hw.2
  try simp only [R_int, R_slen, R_sub]
  rw [w64 (by omega) (by omega)]
  try simp only [R_lt, br_dec]
  by_cases g1 : v - ((x.From.size : Nat) : Int) - ((x.To.size : Nat) : Int) < 0
  · rw [if_pos g1]; unfold szOut; rw [if_pos (by omega)]
  · rw [if_neg g1]; unfold szOut; rw [if_neg (by omega)]; try omega
theorem toLegS_l1_r (l : List Leg) : ∀ (k : Nat) (w : List Leg), w.length = k + l.length → w.length < 4611686018427387904 → (∀ y ∈ l, Leg.tot y ≤ 1048576) → L_toLegS_l1 G.real TE.real l k w = some (w.take k ++ l) := by
  induction l with
  | nil => intro k w h hb hs; rw [L_toLegS_l1, List.take_of_length_le (by simp at h; omega)]; simp
  | cons z l ih =>
    intro k w h hb hs
    simp only [List.length_cons] at h
    have hk : k < w.length := by omega
    rw [L_toLegS_l1]
    simp only [toLeg_r z (hs z (by simp)), lP_eq, dlenx_Leg, R_nat, Int.toNat_natCast, R_add]
    rw [gd_true (by omega), gt_some (List.getElem?_eq_getElem hk), w64 (by omega) (by omega)]
    try simp only [lP_eq]
    rw [show (k : Int) + 1 = ((k + 1 : Nat) : Int) by omega, ih (k + 1) _ (by simp; omega) (by simpa using hb) (fun y hy => hs y (by simp [hy]))]
    rw [List.take_add_one]
    simp [hk, List.take_set_of_le, List.append_assoc]
theorem toLegS_r (l : List Leg) (h : l.length + sumT (fun y => Leg.tot y) l ≤ 1048576) : L_toLegS G.real TE.real l = some l := by
  unfold L_toLegS
  simp only [llen_Leg, R_nat, Int.toNat_natCast, lP_eq]
  rw [gd_true (by omega), show (0 : Int) = ((0 : Nat) : Int) from rfl, toLegS_l1_r l 0 _ (by simp) (by simp; omega) (fun y hy => by have := sumT_mem (fun y => Leg.tot y) hy; omega)]
  simp
theorem eqLegS_l1_r (a : List Leg) (l : List Leg) : ∀ (k : Nat), a.drop k = l → a.length < 4611686018427387904 → (∀ y ∈ l, Leg.tot y ≤ 1048576) → L_eqLegS_l1 G.real TE.real a l k = some (.out ()) := by
  induction l with
  | nil => intro k h hb hs; rw [L_eqLegS_l1]
  | cons z l ih =>
    intro k h hb hs
    have hk : k < a.length := by
      have := congrArg List.length h
      simp at this; omega
    have hz : a[k]? = some z := by
      have := congrArg (fun l => l[0]?) h
      simpa using this
    rw [L_eqLegS_l1]
    simp only [R_nat, Int.toNat_natCast, R_add]
    rw [gt_some hz]
    rw [eqLeg_r z (hs z (by simp))]
    simp only [cl_some, lP_eq, br_t]
    rw [w64 (by omega) (by omega), show (k : Int) + 1 = ((k + 1 : Nat) : Int) by omega]
    exact ih (k + 1) (by rw [← List.drop_drop, h]; rfl) hb (fun y hy => hs y (by simp [hy]))
theorem eqLegS_r (l : List Leg) (h : l.length + sumT (fun y => Leg.tot y) l ≤ 1048576) : L_eqLegS G.real TE.real l l = some true := by
  unfold L_eqLegS
  simp only [R_eq, decide_true, br_t]
  rw [show (0 : Int) = ((0 : Nat) : Int) from rfl, eqLegS_l1_r l l 0 (by simp) (by omega) (fun y hy => by have := sumT_mem (fun y => Leg.tot y) hy; omega)]
  rfl
theorem szLegS_l1_r (l : List Leg) : ∀ (v : Int), 0 ≤ v → v < 4294967296 → (∀ y ∈ l, Leg.wd y) → L_szLegS_l1 G.real TE.real l v = if v - (sumT (fun y => Leg.tot y) l : Nat) < 0 then .ret (-1) else .out (v - (sumT (fun y => Leg.tot y) l : Nat)) := by
  induction l with
  | nil =>
    intro v h0 h1 hw
    have hT : sumT (fun y => Leg.tot y) ([] : List Leg) = 0 := rfl
    rw [L_szLegS_l1, if_neg (by omega), hT]; simp
  | cons z l ih =>
    intro v h0 h1 hw
    rw [L_szLegS_l1]
    rw [szLeg_r z v h0 h1 (hw z (by simp))]
    have hT : sumT (fun y => Leg.tot y) (z :: l) = Leg.tot z + sumT (fun y => Leg.tot y) l := by simp [sumT]
    simp only [lP_eq, R_lt, br_dec]
    by_cases h : szOut v (Leg.tot z) < 0
    · have := szOut_neg h
      rw [if_pos h, if_pos (by omega)]
    · have := szOut_pos h
      rw [if_neg h, ih _ (by omega) (by omega) (fun y hy => hw y (by simp [hy])), this.1, hT]
      have e : v - (Leg.tot z : Nat) - (sumT (fun y => Leg.tot y) l : Nat) = v - ((Leg.tot z + sumT (fun y => Leg.tot y) l : Nat) : Int) := by omega
      rw [e]
theorem szLegS_r (l : List Leg) (v : Int) (h0 : 0 ≤ v) (h1 : v < 4294967296) (hw : l.length ≤ 9223372036854775807 ∧ ∀ y ∈ l, Leg.wd y) : L_szLegS G.real TE.real l v = szOut v (l.length + sumT (fun y => Leg.tot y) l) := by
  unfold L_szLegS
  have hw1 := hw.1
  simp only [llen_Leg, R_sub, R_lt]
  rw [w64 (by omega) (by omega)]
  simp only [br_dec, lP_eq]
  unfold szOut
  by_cases h : v - l.length < 0
  · rw [if_pos h, if_pos (by omega)]
  · rw [if_neg h, szLegS_l1_r l _ (by omega) (by omega) hw.2]
    have e : v - (l.length : Int) - (sumT (fun y => Leg.tot y) l : Nat) = v - ((l.length + sumT (fun y => Leg.tot y) l : Nat) : Int) := by omega
    rw [e]
    split <;> rfl
theorem toIntS_l1_r (l : List Int) : ∀ (k : Nat) (w : List Int), w.length = k + l.length → w.length < 4611686018427387904 → L_toIntS_l1 G.real TE.real l k w = some (w.take k ++ l) := by
  induction l with
  | nil => intro k w h hb; rw [L_toIntS_l1, List.take_of_length_le (by simp at h; omega)]; simp
  | cons z l ih =>
    intro k w h hb
    simp only [List.length_cons] at h
    have hk : k < w.length := by omega
    rw [L_toIntS_l1]
    simp only [dlenx_I64, R_nat, Int.toNat_natCast, R_add]
    rw [gd_true (by omega), gt_some (List.getElem?_eq_getElem hk), w64 (by omega) (by omega)]
    try simp only [lP_eq]
    rw [show (k : Int) + 1 = ((k + 1 : Nat) : Int) by omega, ih (k + 1) _ (by simp; omega) (by simpa using hb)]
    rw [List.take_add_one]
    simp [hk, List.take_set_of_le, List.append_assoc]
theorem toIntS_r (l : List Int) (h : l.length ≤ 1048576) : L_toIntS G.real TE.real l = some l := by
  unfold L_toIntS
  simp only [llen_I64, R_nat, Int.toNat_natCast, lP_eq]
  rw [gd_true (by omega), show (0 : Int) = ((0 : Nat) : Int) from rfl, toIntS_l1_r l 0 _ (by simp) (by simp; omega)]
  simp
theorem eqIntS_l1_r (a : List Int) (l : List Int) : ∀ (k : Nat), a.drop k = l → a.length < 4611686018427387904 → L_eqIntS_l1 G.real TE.real a l k = some (.out ()) := by
  induction l with
  | nil => intro k h hb; rw [L_eqIntS_l1]
  | cons z l ih =>
    intro k h hb
    have hk : k < a.length := by
      have := congrArg List.length h
      simp at this; omega
    have hz : a[k]? = some z := by
      have := congrArg (fun l => l[0]?) h
      simpa using this
    rw [L_eqIntS_l1]
    simp only [R_nat, Int.toNat_natCast, R_add]
    rw [gt_some hz]
    simp only [R_eq, R_seq, beq_self_eq_true, decide_true, br_t]
    rw [w64 (by omega) (by omega), show (k : Int) + 1 = ((k + 1 : Nat) : Int) by omega]
    exact ih (k + 1) (by rw [← List.drop_drop, h]; rfl) hb
theorem eqIntS_r (l : List Int) (h : l.length ≤ 1048576) : L_eqIntS G.real TE.real l l = some true := by
  unfold L_eqIntS
  simp only [R_eq, decide_true, br_t]
  rw [show (0 : Int) = ((0 : Nat) : Int) from rfl, eqIntS_l1_r l l 0 (by simp) (by omega)]
  rfl
theorem szIntS_r (l : List Int) (v : Int) (h0 : 0 ≤ v) (h1 : v < 4294967296) (hw : l.length ≤ 9223372036854775807) : L_szIntS G.real TE.real l v = szOut v l.length := by
  unfold L_szIntS
  simp only [llen_I64, R_sub, R_lt]
  rw [w64 (by omega) (by omega)]
  unfold szOut
  by_cases h : v - l.length < 0 <;> simp [h]
theorem toNetwork_r (x : Network) (h : Network.tot x ≤ 1048576) : L_toNetwork G.real TE.real x = some x := by
  unfold Network.tot at h
  simp only [L_toNetwork, toLegS_r x.Legs (by omega), toIntS_r x.Off (by omega), cl_some, lP_eq]
theorem eqNetwork_r (x : Network) (h : Network.tot x ≤ 1048576) : L_eqNetwork G.real TE.real x x = some true := by
  unfold Network.tot at h
  simp [L_eqNetwork, eqLegS_r x.Legs (by omega), eqIntS_r x.Off (by omega)]
theorem szNetwork_r (x : Network) (v : Int) (h0 : 0 ≤ v) (h1 : v < 4294967296) (hw : Network.wd x) : L_szNetwork G.real TE.real x v = szOut v (Network.tot x) := by
  unfold Network.wd at hw
  unfold L_szNetwork Network.tot
  rw [szLegS_r x.Legs _ (by omega) (by omega) hw.1]
  try simp only [lP_eq, R_lt, br_dec]
  by_cases g0 : szOut (v) ((x.Legs.length + sumT (fun y => Leg.tot y) x.Legs)) < 0
  · have q0 := szOut_neg g0; rw [if_pos g0]; unfold szOut; rw [if_pos (by omega)]
  have q0 := szOut_pos g0
  rw [if_neg g0, q0.1, show v - (((x.Legs.length + sumT (fun y => Leg.tot y) x.Legs) : Nat) : Int) = v - (((x.Legs.length + sumT (fun y => Leg.tot y) x.Legs) : Nat) : Int) by omega]
  rw [szIntS_r x.Off _ (by omega) (by omega) hw.2]
  try simp only [lP_eq, R_lt, br_dec]
  by_cases g1 : szOut (v - (((x.Legs.length + sumT (fun y => Leg.tot y) x.Legs) : Nat) : Int)) (x.Off.length) < 0
  · have q1 := szOut_neg g1; rw [if_pos g1]; unfold szOut; rw [if_pos (by omega)]
  · have q1 := szOut_pos g1; rw [if_neg g1]; try (rw [q1.1]; unfold szOut; rw [if_neg (by omega)]; try omega)
theorem toTrip_r (x : Trip) : L_toTrip G.real TE.real x = x := by
  rfl
theorem eqTrip_r (x : Trip) : L_eqTrip G.real TE.real x x = true := by
  simp [L_eqTrip]
theorem toBooking_r (x : Booking) : L_toBooking G.real TE.real x = x := by
  rfl
theorem eqBooking_r (x : Booking) : L_eqBooking G.real TE.real x x = true := by
  simp [L_eqBooking, eqTrip_r x.Trip]
theorem toBookingS_l1_r (l : List Booking) : ∀ (k : Nat) (w : List Booking), w.length = k + l.length → w.length < 4611686018427387904 → L_toBookingS_l1 G.real TE.real l k w = some (w.take k ++ l) := by
  induction l with
  | nil => intro k w h hb; rw [L_toBookingS_l1, List.take_of_length_le (by simp at h; omega)]; simp
  | cons z l ih =>
    intro k w h hb
    simp only [List.length_cons] at h
    have hk : k < w.length := by omega
    rw [L_toBookingS_l1]
    simp only [toBooking_r, lP_eq, dlenx_Booking, R_nat, Int.toNat_natCast, R_add]
    rw [gd_true (by omega), gt_some (List.getElem?_eq_getElem hk), w64 (by omega) (by omega)]
    try simp only [lP_eq]
    rw [show (k : Int) + 1 = ((k + 1 : Nat) : Int) by omega, ih (k + 1) _ (by simp; omega) (by simpa using hb)]
    rw [List.take_add_one]
    simp [hk, List.take_set_of_le, List.append_assoc]
theorem toBookingS_r (l : List Booking) (h : l.length ≤ 1048576) : L_toBookingS G.real TE.real l = some l := by
  unfold L_toBookingS
  simp only [llen_Booking, R_nat, Int.toNat_natCast, lP_eq]
  rw [gd_true (by omega), show (0 : Int) = ((0 : Nat) : Int) from rfl, toBookingS_l1_r l 0 _ (by simp) (by simp; omega)]
  simp
theorem eqBookingS_l1_r (a : List Booking) (l : List Booking) : ∀ (k : Nat), a.drop k = l → a.length < 4611686018427387904 → L_eqBookingS_l1 G.real TE.real a l k = some (.out ()) := by
  induction l with
  | nil => intro k h hb; rw [L_eqBookingS_l1]
  | cons z l ih =>
    intro k h hb
    have hk : k < a.length := by
      have := congrArg List.length h
      simp at this; omega
    have hz : a[k]? = some z := by
      have := congrArg (fun l => l[0]?) h
      simpa using this
    rw [L_eqBookingS_l1]
    simp only [R_nat, Int.toNat_natCast, R_add]
    rw [gt_some hz]
    simp only [eqBooking_r, cl_some, lP_eq, br_t]
    rw [w64 (by omega) (by omega), show (k : Int) + 1 = ((k + 1 : Nat) : Int) by omega]
    exact ih (k + 1) (by rw [← List.drop_drop, h]; rfl) hb
theorem eqBookingS_r (l : List Booking) (h : l.length ≤ 1048576) : L_eqBookingS G.real TE.real l l = some true := by
  unfold L_eqBookingS
  simp only [R_eq, decide_true, br_t]
  rw [show (0 : Int) = ((0 : Nat) : Int) from rfl, eqBookingS_l1_r l l 0 (by simp) (by omega)]
  rfl
theorem szBookingS_r (l : List Booking) (v : Int) (h0 : 0 ≤ v) (h1 : v < 4294967296) (hw : l.length ≤ 9223372036854775807) : L_szBookingS G.real TE.real l v = szOut v l.length := by
  unfold L_szBookingS
  simp only [llen_Booking, R_sub, R_lt]
  rw [w64 (by omega) (by omega)]
  unfold szOut
  by_cases h : v - l.length < 0 <;> simp [h]
theorem toTripS_l1_r (l : List Trip) : ∀ (k : Nat) (w : List Trip), w.length = k + l.length → w.length < 4611686018427387904 → L_toTripS_l1 G.real TE.real l k w = some (w.take k ++ l) := by
  induction l with
  | nil => intro k w h hb; rw [L_toTripS_l1, List.take_of_length_le (by simp at h; omega)]; simp
  | cons z l ih =>
    intro k w h hb
    simp only [List.length_cons] at h
    have hk : k < w.length := by omega
    rw [L_toTripS_l1]
    simp only [toTrip_r, lP_eq, dlenx_Trip, R_nat, Int.toNat_natCast, R_add]
    rw [gd_true (by omega), gt_some (List.getElem?_eq_getElem hk), w64 (by omega) (by omega)]
    try simp only [lP_eq]
    rw [show (k : Int) + 1 = ((k + 1 : Nat) : Int) by omega, ih (k + 1) _ (by simp; omega) (by simpa using hb)]
    rw [List.take_add_one]
    simp [hk, List.take_set_of_le, List.append_assoc]
theorem toTripS_r (l : List Trip) (h : l.length ≤ 1048576) : L_toTripS G.real TE.real l = some l := by
  unfold L_toTripS
  simp only [llen_Trip, R_nat, Int.toNat_natCast, lP_eq]
  rw [gd_true (by omega), show (0 : Int) = ((0 : Nat) : Int) from rfl, toTripS_l1_r l 0 _ (by simp) (by simp; omega)]
  simp
theorem eqTripS_l1_r (a : List Trip) (l : List Trip) : ∀ (k : Nat), a.drop k = l → a.length < 4611686018427387904 → L_eqTripS_l1 G.real TE.real a l k = some (.out ()) := by
  induction l with
  | nil => intro k h hb; rw [L_eqTripS_l1]
  | cons z l ih =>
    intro k h hb
    have hk : k < a.length := by
      have := congrArg List.length h
      simp at this; omega
    have hz : a[k]? = some z := by
      have := congrArg (fun l => l[0]?) h
      simpa using this
    rw [L_eqTripS_l1]
    simp only [R_nat, Int.toNat_natCast, R_add]
    rw [gt_some hz]
    simp only [eqTrip_r, cl_some, lP_eq, br_t]
    rw [w64 (by omega) (by omega), show (k : Int) + 1 = ((k + 1 : Nat) : Int) by omega]
    exact ih (k + 1) (by rw [← List.drop_drop, h]; rfl) hb
theorem eqTripS_r (l : List Trip) (h : l.length ≤ 1048576) : L_eqTripS G.real TE.real l l = some true := by
  unfold L_eqTripS
  simp only [R_eq, decide_true, br_t]
  rw [show (0 : Int) = ((0 : Nat) : Int) from rfl, eqTripS_l1_r l l 0 (by simp) (by omega)]
  rfl
theorem szTripS_r (l : List Trip) (v : Int) (h0 : 0 ≤ v) (h1 : v < 4294967296) (hw : l.length ≤ 9223372036854775807) : L_szTripS G.real TE.real l v = szOut v l.length := by
  unfold L_szTripS
  simp only [llen_Trip, R_sub, R_lt]
  rw [w64 (by omega) (by omega)]
  unfold szOut
  by_cases h : v - l.length < 0 <;> simp [h]
end Go.Vs
