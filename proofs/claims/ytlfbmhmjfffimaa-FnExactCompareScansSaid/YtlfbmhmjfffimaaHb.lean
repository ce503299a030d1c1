/- Part of the proofs of this seat's laws: Hb. No condition. -/
import Derived.Test.YtlfbmhmjfffimaaVf
import Derived.Test.YtlfbmhmjfffimaaL1a
import Derived.Test.YtlfbmhmjfffimaaL2a
import Derived.Test.YtlfbmhmjfffimaaL3a
import Derived.Test.YtlfbmhmjfffimaaL4a
import Derived.Test.YtlfbmhmjfffimaaL5a
import Derived.Test.YtlfbmhmjfffimaaL1b
import Derived.Test.YtlfbmhmjfffimaaL3b
import Derived.Test.YtlfbmhmjfffimaaL2b
set_option linter.unusedVariables false
set_option linter.unusedSimpArgs false
set_option linter.unusedSectionVars false
namespace Go.Vs
open Go.IntWalk
set_option linter.unusedVariables false
set_option linter.unusedSimpArgs false
def sumT {α : Type} (f : α → Nat) (l : List α) : Nat := (l.map f).sum
theorem sumT_mem {α : Type} (f : α → Nat) {l : List α} {x : α} (h : x ∈ l) : f x ≤ sumT f l := by
  unfold sumT
  induction l with
  | nil => cases h
  | cons y l ih =>
    simp only [List.map_cons, List.sum_cons]
    rcases List.mem_cons.1 h with h | h
    · subst h; omega
    · have := ih h; omega
def Scan.tot (x : Scan) : Nat := x.Place.size
def Scan.wd (x : Scan) : Prop := x.Place.size ≤ 9223372036854775807
theorem toTrip_r (x : Trip) : L_toTrip G.real TE.real x = x := by
  rfl
theorem eqTrip_r (x : Trip) : L_eqTrip G.real TE.real x x = true := by
  simp [L_eqTrip]
theorem toScan_r (x : Scan) (h : Scan.tot x ≤ 1048576) : L_toScan G.real TE.real x = x := by
  unfold Scan.tot at h
  simp only [L_toScan, toTrip_r x.Trip, cl_some, lP_eq]
theorem eqScan_r (x : Scan) (h : Scan.tot x ≤ 1048576) : L_eqScan G.real TE.real x x = true := by
  unfold Scan.tot at h
  simp [L_eqScan, eqTrip_r x.Trip]
theorem szScan_r (x : Scan) (v : Int) (h0 : 0 ≤ v) (h1 : v < 4294967296) (hw : Scan.wd x) : L_szScan G.real TE.real x v = szOut v (Scan.tot x) := by
  unfold Scan.wd at hw
  unfold L_szScan Scan.tot
  have hw0_ := hw
  try simp only [R_int, R_slen, R_sub]
  rw [w64 (by omega) (by omega)]
  try simp only [R_lt, br_dec]
  by_cases g0 : v - ((x.Place.size : Nat) : Int) < 0
  · rw [if_pos g0]; unfold szOut; rw [if_pos (by omega)]
  · rw [if_neg g0]; unfold szOut; rw [if_neg (by omega)]; try omega
def Belief.tot (x : Belief) : Nat := (x.Places.length + sumT (fun y => y.size) x.Places) + x.Rides.length
def Belief.wd (x : Belief) : Prop := (x.Places.length ≤ 9223372036854775807 ∧ ∀ y ∈ x.Places, y.size ≤ 9223372036854775807) ∧ x.Rides.length ≤ 9223372036854775807
theorem toStringS_l1_r (l : List ByteArray) : ∀ (k : Nat) (w : List ByteArray), w.length = k + l.length → w.length < 4611686018427387904 → L_toStringS_l1 G.real TE.real l k w = some (w.take k ++ l) := by
  induction l with
  | nil => intro k w h hb; rw [L_toStringS_l1, List.take_of_length_le (by simp at h; omega)]; simp
  | cons z l ih =>
    intro k w h hb
    simp only [List.length_cons] at h
    have hk : k < w.length := by omega
    rw [L_toStringS_l1]
    simp only [dlenx_S, R_nat, Int.toNat_natCast, R_add]
    rw [gd_true (by omega), gt_some (List.getElem?_eq_getElem hk), w64 (by omega) (by omega)]
    try simp only [lP_eq]
    rw [show (k : Int) + 1 = ((k + 1 : Nat) : Int) by omega, ih (k + 1) _ (by simp; omega) (by simpa using hb)]
    rw [List.take_add_one]
    simp [hk, List.take_set_of_le, List.append_assoc]
theorem toStringS_r (l : List ByteArray) (h : l.length + sumT (fun y => y.size) l ≤ 1048576) : L_toStringS G.real TE.real l = some l := by
  unfold L_toStringS
  simp only [llen_S, R_nat, Int.toNat_natCast, lP_eq]
  rw [gd_true (by omega), show (0 : Int) = ((0 : Nat) : Int) from rfl, toStringS_l1_r l 0 _ (by simp) (by simp; omega)]
  simp
theorem eqStringS_l1_r (a : List ByteArray) (l : List ByteArray) : ∀ (k : Nat), a.drop k = l → a.length < 4611686018427387904 → L_eqStringS_l1 G.real TE.real a l k = some (.out ()) := by
  induction l with
  | nil => intro k h hb; rw [L_eqStringS_l1]
  | cons z l ih =>
    intro k h hb
    have hk : k < a.length := by
      have := congrArg List.length h
      simp at this; omega
    have hz : a[k]? = some z := by
      have := congrArg (fun l => l[0]?) h
      simpa using this
    rw [L_eqStringS_l1]
    simp only [R_nat, Int.toNat_natCast, R_add]
    rw [gt_some hz]
    simp only [R_eq, R_seq, beq_self_eq_true, decide_true, br_t]
    rw [w64 (by omega) (by omega), show (k : Int) + 1 = ((k + 1 : Nat) : Int) by omega]
    exact ih (k + 1) (by rw [← List.drop_drop, h]; rfl) hb
theorem eqStringS_r (l : List ByteArray) (h : l.length + sumT (fun y => y.size) l ≤ 1048576) : L_eqStringS G.real TE.real l l = some true := by
  unfold L_eqStringS
  simp only [R_eq, decide_true, br_t]
  rw [show (0 : Int) = ((0 : Nat) : Int) from rfl, eqStringS_l1_r l l 0 (by simp) (by omega)]
  rfl
theorem szStringS_l1_r (l : List ByteArray) : ∀ (v : Int), 0 ≤ v → v < 4294967296 → (∀ y ∈ l, y.size ≤ 9223372036854775807) → L_szStringS_l1 G.real TE.real l v = if v - (sumT (fun y => y.size) l : Nat) < 0 then .ret (-1) else .out (v - (sumT (fun y => y.size) l : Nat)) := by
  induction l with
  | nil =>
    intro v h0 h1 hw
    have hT : sumT (fun y => y.size) ([] : List ByteArray) = 0 := rfl
    rw [L_szStringS_l1, if_neg (by omega), hT]; simp
  | cons z l ih =>
    intro v h0 h1 hw
    rw [L_szStringS_l1]
    have hz := hw z (by simp)
    have hT : sumT (fun y => y.size) (z :: l) = z.size + sumT (fun y => y.size) l := by simp [sumT]
    simp only [R_int, R_slen, R_sub, R_lt]
    rw [w64 (by omega) (by omega)]
    simp only [br_dec]
    by_cases h : v - z.size < 0
    · rw [if_pos h, if_pos (by omega)]
    · rw [if_neg h, ih _ (by omega) (by omega) (fun y hy => hw y (by simp [hy])), hT]
      have e : v - z.size - (sumT (fun y => y.size) l : Nat) = v - ((z.size + sumT (fun y => y.size) l : Nat) : Int) := by omega
      rw [e]
theorem szStringS_r (l : List ByteArray) (v : Int) (h0 : 0 ≤ v) (h1 : v < 4294967296) (hw : l.length ≤ 9223372036854775807 ∧ ∀ y ∈ l, y.size ≤ 9223372036854775807) : L_szStringS G.real TE.real l v = szOut v (l.length + sumT (fun y => y.size) l) := by
  unfold L_szStringS
  have hw1 := hw.1
  simp only [llen_S, R_sub, R_lt]
  rw [w64 (by omega) (by omega)]
  simp only [br_dec, lP_eq]
  unfold szOut
  by_cases h : v - l.length < 0
  · rw [if_pos h, if_pos (by omega)]
  · rw [if_neg h, szStringS_l1_r l _ (by omega) (by omega) hw.2]
    have e : v - (l.length : Int) - (sumT (fun y => y.size) l : Nat) = v - ((l.length + sumT (fun y => y.size) l : Nat) : Int) := by omega
    rw [e]
    split <;> rfl
theorem toTripS_l1_r (l : List Trip) : ∀ (k : Nat) (w : List Trip), w.length = k + l.length → w.length < 4611686018427387904 → L_toTripS_l1 G.real TE.real l k w = some (w.take k ++ l) := by
  induction l with
  | nil => intro k w h hb; rw [L_toTripS_l1, List.take_of_length_le (by simp at h; omega)]; simp
  | cons z l ih =>
    intro k w h hb
    simp only [List.length_cons] at h
    have hk : k < w.length := by omega
    rw [L_toTripS_l1]
    simp only [toTrip_r, lP_eq, dlenx_Trip, R_nat, Int.toNat_natCast, R_add]
    rw [gd_true (by omega), gt_some (List.getElem?_eq_getElem hk), w64 (by omega) (by omega)]
    try simp only [lP_eq]
    rw [show (k : Int) + 1 = ((k + 1 : Nat) : Int) by omega, ih (k + 1) _ (by simp; omega) (by simpa using hb)]
    rw [List.take_add_one]
    simp [hk, List.take_set_of_le, List.append_assoc]
theorem toTripS_r (l : List Trip) (h : l.length ≤ 1048576) : L_toTripS G.real TE.real l = some l := by
  unfold L_toTripS
  simp only [llen_Trip, R_nat, Int.toNat_natCast, lP_eq]
  rw [gd_true (by omega), show (0 : Int) = ((0 : Nat) : Int) from rfl, toTripS_l1_r l 0 _ (by simp) (by simp; omega)]
  simp
theorem eqTripS_l1_r (a : List Trip) (l : List Trip) : ∀ (k : Nat), a.drop k = l → a.length < 4611686018427387904 → L_eqTripS_l1 G.real TE.real a l k = some (.out ()) := by
  induction l with
  | nil => intro k h hb; rw [L_eqTripS_l1]
  | cons z l ih =>
    intro k h hb
    have hk : k < a.length := by
      have := congrArg List.length h
      simp at this; omega
    have hz : a[k]? = some z := by
      have := congrArg (fun l => l[0]?) h
      simpa using this
    rw [L_eqTripS_l1]
    simp only [R_nat, Int.toNat_natCast, R_add]
    rw [gt_some hz]
    simp only [eqTrip_r, cl_some, lP_eq, br_t]
    rw [w64 (by omega) (by omega), show (k : Int) + 1 = ((k + 1 : Nat) : Int) by omega]
    exact ih (k + 1) (by rw [← List.drop_drop, h]; rfl) hb
theorem eqTripS_r (l : List Trip) (h : l.length ≤ 1048576) : L_eqTripS G.real TE.real l l = some true := by
  unfold L_eqTripS
  simp only [R_eq, decide_true, br_t]
  rw [show (0 : Int) = ((0 : Nat) : Int) from rfl, eqTripS_l1_r l l 0 (by simp) (by omega)]
  rfl
theorem szTripS_r (l : List Trip) (v : Int) (h0 : 0 ≤ v) (h1 : v < 4294967296) (hw : l.length ≤ 9223372036854775807) : L_szTripS G.real TE.real l v = szOut v l.length := by
  unfold L_szTripS
  simp only [llen_Trip, R_sub, R_lt]
  rw [w64 (by omega) (by omega)]
  unfold szOut
  by_cases h : v - l.length < 0 <;> simp [h]
theorem toBelief_r (x : Belief) (h : Belief.tot x ≤ 1048576) : L_toBelief G.real TE.real x = some x := by
  unfold Belief.tot at h
  simp only [L_toBelief, toStringS_r x.Places (by omega), toTripS_r x.Rides (by omega), cl_some, lP_eq]
theorem eqBelief_r (x : Belief) (h : Belief.tot x ≤ 1048576) : L_eqBelief G.real TE.real x x = some true := by
  unfold Belief.tot at h
  simp [L_eqBelief, eqStringS_r x.Places (by omega), eqTripS_r x.Rides (by omega)]
theorem szBelief_r (x : Belief) (v : Int) (h0 : 0 ≤ v) (h1 : v < 4294967296) (hw : Belief.wd x) : L_szBelief G.real TE.real x v = szOut v (Belief.tot x) := by
  unfold Belief.wd at hw
  unfold L_szBelief Belief.tot
  rw [szStringS_r x.Places _ (by omega) (by omega) hw.1]
  try simp only [lP_eq, R_lt, br_dec]
  by_cases g0 : szOut (v) ((x.Places.length + sumT (fun y => y.size) x.Places)) < 0
  · have q0 := szOut_neg g0; rw [if_pos g0]; unfold szOut; rw [if_pos (by omega)]
  have q0 := szOut_pos g0
  rw [if_neg g0, q0.1, show v - (((x.Places.length + sumT (fun y => y.size) x.Places) : Nat) : Int) = v - (((x.Places.length + sumT (fun y => y.size) x.Places) : Nat) : Int) by omega]
  rw [szTripS_r x.Rides _ (by omega) (by omega) hw.2]
  try simp only [lP_eq, R_lt, br_dec]
  by_cases g1 : szOut (v - (((x.Places.length + sumT (fun y => y.size) x.Places) : Nat) : Int)) (x.Rides.length) < 0
  · have q1 := szOut_neg g1; rw [if_pos g1]; unfold szOut; rw [if_pos (by omega)]
  · have q1 := szOut_pos g1; rw [if_neg g1]; try (rw [q1.1]; unfold szOut; rw [if_neg (by omega)]; try omega)
def Leg.tot (x : Leg) : Nat := x.From.size + x.To.size
def Leg.wd (x : Leg) : Prop := x.From.size ≤ 9223372036854775807 ∧ x.To.size ≤ 9223372036854775807
def Network.tot (x : Network) : Nat := (x.Legs.length + sumT (fun y => Leg.tot y) x.Legs) + x.Off.length
def Network.wd (x : Network) : Prop := (x.Legs.length ≤ 9223372036854775807 ∧ ∀ y ∈ x.Legs, Leg.wd y) ∧ x.Off.length ≤ 9223372036854775807
def Order.tot (x : Order) : Nat := x.From.size + x.To.size + x.Way.length + x.Place.size
def Order.wd (x : Order) : Prop := x.From.size ≤ 9223372036854775807 ∧ x.To.size ≤ 9223372036854775807 ∧ x.Way.length ≤ 9223372036854775807 ∧ x.Place.size ≤ 9223372036854775807
def World.tot (x : World) : Nat := Network.tot x.Network + (x.Orders.length + sumT (fun y => Order.tot y) x.Orders) + x.Bookings.length + x.Closed.length + (x.Scans.length + sumT (fun y => Scan.tot y) x.Scans) + x.Skip.length
def World.wd (x : World) : Prop := Network.wd x.Network ∧ (x.Orders.length ≤ 9223372036854775807 ∧ ∀ y ∈ x.Orders, Order.wd y) ∧ x.Bookings.length ≤ 9223372036854775807 ∧ x.Closed.length ≤ 9223372036854775807 ∧ (x.Scans.length ≤ 9223372036854775807 ∧ ∀ y ∈ x.Scans, Scan.wd y) ∧ x.Skip.length ≤ 9223372036854775807
theorem toLeg_r (x : Leg) (h : Leg.tot x ≤ 1048576) : L_toLeg G.real TE.real x = x := by
  unfold Leg.tot at h
  rfl
theorem eqLeg_r (x : Leg) (h : Leg.tot x ≤ 1048576) : L_eqLeg G.real TE.real x x = true := by
  unfold Leg.tot at h
  simp [L_eqLeg]
theorem szLeg_r (x : Leg) (v : Int) (h0 : 0 ≤ v) (h1 : v < 4294967296) (hw : Leg.wd x) : L_szLeg G.real TE.real x v = szOut v (Leg.tot x) := by
  unfold Leg.wd at hw
  unfold L_szLeg Leg.tot
  have hw0_ := hw.1
  try simp only [R_int, R_slen, R_sub]
  rw [w64 (by omega) (by omega)]
  try simp only [R_lt, br_dec]
  by_cases g0 : v - ((x.From.size : Nat) : Int) < 0
  · rw [if_pos g0]; unfold szOut; rw [if_pos (by omega)]
  rw [if_neg g0, show v - ((x.From.size : Nat) : Int) = v - ((x.From.size : Nat) : Int) by omega]
  have hw1_ := hw.2
  try simp only [R_int, R_slen, R_sub]
  rw [w64 (by omega) (by omega)]
  try simp only [R_lt, br_dec]
  by_cases g1 : v - ((x.From.size : Nat) : Int) - ((x.To.size : Nat) : Int) < 0
  · rw [if_pos g1]; unfold szOut; rw [if_pos (by omega)]
  · rw [if_neg g1]; unfold szOut; rw [if_neg (by omega)]; try omega
theorem toLegS_l1_r (l : List Leg) : ∀ (k : Nat) (w : List Leg), w.length = k + l.length → w.length < 4611686018427387904 → (∀ y ∈ l, Leg.tot y ≤ 1048576) → L_toLegS_l1 G.real TE.real l k w = some (w.take k ++ l) := by
  induction l with
  | nil => intro k w h hb hs; rw [L_toLegS_l1, List.take_of_length_le (by simp at h; omega)]; simp
  | cons z l ih =>
    intro k w h hb hs
    simp only [List.length_cons] at h
    have hk : k < w.length := by omega
    rw [L_toLegS_l1]
    simp only [toLeg_r z (hs z (by simp)), lP_eq, dlenx_Leg, R_nat, Int.toNat_natCast, R_add]
    rw [gd_true (by omega), gt_some (List.getElem?_eq_getElem hk), w64 (by omega) (by omega)]
    try simp only [lP_eq]
    rw [show (k : Int) + 1 = ((k + 1 : Nat) : Int) by omega, ih (k + 1) _ (by simp; omega) (by simpa using hb) (fun y hy => hs y (by simp [hy]))]
    rw [List.take_add_one]
    simp [hk, List.take_set_of_le, List.append_assoc]
theorem toLegS_r (l : List Leg) (h : l.length + sumT (fun y => Leg.tot y) l ≤ 1048576) : L_toLegS G.real TE.real l = some l := by
  unfold L_toLegS
  simp only [llen_Leg, R_nat, Int.toNat_natCast, lP_eq]
  rw [gd_true (by omega), show (0 : Int) = ((0 : Nat) : Int) from rfl, toLegS_l1_r l 0 _ (by simp) (by simp; omega) (fun y hy => by have := sumT_mem (fun y => Leg.tot y) hy; omega)]
  simp
theorem eqLegS_l1_r (a : List Leg) (l : List Leg) : ∀ (k : Nat), a.drop k = l → a.length < 4611686018427387904 → (∀ y ∈ l, Leg.tot y ≤ 1048576) → L_eqLegS_l1 G.real TE.real a l k = some (.out ()) := by
  induction l with
  | nil => intro k h hb hs; rw [L_eqLegS_l1]
  | cons z l ih =>
    intro k h hb hs
    have hk : k < a.length := by
      have := congrArg List.length h
      simp at this; omega
    have hz : a[k]? = some z := by
      have := congrArg (fun l => l[0]?) h
      simpa using this
    rw [L_eqLegS_l1]
    simp only [R_nat, Int.toNat_natCast, R_add]
    rw [gt_some hz]
    rw [eqLeg_r z (hs z (by simp))]
    simp only [cl_some, lP_eq, br_t]
    rw [w64 (by omega) (by omega), show (k : Int) + 1 = ((k + 1 : Nat) : Int) by omega]
    exact ih (k + 1) (by rw [← List.drop_drop, h]; rfl) hb (fun y hy => hs y (by simp [hy]))
theorem eqLegS_r (l : List Leg) (h : l.length + sumT (fun y => Leg.tot y) l ≤ 1048576) : L_eqLegS G.real TE.real l l = some true := by
  unfold L_eqLegS
  simp only [R_eq, decide_true, br_t]
  rw [show (0 : Int) = ((0 : Nat) : Int) from rfl, eqLegS_l1_r l l 0 (by simp) (by omega) (fun y hy => by have := sumT_mem (fun y => Leg.tot y) hy; omega)]
  rfl
theorem szLegS_l1_r (l : List Leg) : ∀ (v : Int), 0 ≤ v → v < 4294967296 → (∀ y ∈ l, Leg.wd y) → L_szLegS_l1 G.real TE.real l v = if v - (sumT (fun y => Leg.tot y) l : Nat) < 0 then .ret (-1) else .out (v - (sumT (fun y => Leg.tot y) l : Nat)) := by
  induction l with
  | nil =>
    intro v h0 h1 hw
    have hT : sumT (fun y => Leg.tot y) ([] : List Leg) = 0 := rfl
    rw [L_szLegS_l1, if_neg (by omega), hT]; simp
  | cons z l ih =>
    intro v h0 h1 hw
    rw [L_szLegS_l1]
    rw [szLeg_r z v h0 h1 (hw z (by simp))]
    have hT : sumT (fun y => Leg.tot y) (z :: l) = Leg.tot z + sumT (fun y => Leg.tot y) l := by simp [sumT]
    simp only [lP_eq, R_lt, br_dec]
    by_cases h : szOut v (Leg.tot z) < 0
    · have := szOut_neg h
      rw [if_pos h, if_pos (by omega)]
    · have := szOut_pos h
      rw [if_neg h, ih _ (by omega) (by omega) (fun y hy => hw y (by simp [hy])), this.1, hT]
      have e : v - (Leg.tot z : Nat) - (sumT (fun y => Leg.tot y) l : Nat) = v - ((Leg.tot z + sumT (fun y => Leg.tot y) l : Nat) : Int) := by omega
      rw [e]
theorem szLegS_r (l : List Leg) (v : Int) (h0 : 0 ≤ v) (h1 : v < 4294967296) (hw : l.length ≤ 9223372036854775807 ∧ ∀ y ∈ l, Leg.wd y) : L_szLegS G.real TE.real l v = szOut v (l.length + sumT (fun y => Leg.tot y) l) := by
  unfold L_szLegS
  have hw1 := hw.1
  simp only [llen_Leg, R_sub, R_lt]
  rw [w64 (by omega) (by omega)]
  simp only [br_dec, lP_eq]
  unfold szOut
  by_cases h : v - l.length < 0
  · rw [if_pos h, if_pos (by omega)]
  · rw [if_neg h, szLegS_l1_r l _ (by omega) (by omega) hw.2]
    have e : v - (l.length : Int) - (sumT (fun y => Leg.tot y) l : Nat) = v - ((l.length + sumT (fun y => Leg.tot y) l : Nat) : Int) := by omega
    rw [e]
    split <;> rfl
theorem toIntS_l1_r (l : List Int) : ∀ (k : Nat) (w : List Int), w.length = k + l.length → w.length < 4611686018427387904 → L_toIntS_l1 G.real TE.real l k w = some (w.take k ++ l) := by
  induction l with
  | nil => intro k w h hb; rw [L_toIntS_l1, List.take_of_length_le (by simp at h; omega)]; simp
  | cons z l ih =>
    intro k w h hb
    simp only [List.length_cons] at h
    have hk : k < w.length := by omega
    rw [L_toIntS_l1]
    simp only [dlenx_I64, R_nat, Int.toNat_natCast, R_add]
    rw [gd_true (by omega), gt_some (List.getElem?_eq_getElem hk), w64 (by omega) (by omega)]
    try simp only [lP_eq]
    rw [show (k : Int) + 1 = ((k + 1 : Nat) : Int) by omega, ih (k + 1) _ (by simp; omega) (by simpa using hb)]
    rw [List.take_add_one]
    simp [hk, List.take_set_of_le, List.append_assoc]
theorem toIntS_r (l : List Int) (h : l.length ≤ 1048576) : L_toIntS G.real TE.real l = some l := by
  unfold L_toIntS
  simp only [llen_I64, R_nat, Int.toNat_natCast, lP_eq]
  rw [gd_true (by omega), show (0 : Int) = ((0 : Nat) : Int) from rfl, toIntS_l1_r l 0 _ (by simp) (by simp; omega)]
  simp
theorem eqIntS_l1_r (a : List Int) (l : List Int) : ∀ (k : Nat), a.drop k = l → a.length < 4611686018427387904 → L_eqIntS_l1 G.real TE.real a l k = some (.out ()) := by
  induction l with
  | nil => intro k h hb; rw [L_eqIntS_l1]
  | cons z l ih =>
    intro k h hb
    have hk : k < a.length := by
      have := congrArg List.length h
      simp at this; omega
    have hz : a[k]? = some z := by
      have := congrArg (fun l => l[0]?) h
      simpa using this
    rw [L_eqIntS_l1]
    simp only [R_nat, Int.toNat_natCast, R_add]
    rw [gt_some hz]
    simp only [R_eq, R_seq, beq_self_eq_true, decide_true, br_t]
    rw [w64 (by omega) (by omega), show (k : Int) + 1 = ((k + 1 : Nat) : Int) by omega]
    exact ih (k + 1) (by rw [← List.drop_drop, h]; rfl) hb
theorem eqIntS_r (l : List Int) (h : l.length ≤ 1048576) : L_eqIntS G.real TE.real l l = some true := by
  unfold L_eqIntS
  simp only [R_eq, decide_true, br_t]
  rw [show (0 : Int) = ((0 : Nat) : Int) from rfl, eqIntS_l1_r l l 0 (by simp) (by omega)]
  rfl
theorem szIntS_r (l : List Int) (v : Int) (h0 : 0 ≤ v) (h1 : v < 4294967296) (hw : l.length ≤ 9223372036854775807) : L_szIntS G.real TE.real l v = szOut v l.length := by
  unfold L_szIntS
  simp only [llen_I64, R_sub, R_lt]
  rw [w64 (by omega) (by omega)]
  unfold szOut
  by_cases h : v - l.length < 0 <;> simp [h]
theorem toNetwork_r (x : Network) (h : Network.tot x ≤ 1048576) : L_toNetwork G.real TE.real x = some x := by
  unfold Network.tot at h
  simp only [L_toNetwork, toLegS_r x.Legs (by omega), toIntS_r x.Off (by omega), cl_some, lP_eq]
theorem eqNetwork_r (x : Network) (h : Network.tot x ≤ 1048576) : L_eqNetwork G.real TE.real x x = some true := by
  unfold Network.tot at h
  simp [L_eqNetwork, eqLegS_r x.Legs (by omega), eqIntS_r x.Off (by omega)]
theorem szNetwork_r (x : Network) (v : Int) (h0 : 0 ≤ v) (h1 : v < 4294967296) (hw : Network.wd x) : L_szNetwork G.real TE.real x v = szOut v (Network.tot x) := by
  unfold Network.wd at hw
  unfold L_szNetwork Network.tot
  rw [szLegS_r x.Legs _ (by omega) (by omega) hw.1]
  try simp only [lP_eq, R_lt, br_dec]
  by_cases g0 : szOut (v) ((x.Legs.length + sumT (fun y => Leg.tot y) x.Legs)) < 0
  · have q0 := szOut_neg g0; rw [if_pos g0]; unfold szOut; rw [if_pos (by omega)]
  have q0 := szOut_pos g0
  rw [if_neg g0, q0.1, show v - (((x.Legs.length + sumT (fun y => Leg.tot y) x.Legs) : Nat) : Int) = v - (((x.Legs.length + sumT (fun y => Leg.tot y) x.Legs) : Nat) : Int) by omega]
  rw [szIntS_r x.Off _ (by omega) (by omega) hw.2]
  try simp only [lP_eq, R_lt, br_dec]
  by_cases g1 : szOut (v - (((x.Legs.length + sumT (fun y => Leg.tot y) x.Legs) : Nat) : Int)) (x.Off.length) < 0
  · have q1 := szOut_neg g1; rw [if_pos g1]; unfold szOut; rw [if_pos (by omega)]
  · have q1 := szOut_pos g1; rw [if_neg g1]; try (rw [q1.1]; unfold szOut; rw [if_neg (by omega)]; try omega)
theorem toOrder_r (x : Order) (h : Order.tot x ≤ 1048576) : L_toOrder G.real TE.real x = some x := by
  unfold Order.tot at h
  simp only [L_toOrder, toTripS_r x.Way (by omega), cl_some, lP_eq]
theorem eqOrder_r (x : Order) (h : Order.tot x ≤ 1048576) : L_eqOrder G.real TE.real x x = some true := by
  unfold Order.tot at h
  simp [L_eqOrder, eqTripS_r x.Way (by omega)]
theorem szOrder_r (x : Order) (v : Int) (h0 : 0 ≤ v) (h1 : v < 4294967296) (hw : Order.wd x) : L_szOrder G.real TE.real x v = szOut v (Order.tot x) := by
  unfold Order.wd at hw
  unfold L_szOrder Order.tot
  have hw0_ := hw.1
  try simp only [R_int, R_slen, R_sub]
  rw [w64 (by omega) (by omega)]
  try simp only [R_lt, br_dec]
  by_cases g0 : v - ((x.From.size : Nat) : Int) < 0
  · rw [if_pos g0]; unfold szOut; rw [if_pos (by omega)]
  rw [if_neg g0, show v - ((x.From.size : Nat) : Int) = v - ((x.From.size : Nat) : Int) by omega]
  have hw1_ := hw.2.1
  try simp only [R_int, R_slen, R_sub]
  rw [w64 (by omega) (by omega)]
  try simp only [R_lt, br_dec]
  by_cases g1 : v - ((x.From.size : Nat) : Int) - ((x.To.size : Nat) : Int) < 0
  · rw [if_pos g1]; unfold szOut; rw [if_pos (by omega)]
  rw [if_neg g1, show v - ((x.From.size : Nat) : Int) - ((x.To.size : Nat) : Int) = v - ((x.From.size + x.To.size : Nat) : Int) by omega]
  rw [szTripS_r x.Way _ (by omega) (by omega) hw.2.2.1]
  try simp only [lP_eq, R_lt, br_dec]
  by_cases g2 : szOut (v - ((x.From.size + x.To.size : Nat) : Int)) (x.Way.length) < 0
  · have q2 := szOut_neg g2; rw [if_pos g2]; unfold szOut; rw [if_pos (by omega)]
  have q2 := szOut_pos g2
  rw [if_neg g2, q2.1, show v - ((x.From.size + x.To.size : Nat) : Int) - ((x.Way.length : Nat) : Int) = v - ((x.From.size + x.To.size + x.Way.length : Nat) : Int) by omega]
  have hw3_ := hw.2.2.2
  try simp only [R_int, R_slen, R_sub]
  rw [w64 (by omega) (by omega)]
  try simp only [R_lt, br_dec]
  by_cases g3 : v - ((x.From.size + x.To.size + x.Way.length : Nat) : Int) - ((x.Place.size : Nat) : Int) < 0
  · rw [if_pos g3]; unfold szOut; rw [if_pos (by omega)]
  · rw [if_neg g3]; unfold szOut; rw [if_neg (by omega)]; try omega
theorem toOrderS_l1_r (l : List Order) : ∀ (k : Nat) (w : List Order), w.length = k + l.length → w.length < 4611686018427387904 → (∀ y ∈ l, Order.tot y ≤ 1048576) → L_toOrderS_l1 G.real TE.real l k w = some (w.take k ++ l) := by
  induction l with
  | nil => intro k w h hb hs; rw [L_toOrderS_l1, List.take_of_length_le (by simp at h; omega)]; simp
  | cons z l ih =>
    intro k w h hb hs
    simp only [List.length_cons] at h
    have hk : k < w.length := by omega
    rw [L_toOrderS_l1]
    rw [toOrder_r z (hs z (by simp))]
    simp only [cl_some]
    simp only [dlenx_Order, R_nat, Int.toNat_natCast, R_add]
    rw [gd_true (by omega), gt_some (List.getElem?_eq_getElem hk), w64 (by omega) (by omega)]
    try simp only [lP_eq]
    rw [show (k : Int) + 1 = ((k + 1 : Nat) : Int) by omega, ih (k + 1) _ (by simp; omega) (by simpa using hb) (fun y hy => hs y (by simp [hy]))]
    rw [List.take_add_one]
    simp [hk, List.take_set_of_le, List.append_assoc]
theorem toOrderS_r (l : List Order) (h : l.length + sumT (fun y => Order.tot y) l ≤ 1048576) : L_toOrderS G.real TE.real l = some l := by
  unfold L_toOrderS
  simp only [llen_Order, R_nat, Int.toNat_natCast, lP_eq]
  rw [gd_true (by omega), show (0 : Int) = ((0 : Nat) : Int) from rfl, toOrderS_l1_r l 0 _ (by simp) (by simp; omega) (fun y hy => by have := sumT_mem (fun y => Order.tot y) hy; omega)]
  simp
theorem eqOrderS_l1_r (a : List Order) (l : List Order) : ∀ (k : Nat), a.drop k = l → a.length < 4611686018427387904 → (∀ y ∈ l, Order.tot y ≤ 1048576) → L_eqOrderS_l1 G.real TE.real a l k = some (.out ()) := by
  induction l with
  | nil => intro k h hb hs; rw [L_eqOrderS_l1]
  | cons z l ih =>
    intro k h hb hs
    have hk : k < a.length := by
      have := congrArg List.length h
      simp at this; omega
    have hz : a[k]? = some z := by
      have := congrArg (fun l => l[0]?) h
      simpa using this
    rw [L_eqOrderS_l1]
    simp only [R_nat, Int.toNat_natCast, R_add]
    rw [gt_some hz]
    rw [eqOrder_r z (hs z (by simp))]
    simp only [cl_some, lP_eq, br_t]
    rw [w64 (by omega) (by omega), show (k : Int) + 1 = ((k + 1 : Nat) : Int) by omega]
    exact ih (k + 1) (by rw [← List.drop_drop, h]; rfl) hb (fun y hy => hs y (by simp [hy]))
theorem eqOrderS_r (l : List Order) (h : l.length + sumT (fun y => Order.tot y) l ≤ 1048576) : L_eqOrderS G.real TE.real l l = some true := by
  unfold L_eqOrderS
  simp only [R_eq, decide_true, br_t]
  rw [show (0 : Int) = ((0 : Nat) : Int) from rfl, eqOrderS_l1_r l l 0 (by simp) (by omega) (fun y hy => by have := sumT_mem (fun y => Order.tot y) hy; omega)]
  rfl
theorem szOrderS_l1_r (l : List Order) : ∀ (v : Int), 0 ≤ v → v < 4294967296 → (∀ y ∈ l, Order.wd y) → L_szOrderS_l1 G.real TE.real l v = if v - (sumT (fun y => Order.tot y) l : Nat) < 0 then .ret (-1) else .out (v - (sumT (fun y => Order.tot y) l : Nat)) := by
  induction l with
  | nil =>
    intro v h0 h1 hw
    have hT : sumT (fun y => Order.tot y) ([] : List Order) = 0 := rfl
    rw [L_szOrderS_l1, if_neg (by omega), hT]; simp
  | cons z l ih =>
    intro v h0 h1 hw
    rw [L_szOrderS_l1]
    rw [szOrder_r z v h0 h1 (hw z (by simp))]
    have hT : sumT (fun y => Order.tot y) (z :: l) = Order.tot z + sumT (fun y => Order.tot y) l := by simp [sumT]
    simp only [lP_eq, R_lt, br_dec]
    by_cases h : szOut v (Order.tot z) < 0
    · have := szOut_neg h
      rw [if_pos h, if_pos (by omega)]
    · have := szOut_pos h
      rw [if_neg h, ih _ (by omega) (by omega) (fun y hy => hw y (by simp [hy])), this.1, hT]
      have e : v - (Order.tot z : Nat) - (sumT (fun y => Order.tot y) l : Nat) = v - ((Order.tot z + sumT (fun y => Order.tot y) l : Nat) : Int) := by omega
      rw [e]
theorem szOrderS_r (l : List Order) (v : Int) (h0 : 0 ≤ v) (h1 : v < 4294967296) (hw : l.length ≤ 9223372036854775807 ∧ ∀ y ∈ l, Order.wd y) : L_szOrderS G.real TE.real l v = szOut v (l.length + sumT (fun y => Order.tot y) l) := by
  unfold L_szOrderS
  have hw1 := hw.1
  simp only [llen_Order, R_sub, R_lt]
  rw [w64 (by omega) (by omega)]
  simp only [br_dec, lP_eq]
  unfold szOut
  by_cases h : v - l.length < 0
  · rw [if_pos h, if_pos (by omega)]
  · rw [if_neg h, szOrderS_l1_r l _ (by omega) (by omega) hw.2]
    have e : v - (l.length : Int) - (sumT (fun y => Order.tot y) l : Nat) = v - ((l.length + sumT (fun y => Order.tot y) l : Nat) : Int) := by omega
    rw [e]
    split <;> rfl
theorem toBooking_r (x : Booking) : L_toBooking G.real TE.real x = x := by
  rfl
theorem eqBooking_r (x : Booking) : L_eqBooking G.real TE.real x x = true := by
  simp [L_eqBooking, eqTrip_r x.Trip]
theorem toBookingS_l1_r (l : List Booking) : ∀ (k : Nat) (w : List Booking), w.length = k + l.length → w.length < 4611686018427387904 → L_toBookingS_l1 G.real TE.real l k w = some (w.take k ++ l) := by
  induction l with
  | nil => intro k w h hb; rw [L_toBookingS_l1, List.take_of_length_le (by simp at h; omega)]; simp
  | cons z l ih =>
    intro k w h hb
    simp only [List.length_cons] at h
    have hk : k < w.length := by omega
    rw [L_toBookingS_l1]
    simp only [toBooking_r, lP_eq, dlenx_Booking, R_nat, Int.toNat_natCast, R_add]
    rw [gd_true (by omega), gt_some (List.getElem?_eq_getElem hk), w64 (by omega) (by omega)]
    try simp only [lP_eq]
    rw [show (k : Int) + 1 = ((k + 1 : Nat) : Int) by omega, ih (k + 1) _ (by simp; omega) (by simpa using hb)]
    rw [List.take_add_one]
    simp [hk, List.take_set_of_le, List.append_assoc]
theorem toBookingS_r (l : List Booking) (h : l.length ≤ 1048576) : L_toBookingS G.real TE.real l = some l := by
  unfold L_toBookingS
  simp only [llen_Booking, R_nat, Int.toNat_natCast, lP_eq]
  rw [gd_true (by omega), show (0 : Int) = ((0 : Nat) : Int) from rfl, toBookingS_l1_r l 0 _ (by simp) (by simp; omega)]
  simp
theorem eqBookingS_l1_r (a : List Booking) (l : List Booking) : ∀ (k : Nat), a.drop k = l → a.length < 4611686018427387904 → L_eqBookingS_l1 G.real TE.real a l k = some (.out ()) := by
  induction l with
  | nil => intro k h hb; rw [L_eqBookingS_l1]
  | cons z l ih =>
    intro k h hb
    have hk : k < a.length := by
      have := congrArg List.length h
      simp at this; omega
    have hz : a[k]? = some z := by
      have := congrArg (fun l => l[0]?) h
      simpa using this
    rw [L_eqBookingS_l1]
    simp only [R_nat, Int.toNat_natCast, R_add]
    rw [gt_some hz]
    simp only [eqBooking_r, cl_some, lP_eq, br_t]
    rw [w64 (by omega) (by omega), show (k : Int) + 1 = ((k + 1 : Nat) : Int) by omega]
    exact ih (k + 1) (by rw [← List.drop_drop, h]; rfl) hb
theorem eqBookingS_r (l : List Booking) (h : l.length ≤ 1048576) : L_eqBookingS G.real TE.real l l = some true := by
  unfold L_eqBookingS
  simp only [R_eq, decide_true, br_t]
  rw [show (0 : Int) = ((0 : Nat) : Int) from rfl, eqBookingS_l1_r l l 0 (by simp) (by omega)]
  rfl
theorem szBookingS_r (l : List Booking) (v : Int) (h0 : 0 ≤ v) (h1 : v < 4294967296) (hw : l.length ≤ 9223372036854775807) : L_szBookingS G.real TE.real l v = szOut v l.length := by
  unfold L_szBookingS
  simp only [llen_Booking, R_sub, R_lt]
  rw [w64 (by omega) (by omega)]
  unfold szOut
  by_cases h : v - l.length < 0 <;> simp [h]
theorem toScanS_l1_r (l : List Scan) : ∀ (k : Nat) (w : List Scan), w.length = k + l.length → w.length < 4611686018427387904 → (∀ y ∈ l, Scan.tot y ≤ 1048576) → L_toScanS_l1 G.real TE.real l k w = some (w.take k ++ l) := by
  induction l with
  | nil => intro k w h hb hs; rw [L_toScanS_l1, List.take_of_length_le (by simp at h; omega)]; simp
  | cons z l ih =>
    intro k w h hb hs
    simp only [List.length_cons] at h
    have hk : k < w.length := by omega
    rw [L_toScanS_l1]
    simp only [toScan_r z (hs z (by simp)), lP_eq, dlenx_Scan, R_nat, Int.toNat_natCast, R_add]
    rw [gd_true (by omega), gt_some (List.getElem?_eq_getElem hk), w64 (by omega) (by omega)]
    try simp only [lP_eq]
    rw [show (k : Int) + 1 = ((k + 1 : Nat) : Int) by omega, ih (k + 1) _ (by simp; omega) (by simpa using hb) (fun y hy => hs y (by simp [hy]))]
    rw [List.take_add_one]
    simp [hk, List.take_set_of_le, List.append_assoc]
theorem toScanS_r (l : List Scan) (h : l.length + sumT (fun y => Scan.tot y) l ≤ 1048576) : L_toScanS G.real TE.real l = some l := by
  unfold L_toScanS
  simp only [llen_Scan, R_nat, Int.toNat_natCast, lP_eq]
  rw [gd_true (by omega), show (0 : Int) = ((0 : Nat) : Int) from rfl, toScanS_l1_r l 0 _ (by simp) (by simp; omega) (fun y hy => by have := sumT_mem (fun y => Scan.tot y) hy; omega)]
  simp
theorem eqScanS_l1_r (a : List Scan) (l : List Scan) : ∀ (k : Nat), a.drop k = l → a.length < 4611686018427387904 → (∀ y ∈ l, Scan.tot y ≤ 1048576) → L_eqScanS_l1 G.real TE.real a l k = some (.out ()) := by
  induction l with
  | nil => intro k h hb hs; rw [L_eqScanS_l1]
  | cons z l ih =>
    intro k h hb hs
    have hk : k < a.length := by
      have := congrArg List.length h
      simp at this; omega
    have hz : a[k]? = some z := by
      have := congrArg (fun l => l[0]?) h
      simpa using this
    rw [L_eqScanS_l1]
    simp only [R_nat, Int.toNat_natCast, R_add]
    rw [gt_some hz]
    rw [eqScan_r z (hs z (by simp))]
    simp only [cl_some, lP_eq, br_t]
    rw [w64 (by omega) (by omega), show (k : Int) + 1 = ((k + 1 : Nat) : Int) by omega]
    exact ih (k + 1) (by rw [← List.drop_drop, h]; rfl) hb (fun y hy => hs y (by simp [hy]))
theorem eqScanS_r (l : List Scan) (h : l.length + sumT (fun y => Scan.tot y) l ≤ 1048576) : L_eqScanS G.real TE.real l l = some true := by
  unfold L_eqScanS
  simp only [R_eq, decide_true, br_t]
  rw [show (0 : Int) = ((0 : Nat) : Int) from rfl, eqScanS_l1_r l l 0 (by simp) (by omega) (fun y hy => by have := sumT_mem (fun y => Scan.tot y) hy; omega)]
  rfl
theorem szScanS_l1_r (l : List Scan) : ∀ (v : Int), 0 ≤ v → v < 4294967296 → (∀ y ∈ l, Scan.wd y) → L_szScanS_l1 G.real TE.real l v = if v - (sumT (fun y => Scan.tot y) l : Nat) < 0 then .ret (-1) else .out (v - (sumT (fun y => Scan.tot y) l : Nat)) := by
  induction l with
  | nil =>
    intro v h0 h1 hw
    have hT : sumT (fun y => Scan.tot y) ([] : List Scan) = 0 := rfl
    rw [L_szScanS_l1, if_neg (by omega), hT]; simp
  | cons z l ih =>
    intro v h0 h1 hw
    rw [L_szScanS_l1]
    rw [szScan_r z v h0 h1 (hw z (by simp))]
    have hT : sumT (fun y => Scan.tot y) (z :: l) = Scan.tot z + sumT (fun y => Scan.tot y) l := by simp [sumT]
    simp only [lP_eq, R_lt, br_dec]
    by_cases h : szOut v (Scan.tot z) < 0
    · have := szOut_neg h
      rw [if_pos h, if_pos (by omega)]
    · have := szOut_pos h
      rw [if_neg h, ih _ (by omega) (by omega) (fun y hy => hw y (by simp [hy])), this.1, hT]
      have e : v - (Scan.tot z : Nat) - (sumT (fun y => Scan.tot y) l : Nat) = v - ((Scan.tot z + sumT (fun y => Scan.tot y) l : Nat) : Int) := by omega
      rw [e]
theorem szScanS_r (l : List Scan) (v : Int) (h0 : 0 ≤ v) (h1 : v < 4294967296) (hw : l.length ≤ 9223372036854775807 ∧ ∀ y ∈ l, Scan.wd y) : L_szScanS G.real TE.real l v = szOut v (l.length + sumT (fun y => Scan.tot y) l) := by
  unfold L_szScanS
  have hw1 := hw.1
  simp only [llen_Scan, R_sub, R_lt]
  rw [w64 (by omega) (by omega)]
  simp only [br_dec, lP_eq]
  unfold szOut
  by_cases h : v - l.length < 0
  · rw [if_pos h, if_pos (by omega)]
  · rw [if_neg h, szScanS_l1_r l _ (by omega) (by omega) hw.2]
    have e : v - (l.length : Int) - (sumT (fun y => Scan.tot y) l : Nat) = v - ((l.length + sumT (fun y => Scan.tot y) l : Nat) : Int) := by omega
    rw [e]
    split <;> rfl
theorem toWorld_r (x : World) (h : World.tot x ≤ 1048576) : L_toWorld G.real TE.real x = some x := by
  unfold World.tot at h
  simp only [L_toWorld, toNetwork_r x.Network (by omega), toOrderS_r x.Orders (by omega), toBookingS_r x.Bookings (by omega), toTripS_r x.Closed (by omega), toScanS_r x.Scans (by omega), toIntS_r x.Skip (by omega), cl_some, lP_eq]
theorem eqWorld_r (x : World) (h : World.tot x ≤ 1048576) : L_eqWorld G.real TE.real x x = some true := by
  unfold World.tot at h
  simp [L_eqWorld, eqNetwork_r x.Network (by omega), eqOrderS_r x.Orders (by omega), eqBookingS_r x.Bookings (by omega), eqTripS_r x.Closed (by omega), eqScanS_r x.Scans (by omega), eqIntS_r x.Skip (by omega)]
theorem szWorld_r (x : World) (v : Int) (h0 : 0 ≤ v) (h1 : v < 4294967296) (hw : World.wd x) : L_szWorld G.real TE.real x v = szOut v (World.tot x) := by
  unfold World.wd at hw
  unfold L_szWorld World.tot
  rw [szNetwork_r x.Network _ (by omega) (by omega) hw.1]
  try simp only [lP_eq, R_lt, br_dec]
  by_cases g0 : szOut (v) (Network.tot x.Network) < 0
  · have q0 := szOut_neg g0; rw [if_pos g0]; unfold szOut; rw [if_pos (by omega)]
  have q0 := szOut_pos g0
  rw [if_neg g0, q0.1, show v - ((Network.tot x.Network : Nat) : Int) = v - ((Network.tot x.Network : Nat) : Int) by omega]
  rw [szOrderS_r x.Orders _ (by omega) (by omega) hw.2.1]
  try simp only [lP_eq, R_lt, br_dec]
  by_cases g1 : szOut (v - ((Network.tot x.Network : Nat) : Int)) ((x.Orders.length + sumT (fun y => Order.tot y) x.Orders)) < 0
  · have q1 := szOut_neg g1; rw [if_pos g1]; unfold szOut; rw [if_pos (by omega)]
  have q1 := szOut_pos g1
  rw [if_neg g1, q1.1, show v - ((Network.tot x.Network : Nat) : Int) - (((x.Orders.length + sumT (fun y => Order.tot y) x.Orders) : Nat) : Int) = v - ((Network.tot x.Network + (x.Orders.length + sumT (fun y => Order.tot y) x.Orders) : Nat) : Int) by omega]
  rw [szBookingS_r x.Bookings _ (by omega) (by omega) hw.2.2.1]
  try simp only [lP_eq, R_lt, br_dec]
  by_cases g2 : szOut (v - ((Network.tot x.Network + (x.Orders.length + sumT (fun y => Order.tot y) x.Orders) : Nat) : Int)) (x.Bookings.length) < 0
  · have q2 := szOut_neg g2; rw [if_pos g2]; unfold szOut; rw [if_pos (by omega)]
  have q2 := szOut_pos g2
  rw [if_neg g2, q2.1, show v - ((Network.tot x.Network + (x.Orders.length + sumT (fun y => Order.tot y) x.Orders) : Nat) : Int) - ((x.Bookings.length : Nat) : Int) = v - ((Network.tot x.Network + (x.Orders.length + sumT (fun y => Order.tot y) x.Orders) + x.Bookings.length : Nat) : Int) by omega]
  rw [szTripS_r x.Closed _ (by omega) (by omega) hw.2.2.2.1]
  try simp only [lP_eq, R_lt, br_dec]
  by_cases g3 : szOut (v - ((Network.tot x.Network + (x.Orders.length + sumT (fun y => Order.tot y) x.Orders) + x.Bookings.length : Nat) : Int)) (x.Closed.length) < 0
  · have q3 := szOut_neg g3; rw [if_pos g3]; unfold szOut; rw [if_pos (by omega)]
  have q3 := szOut_pos g3
  rw [if_neg g3, q3.1, show v - ((Network.tot x.Network + (x.Orders.length + sumT (fun y => Order.tot y) x.Orders) + x.Bookings.length : Nat) : Int) - ((x.Closed.length : Nat) : Int) = v - ((Network.tot x.Network + (x.Orders.length + sumT (fun y => Order.tot y) x.Orders) + x.Bookings.length + x.Closed.length : Nat) : Int) by omega]
  rw [szScanS_r x.Scans _ (by omega) (by omega) hw.2.2.2.2.1]
  try simp only [lP_eq, R_lt, br_dec]
  by_cases g4 : szOut (v - ((Network.tot x.Network + (x.Orders.length + sumT (fun y => Order.tot y) x.Orders) + x.Bookings.length + x.Closed.length : Nat) : Int)) ((x.Scans.length + sumT (fun y => Scan.tot y) x.Scans)) < 0
  · have q4 := szOut_neg g4; rw [if_pos g4]; unfold szOut; rw [if_pos (by omega)]
  have q4 := szOut_pos g4
  rw [if_neg g4, q4.1, show v - ((Network.tot x.Network + (x.Orders.length + sumT (fun y => Order.tot y) x.Orders) + x.Bookings.length + x.Closed.length : Nat) : Int) - (((x.Scans.length + sumT (fun y => Scan.tot y) x.Scans) : Nat) : Int) = v - ((Network.tot x.Network + (x.Orders.length + sumT (fun y => Order.tot y) x.Orders) + x.Bookings.length + x.Closed.length + (x.Scans.length + sumT (fun y => Scan.tot y) x.Scans) : Nat) : Int) by omega]
  rw [szIntS_r x.Skip _ (by omega) (by omega) hw.2.2.2.2.2]
  try simp only [lP_eq, R_lt, br_dec]
  by_cases g5 : szOut (v - ((Network.tot x.Network + (x.Orders.length + sumT (fun y => Order.tot y) x.Orders) + x.Bookings.length + x.Closed.length + (x.Scans.length + sumT (fun y => Scan.tot y) x.Scans) : Nat) : Int)) (x.Skip.length) < 0
  · have q5 := szOut_neg g5; rw [if_pos g5]; unfold szOut; rw [if_pos (by omega)]
  · have q5 := szOut_pos g5; rw [if_neg g5]; try (rw [q5.1]; unfold szOut; rw [if_neg (by omega)]; try omega)
end Go.Vs
