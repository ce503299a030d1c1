/- The law FnExactCanFollow holds: whatever its arguments, the call returns true and leaves them as they were. No condition. -/
import Derived.Test.YtilplaaijbpilaaNet
import Derived.Test.YtilplaaijbpilaaLac
import Derived.Test.YtilplaaijbpilaaLaa
import Derived.Test.YtilplaaijbpilaaLad
import Derived.Test.YtilplaaijbpilaaLab
import Derived.Test.YtilplaaijbpilaaWays
import Derived.Test.YtilplaaijbpilaaHb
import Derived.Test.YtilplaaijbpilaaIs
import Derived.Test.YtilplaaijbpilaaOrder
import Derived.Test.YtilplaaijbpilaaRows
set_option linter.unusedVariables false
set_option linter.unusedSimpArgs false
set_option linter.unusedSectionVars false
/- Scans: which are valid, where they put a thing. -/
namespace Go.Vs
open Go.IntWalk
def scB (n : Network) (s : Scan) : Bool :=
  netB n && (decide (1 ≤ s.Thing ∧ s.Thing ≤ 9999) && (decide (0 ≤ s.At ∧ s.At ≤ 100000) &&
  (if s.Kind = 1 ∨ s.Kind = 4 then decide (s.Place ∈ plc n) && decide (s.Trip.Leg = 0 ∧ s.Trip.Day = 0)
   else if s.Kind = 3 then decide (s.Place = str_k0) && (runsB n s.Trip.Leg s.Trip.Day && decide (s.At ≤ stN n s.Trip.Leg s.Trip.Day))
   else if s.Kind = 2 then decide (s.Place = str_k0) && (runsB n s.Trip.Leg s.Trip.Day && decide (enN n s.Trip.Leg s.Trip.Day ≤ s.At)) else false)))
theorem sc_i {n : Network} (ht : n.tot ≤ 1048576) (s : Scan) : I_IsScan G.real TE.real n s = some (scB n s) := by
  unfold I_IsScan scB
  rw [net_i ht]
  cases hb : netB n with
  | false => rfl
  | true =>
    have hn := net_ok ht hb
    have hl := hn.len
    have pl := plc_len n
    have htr : ∀ q : Trip, I_IsTrip G.real TE.real n q = some (runsB n q.Leg q.Day) := fun q => by rw [trip_i ht]; unfold tripB; rw [hb]; rfl
    simp only [cl_some, br_t, lP_eq, within_r, br_dec, R_eq, R_le, R_seqd, R_all, Bool.true_and, htr]
    rw [plc_i (by omega)]
    simp only [cl_some, pAt_i (show (plc n).length ≤ 4194304 by omega), ix_nonneg]
    by_cases h1 : 1 ≤ s.Thing ∧ s.Thing ≤ 9999
    · rw [if_pos h1, decide_eq_true h1, Bool.true_and]
      by_cases h2 : 0 ≤ s.At ∧ s.At ≤ 100000
      · rw [if_pos h2, decide_eq_true h2, Bool.true_and]
        have hal : (List.all [decide (s.Trip.Leg = 0), decide (s.Trip.Day = 0)] id) = decide (s.Trip.Leg = 0 ∧ s.Trip.Day = 0) := by simp
        by_cases k1 : s.Kind = 1
        · rw [if_pos k1, if_pos (c := s.Kind = 1 ∨ s.Kind = 4) (.inl k1), hal]
          by_cases hp : s.Place ∈ plc n
          · rw [if_pos hp, decide_eq_true hp]; rfl
          · rw [if_neg hp, decide_eq_false hp]; rfl
        · rw [if_neg k1]
          by_cases k4 : s.Kind = 4
          · rw [if_pos k4, if_pos (c := s.Kind = 1 ∨ s.Kind = 4) (.inr k4), hal]
            by_cases hp : s.Place ∈ plc n
            · rw [if_pos hp, decide_eq_true hp]; rfl
            · rw [if_neg hp, decide_eq_false hp]; rfl
          · rw [if_neg k4, if_neg (c := s.Kind = 1 ∨ s.Kind = 4) (fun h => h.elim k1 k4)]
            by_cases k3 : s.Kind = 3
            · rw [if_pos k3, if_pos k3]
              by_cases hp : s.Place = str_k0
              · rw [if_pos hp, decide_eq_true hp, Bool.true_and]
                cases hr : runsB n s.Trip.Leg s.Trip.Day with
                | false => rfl
                | true =>
                  obtain ⟨r1, r2, r3, r4⟩ := runs_ok (n := n) (by omega) hr
                  rw [br_t, start_i hn r1 r2 r3 r4]; rfl
              · rw [if_neg hp, decide_eq_false hp]; rfl
            · rw [if_neg k3, if_neg k3]
              by_cases k2 : s.Kind = 2
              · rw [if_pos k2, if_pos k2]
                by_cases hp : s.Place = str_k0
                · rw [if_pos hp, decide_eq_true hp, Bool.true_and]
                  cases hr : runsB n s.Trip.Leg s.Trip.Day with
                  | false => rfl
                  | true =>
                    obtain ⟨r1, r2, r3, r4⟩ := runs_ok (n := n) (by omega) hr
                    rw [br_t, end_i hn r1 r2 r3 r4]; rfl
                · rw [if_neg hp, decide_eq_false hp]; rfl
              · rw [if_neg k2, if_neg k2]
      · rw [if_neg h2, decide_eq_false h2]; rfl
    · rw [if_neg h1, decide_eq_false h1]; rfl
theorem sc_s {n : Network} (ht : n.tot ≤ 1048576) (s : Scan) : S_IsScan G.real TE.real n s = some (scB n s) := by
  unfold S_IsScan scB
  rw [net_s ht]
  cases hb : netB n with
  | false => rfl
  | true =>
    have hn := net_ok ht hb
    have hl := hn.len
    have pl := plc_len n
    have htr : ∀ q : Trip, S_IsTrip G.real TE.real n q = some (runsB n q.Leg q.Day) := fun q => by rw [trip_s ht]; unfold tripB; rw [hb]; rfl
    simp only [cl_some, br_t, lP_eq, l1In_r, br_dec, R_eq, R_le, R_seqd, R_all, Bool.true_and, htr]
    rw [plc_s (by omega)]
    simp only [cl_some, pAt_s (show (plc n).length ≤ 4194304 by omega), ix_nonneg]
    by_cases h1 : 1 ≤ s.Thing ∧ s.Thing ≤ 9999
    · rw [if_pos h1, decide_eq_true h1, Bool.true_and]
      by_cases h2 : 0 ≤ s.At ∧ s.At ≤ 100000
      · rw [if_pos h2, decide_eq_true h2, Bool.true_and]
        have hal : (List.all [decide (s.Trip.Leg = 0), decide (s.Trip.Day = 0)] id) = decide (s.Trip.Leg = 0 ∧ s.Trip.Day = 0) := by simp
        by_cases k1 : s.Kind = 1
        · rw [if_pos k1, if_pos (c := s.Kind = 1 ∨ s.Kind = 4) (.inl k1), hal]
          by_cases hp : s.Place ∈ plc n
          · rw [if_pos hp, decide_eq_true hp]; rfl
          · rw [if_neg hp, decide_eq_false hp]; rfl
        · rw [if_neg k1]
          by_cases k4 : s.Kind = 4
          · rw [if_pos k4, if_pos (c := s.Kind = 1 ∨ s.Kind = 4) (.inr k4), hal]
            by_cases hp : s.Place ∈ plc n
            · rw [if_pos hp, decide_eq_true hp]; rfl
            · rw [if_neg hp, decide_eq_false hp]; rfl
          · rw [if_neg k4, if_neg (c := s.Kind = 1 ∨ s.Kind = 4) (fun h => h.elim k1 k4)]
            by_cases k3 : s.Kind = 3
            · rw [if_pos k3, if_pos k3]
              by_cases hp : s.Place = str_k0
              · rw [if_pos hp, decide_eq_true hp, Bool.true_and]
                cases hr : runsB n s.Trip.Leg s.Trip.Day with
                | false => rfl
                | true =>
                  obtain ⟨r1, r2, r3, r4⟩ := runs_ok (n := n) (by omega) hr
                  rw [br_t, start_s hn r1 r2 r3 r4]; rfl
              · rw [if_neg hp, decide_eq_false hp]; rfl
            · rw [if_neg k3, if_neg k3]
              by_cases k2 : s.Kind = 2
              · rw [if_pos k2, if_pos k2]
                by_cases hp : s.Place = str_k0
                · rw [if_pos hp, decide_eq_true hp, Bool.true_and]
                  cases hr : runsB n s.Trip.Leg s.Trip.Day with
                  | false => rfl
                  | true =>
                    obtain ⟨r1, r2, r3, r4⟩ := runs_ok (n := n) (by omega) hr
                    rw [br_t, end_s hn r1 r2 r3 r4]; rfl
                · rw [if_neg hp, decide_eq_false hp]; rfl
              · rw [if_neg k2, if_neg k2]
      · rw [if_neg h2, decide_eq_false h2]; rfl
    · rw [if_neg h1, decide_eq_false h1]; rfl
structure ScOk (n : Network) (s : Scan) : Prop where
  net : netB n = true
  thing : 1 ≤ s.Thing ∧ s.Thing ≤ 9999
  time : 0 ≤ s.At ∧ s.At ≤ 100000
  kind : s.Kind = 1 ∨ s.Kind = 2 ∨ s.Kind = 3 ∨ s.Kind = 4
  at_ : s.Kind = 1 ∨ s.Kind = 4 → s.Place ∈ plc n ∧ s.Trip.Leg = 0 ∧ s.Trip.Day = 0
  load : s.Kind = 3 → s.Place = str_k0 ∧ runsB n s.Trip.Leg s.Trip.Day = true ∧ s.At ≤ stN n s.Trip.Leg s.Trip.Day
  drop : s.Kind = 2 → s.Place = str_k0 ∧ runsB n s.Trip.Leg s.Trip.Day = true ∧ enN n s.Trip.Leg s.Trip.Day ≤ s.At
theorem sc_ok {n : Network} {s : Scan} (h : scB n s = true) : ScOk n s := by
  unfold scB at h
  simp only [Bool.and_eq_true, decide_eq_true_eq] at h
  obtain ⟨h1, h2, h3, h4⟩ := h
  by_cases k1 : s.Kind = 1 ∨ s.Kind = 4
  · rw [if_pos k1] at h4
    simp only [Bool.and_eq_true, decide_eq_true_eq] at h4
    exact ⟨h1, h2, h3, by omega, fun _ => h4, fun h => by omega, fun h => by omega⟩
  · rw [if_neg k1] at h4
    by_cases k3 : s.Kind = 3
    · rw [if_pos k3] at h4
      simp only [Bool.and_eq_true, decide_eq_true_eq] at h4
      exact ⟨h1, h2, h3, by omega, fun h => absurd h k1, fun _ => h4, fun h => by omega⟩
    · rw [if_neg k3] at h4
      by_cases k2 : s.Kind = 2
      · rw [if_pos k2] at h4
        simp only [Bool.and_eq_true, decide_eq_true_eq] at h4
        exact ⟨h1, h2, h3, by omega, fun h => absurd h k1, fun h => absurd h k3, fun _ => h4⟩
      · rw [if_neg k2] at h4; cases h4
/-- the trip of a scan that speaks of one -/
theorem sc_trip {n : Network} (ht : n.tot ≤ 1048576) {s : Scan} (h : ScOk n s) (hk : s.Kind = 3 ∨ s.Kind = 2) : NetOk n ∧ runsB n s.Trip.Leg s.Trip.Day = true ∧ 0 ≤ s.Trip.Leg ∧ s.Trip.Leg < n.Legs.length ∧ 0 ≤ s.Trip.Day ∧ s.Trip.Day ≤ 60 := by
  have hn := net_ok ht h.net
  have hl := hn.len
  have hr : runsB n s.Trip.Leg s.Trip.Day = true := by
    rcases hk with hk | hk
    · exact (h.load hk).2.1
    · exact (h.drop hk).2.1
  obtain ⟨r1, r2, r3, r4⟩ := runs_ok (n := n) (by omega) hr
  exact ⟨hn, hr, r1, r2, r3, r4⟩
def plB (n : Network) (s : Scan) : ByteArray := if scB n s = true then (if s.Kind = 3 then (lgOf n s.Trip.Leg).From else if s.Kind = 2 then (lgOf n s.Trip.Leg).To else s.Place) else str_k0
def bhB (n : Network) (s : Scan) : Spot := if scB n s = true then (if s.Kind = 3 then ⟨(lgOf n s.Trip.Leg).To, enN n s.Trip.Leg s.Trip.Day⟩ else ⟨plB n s, s.At⟩) else ⟨.empty, 0⟩
def bfB (n : Network) (s : Scan) : Spot := if scB n s = true then (if s.Kind = 3 ∨ s.Kind = 2 then ⟨(lgOf n s.Trip.Leg).From, stN n s.Trip.Leg s.Trip.Day⟩ else ⟨s.Place, s.At⟩) else ⟨.empty, 0⟩
theorem pl_i {n : Network} (ht : n.tot ≤ 1048576) (s : Scan) : I_PlaceOf G.real TE.real n s = some (plB n s) := by
  unfold I_PlaceOf plB
  rw [sc_i ht]
  cases hb : scB n s with
  | false => simp
  | true =>
    have hk := sc_ok hb
    simp only [cl_some, br_t, R_eq, br_dec, R_nat, if_true]
    by_cases k3 : s.Kind = 3
    · obtain ⟨_, _, r1, r2, _⟩ := sc_trip ht hk (.inl k3)
      rw [if_pos k3, if_pos k3, gd_true r1, gt_some (lg_get r1 r2)]
    · rw [if_neg k3, if_neg k3]
      by_cases k2 : s.Kind = 2
      · obtain ⟨_, _, r1, r2, _⟩ := sc_trip ht hk (.inr k2)
        rw [if_pos k2, if_pos k2, gd_true r1, gt_some (lg_get r1 r2)]
      · rw [if_neg k2, if_neg k2]
theorem bh_i {n : Network} (ht : n.tot ≤ 1048576) (s : Scan) : I_SpotBehind G.real TE.real n s = some (bhB n s) := by
  unfold I_SpotBehind bhB
  rw [sc_i ht, pl_i ht]
  cases hb : scB n s with
  | false => simp
  | true =>
    have hk := sc_ok hb
    simp only [cl_some, br_t, R_eq, br_dec, R_nat, if_true]
    by_cases k3 : s.Kind = 3
    · obtain ⟨hn, _, r1, r2, r3, r4⟩ := sc_trip ht hk (.inl k3)
      rw [if_pos k3, if_pos k3, gd_true r1, gt_some (lg_get r1 r2), end_i hn r1 r2 r3 r4]; rfl
    · rw [if_neg k3, if_neg k3]
theorem bf_i {n : Network} (ht : n.tot ≤ 1048576) (s : Scan) : I_SpotBefore G.real TE.real n s = some (bfB n s) := by
  unfold I_SpotBefore bfB
  rw [sc_i ht]
  cases hb : scB n s with
  | false => simp
  | true =>
    have hk := sc_ok hb
    simp only [cl_some, br_t, R_eq, br_dec, R_nat, if_true]
    by_cases k3 : s.Kind = 3
    · obtain ⟨hn, _, r1, r2, r3, r4⟩ := sc_trip ht hk (.inl k3)
      rw [if_pos k3, if_pos (.inl k3), gd_true r1, gt_some (lg_get r1 r2), start_i hn r1 r2 r3 r4]; rfl
    · rw [if_neg k3]
      by_cases k2 : s.Kind = 2
      · obtain ⟨hn, _, r1, r2, r3, r4⟩ := sc_trip ht hk (.inr k2)
        rw [if_pos k2, if_pos (.inr k2), gd_true r1, gt_some (lg_get r1 r2), start_i hn r1 r2 r3 r4]; rfl
      · rw [if_neg k2, if_neg (fun h => h.elim k3 k2)]
theorem pl_s {n : Network} (ht : n.tot ≤ 1048576) (s : Scan) : S_PlaceOf G.real TE.real n s = some (plB n s) := by
  unfold S_PlaceOf plB
  rw [sc_s ht]
  cases hb : scB n s with
  | false => simp
  | true =>
    have hk := sc_ok hb
    simp only [cl_some, br_t, R_eq, br_dec, R_nat, if_true]
    by_cases k3 : s.Kind = 3
    · obtain ⟨_, _, r1, r2, _⟩ := sc_trip ht hk (.inl k3)
      rw [if_pos k3, if_pos k3, gd_true r1, gt_some (lg_get r1 r2)]
    · rw [if_neg k3, if_neg k3]
      by_cases k2 : s.Kind = 2
      · obtain ⟨_, _, r1, r2, _⟩ := sc_trip ht hk (.inr k2)
        rw [if_pos k2, if_pos k2, gd_true r1, gt_some (lg_get r1 r2)]
      · rw [if_neg k2, if_neg k2]
theorem bh_s {n : Network} (ht : n.tot ≤ 1048576) (s : Scan) : S_SpotBehind G.real TE.real n s = some (bhB n s) := by
  unfold S_SpotBehind bhB
  rw [sc_s ht, pl_s ht]
  cases hb : scB n s with
  | false => simp
  | true =>
    have hk := sc_ok hb
    simp only [cl_some, br_t, R_eq, br_dec, R_nat, if_true]
    by_cases k3 : s.Kind = 3
    · obtain ⟨hn, _, r1, r2, r3, r4⟩ := sc_trip ht hk (.inl k3)
      rw [if_pos k3, if_pos k3, gd_true r1, gt_some (lg_get r1 r2), end_s hn r1 r2 r3 r4]; rfl
    · rw [if_neg k3, if_neg k3]
theorem bf_s {n : Network} (ht : n.tot ≤ 1048576) (s : Scan) : S_SpotBefore G.real TE.real n s = some (bfB n s) := by
  unfold S_SpotBefore bfB
  rw [sc_s ht]
  cases hb : scB n s with
  | false => simp
  | true =>
    have hk := sc_ok hb
    simp only [cl_some, br_t, R_eq, br_dec, R_nat, if_true]
    by_cases k3 : s.Kind = 3
    · obtain ⟨hn, _, r1, r2, r3, r4⟩ := sc_trip ht hk (.inl k3)
      rw [if_pos k3, if_pos (.inl k3), gd_true r1, gt_some (lg_get r1 r2), start_s hn r1 r2 r3 r4]; rfl
    · rw [if_neg k3]
      by_cases k2 : s.Kind = 2
      · obtain ⟨hn, _, r1, r2, r3, r4⟩ := sc_trip ht hk (.inr k2)
        rw [if_pos k2, if_pos (.inr k2), gd_true r1, gt_some (lg_get r1 r2), start_s hn r1 r2 r3 r4]; rfl
      · rw [if_neg k2, if_neg (fun h => h.elim k3 k2)]
end Go.Vs
/- The order of scans: both texts agree. -/
namespace Go.Vs
open Go.IntWalk
theorem less_cmp : ∀ (a b : List UInt8), Op.bytesLess a b = decide (Lib.compareBytes a b < 0)
  | [], [] => rfl
  | [], _ :: _ => rfl
  | _ :: _, [] => rfl
  | a :: x, b :: y => by
    rw [Op.bytesLess, Lib.compareBytes, less_cmp x y]
    by_cases h : a < b
    · simp [h]
    · by_cases h2 : b < a
      · have : a ≠ b := fun e => absurd (e ▸ h2) (UInt8.lt_irrefl _)
        simp [h, h2, this]
      · have : a = b := UInt8.le_antisymm (UInt8.not_lt.1 h2) (UInt8.not_lt.1 h)
        simp [this, UInt8.lt_irrefl]
theorem cmp_eq : ∀ (a b : List UInt8), (a == b) = decide (Lib.compareBytes a b = 0)
  | [], [] => rfl
  | [], _ :: _ => rfl
  | _ :: _, [] => rfl
  | a :: x, b :: y => by
    have := cmp_eq x y
    rw [Lib.compareBytes]
    by_cases h : a < b
    · have : a ≠ b := fun e => absurd (e ▸ h) (UInt8.lt_irrefl _)
      simp [h, this]
    · by_cases h2 : b < a
      · have : a ≠ b := fun e => absurd (e ▸ h2) (UInt8.lt_irrefl _)
        simp [h, h2, this]
      · have e : a = b := UInt8.le_antisymm (UInt8.not_lt.1 h2) (UInt8.not_lt.1 h)
        subst e
        rw [if_neg h, if_neg h, ← this]
        simp
theorem cmp_one : ∀ (a b : List UInt8), Lib.compareBytes a b = -1 ∨ Lib.compareBytes a b = 0 ∨ Lib.compareBytes a b = 1
  | [], [] => .inr (.inl rfl)
  | [], _ :: _ => .inl rfl
  | _ :: _, [] => .inr (.inr rfl)
  | a :: x, b :: y => by
    rw [Lib.compareBytes]
    by_cases h : a < b
    · rw [if_pos h]; exact .inl rfl
    · rw [if_neg h]
      by_cases h2 : b < a
      · rw [if_pos h2]; exact .inr (.inr rfl)
      · rw [if_neg h2]; exact cmp_one x y
theorem slt_cmp (a b : ByteArray) : G.real.slt a b = decide (Lib.compareBytes a.data.toList b.data.toList < 0) := by
  show Op.bytesLess a.toList b.toList = _
  rw [ByteArray.toList_eq, ByteArray.toList_eq, less_cmp]
theorem sle_cmp (a b : ByteArray) : G.real.sle a b = decide (Lib.compareBytes a.data.toList b.data.toList ≤ 0) := by
  show (Op.bytesLess a.toList b.toList || a.toList == b.toList) = _
  rw [ByteArray.toList_eq, ByteArray.toList_eq, less_cmp, cmp_eq, ← Bool.decide_or]
  congr 1
  apply propext
  omega
def cmpI (x y : Int) : Int := if x < y then -1 else if y < x then 1 else 0
theorem ints_eq (x y : Int) : I_compareInts G.real TE.real x y = cmpI x y := by
  unfold I_compareInts cmpI
  simp only [R_lt, br_dec]
def firstOf : List Int → Int
  | [] => 0
  | x :: l => if x = 0 then firstOf l else x
theorem first_eq (l : List Int) : I_first G.real TE.real l = firstOf l := by
  unfold I_first
  simp only [lP_eq]
  induction l with
  | nil => rfl
  | cons x l ih =>
    rw [I_first_l1, firstOf]
    simp only [R_eq, br_dec]
    by_cases h : x = 0
    · rw [if_pos h, if_pos h]; exact ih
    · rw [if_neg h, if_neg h]; rfl
theorem cmp_i (a b : Scan) : I_CompareScans G.real TE.real a b =
    firstOf [cmpI a.At b.At, cmpI a.Thing b.Thing, cmpI a.Kind b.Kind, cmpI a.Trip.Day b.Trip.Day, cmpI a.Trip.Leg b.Trip.Leg, Lib.compareBytes a.Place.data.toList b.Place.data.toList] := by
  unfold I_CompareScans
  simp only [lP_eq, ints_eq, first_eq, X_strings_Compare]
theorem round_step (l1 l2 : List Int) (n i : Nat) (x y : Int) (h1 : l1[i]? = some x) (h2 : l2[i]? = some y) (hi : i < 100) :
    S_CompareScans_l1 G.real TE.real l1 l2 (n + 1) (i : Int) = if cmpI x y = 0 then S_CompareScans_l1 G.real TE.real l1 l2 n ((i + 1 : Nat) : Int) else some (.ret (cmpI x y)) := by
  rw [S_CompareScans_l1]
  have hl : i < l2.length := by
    rcases Nat.lt_or_ge i l2.length with h | h
    · exact h
    · rw [List.getElem?_eq_none h] at h2; cases h2
  simp only [R_nat, Int.toNat_natCast, dlenx_I64, R_add]
  rw [gt_some h1, gd_true ⟨by omega, by omega⟩, gt_some h2, w64 (by omega) (by omega)]
  simp only [R_lt, br_dec]
  unfold cmpI
  by_cases c1 : x < y
  · simp [c1]
  · rw [if_neg c1, if_neg c1, gd_true ⟨by omega, by omega⟩]
    by_cases c2 : y < x
    · simp [c2]
    · simp [c2]
theorem cmp_s (a b : Scan) : S_CompareScans G.real TE.real a b = some (I_CompareScans G.real TE.real a b) := by
  rw [cmp_i]
  unfold S_CompareScans
  simp only [lP_eq, dlenx_I64, R_int, List.length_cons, List.length_nil]
  rw [gd_true (by decide), show cntLt 0 (((0 + 1 + 1 + 1 + 1 + 1 : Nat) : Int)) = 4 + 1 from rfl, show (0 : Int) = ((0 : Nat) : Int) from rfl]
  rw [round_step _ _ 4 0 a.At b.At rfl rfl (by omega)]
  simp only [firstOf]
  by_cases e0 : cmpI a.At b.At = 0
  · rw [if_pos e0, if_pos e0, round_step _ _ 3 1 a.Thing b.Thing rfl rfl (by omega)]
    by_cases e1 : cmpI a.Thing b.Thing = 0
    · rw [if_pos e1, if_pos e1, round_step _ _ 2 2 a.Kind b.Kind rfl rfl (by omega)]
      by_cases e2 : cmpI a.Kind b.Kind = 0
      · rw [if_pos e2, if_pos e2, round_step _ _ 1 3 a.Trip.Day b.Trip.Day rfl rfl (by omega)]
        by_cases e3 : cmpI a.Trip.Day b.Trip.Day = 0
        · rw [if_pos e3, if_pos e3, round_step _ _ 0 4 a.Trip.Leg b.Trip.Leg rfl rfl (by omega)]
          by_cases e4 : cmpI a.Trip.Leg b.Trip.Leg = 0
          · rw [if_pos e4, if_pos e4, S_CompareScans_l1]
            simp only [cl_some, lr_out, slt_cmp, sle_cmp, br_dec]
            rcases cmp_one a.Place.data.toList b.Place.data.toList with h | h | h <;> rw [h] <;> rfl
          · rw [if_neg e4, if_neg e4]; rfl
        · rw [if_neg e3, if_neg e3]; rfl
      · rw [if_neg e2, if_neg e2]; rfl
    · rw [if_neg e1, if_neg e1]; rfl
  · rw [if_neg e0, if_neg e0]; rfl
end Go.Vs
/- Which scan can follow which. -/
namespace Go.Vs
open Go.IntWalk
/-- when a place is reached from a spot; -1: never -/
def reB (n : Network) (x : Spot) (p : ByteArray) : Int := if x.Place = p then x.At else eaB n x.Place p x.At
def byB (n : Network) (x y : Spot) : Bool := decide (0 ≤ reB n x y.Place ∧ reB n x y.Place ≤ y.At)
theorem lab_ge {n : Network} {f : Int → Int → Option Int} (h : FOk n f) {st : Nat} : ∀ (m : Nat) {best : List Int}, best.length = (plc n).length → (∀ i, -1 ≤ lab best i) → ∀ i, -1 ≤ lab (itr n f st m best) i
  | 0, best, _, hb, i => hb i
  | m + 1, best, hl, hb, i => lab_ge h m (rnd_len.trans hl) (fun j => by
      rcases (rnd_lab (st := st) h hl j).1 with e | ⟨k, z, e, g1, g2, g3, g4, g5⟩
      · rw [e]; exact hb j
      · obtain ⟨q1, q2, q3, _⟩ := via_spec h g3; omega) i
theorem lab0_ge {n : Network} {st : Nat} (a : Int) (i : Nat) : -1 ≤ lab (lab0 n st a) i := by
  by_cases hst : st < (plc n).length
  · rw [lab0_lab hst]; split <;> omega
  · unfold lab0
    rw [List.set_eq_of_length_le (by simpa using hst)]
    unfold lab
    rw [List.getD_eq_getElem?_getD, List.getElem?_replicate]
    split <;> simp
theorem ea_ge {n : Network} (ht : n.tot ≤ 1048576) (s p : ByteArray) (a : Int) : -1 ≤ eaB n s p a := by
  unfold eaB
  split
  · rename_i h
    have hn := net_ok ht h.1
    unfold arrB
    rw [if_neg (by simp [h.2.1]; omega)]
    exact lab_ge ⟨hn, (find_next hn).ok⟩ _ (lab0_len _ _ _) (lab0_ge a) _
  · omega
theorem reach_s {n : Network} (ht : n.tot ≤ 1048576) (hl : n.Legs.length ≤ 1048576) (x : Spot) (p : ByteArray) : S_l8Reach G.real TE.real n x p = some (reB n x p) := by
  unfold S_l8Reach reB
  simp only [R_seqd, br_dec]
  rw [ea_s ht hl, cl_some]
  split <;> rfl
theorem by_i {n : Network} (ht : n.tot ≤ 1048576) (hl : n.Legs.length ≤ 1048576) (x y : Spot) (h0 : 0 ≤ x.At) : I_arrivesBy G.real TE.real n x y = some (byB n x y) := by
  unfold I_arrivesBy byB reB
  simp only [R_seqd, br_dec, R_le, R_eq]
  rw [ea_i ht hl, cl_some]
  by_cases h : x.Place = y.Place
  · rw [if_pos h, if_pos h]
    congr 1
    simp only [decide_eq_decide]
    omega
  · rw [if_neg h, if_neg h]
    have hg := ea_ge ht x.Place y.Place x.At
    by_cases h1 : eaB n x.Place y.Place x.At = -1
    · rw [if_pos h1]
      congr 1
      simp only [Bool.false_eq, decide_eq_false_iff_not]
      omega
    · rw [if_neg h1]
      congr 1
      simp only [decide_eq_decide]
      omega
def cfB (n : Network) (a b : Scan) : Bool :=
  scB n a && (scB n b && (decide (a.Thing = b.Thing) && (!decide (0 ≤ I_CompareScans G.real TE.real a b) && (!decide (a.Kind = 4) &&
    (if a.Kind = 3 ∧ b.Kind = 2 ∧ a.Trip.Leg = b.Trip.Leg ∧ a.Trip.Day = b.Trip.Day then true else byB n (bhB n a) (bfB n b))))))
theorem bh_at {n : Network} (ht : n.tot ≤ 1048576) {s : Scan} (h : scB n s = true) : s.At ≤ (bhB n s).At ∧ 0 ≤ (bhB n s).At ∧ (bhB n s).At ≤ 100000 := by
  have hk := sc_ok h
  have htm := hk.time
  unfold bhB
  rw [if_pos h]
  by_cases k3 : s.Kind = 3
  · rw [if_pos k3]
    obtain ⟨hn, _, r1, r2, r3, r4⟩ := sc_trip ht hk (.inl k3)
    obtain ⟨q1, q2, q3, q4⟩ := st_rng hn r1 r2 r3 r4
    have := (hk.load k3).2.2
    show s.At ≤ enN n s.Trip.Leg s.Trip.Day ∧ 0 ≤ enN n s.Trip.Leg s.Trip.Day ∧ enN n s.Trip.Leg s.Trip.Day ≤ 100000
    omega
  · rw [if_neg k3]
    show s.At ≤ s.At ∧ 0 ≤ s.At ∧ s.At ≤ 100000
    omega
theorem cf_i {n : Network} (ht : n.tot ≤ 1048576) (hl : n.Legs.length ≤ 1048576) (a b : Scan) : I_CanFollow G.real TE.real n a b = some (cfB n a b) := by
  unfold I_CanFollow cfB
  rw [show (Scan.mk a.Thing a.At a.Kind a.Place (Trip.mk a.Trip.Leg a.Trip.Day)) = a from rfl, show (Scan.mk b.Thing b.At b.Kind b.Place (Trip.mk b.Trip.Leg b.Trip.Day)) = b from rfl, sc_i ht, sc_i ht, bh_i ht, bf_i ht]
  cases ha : scB n a with
  | false => rfl
  | true =>
    cases hb : scB n b with
    | false => rfl
    | true =>
      simp only [cl_some, br_t, lP_eq, R_eq, R_le, R_all, br_dec, Bool.true_and]
      rw [by_i ht hl _ _ (bh_at ht ha).2.1]
      by_cases h1 : a.Thing = b.Thing
      · rw [if_pos h1, decide_eq_true h1, Bool.true_and]
        by_cases h2 : 0 ≤ I_CompareScans G.real TE.real a b
        · rw [if_pos h2, decide_eq_true h2]; rfl
        · rw [if_neg h2, decide_eq_false h2, Bool.not_false, Bool.true_and]
          by_cases h3 : a.Kind = 4
          · rw [if_pos h3, decide_eq_true h3]; rfl
          · rw [if_neg h3, decide_eq_false h3, Bool.not_false, Bool.true_and]
            by_cases h4 : b.Kind = 2
            · rw [if_pos h4]
              by_cases h5 : a.Kind = 3
              · rw [if_pos h5]
                by_cases h6 : a.Trip.Leg = b.Trip.Leg ∧ a.Trip.Day = b.Trip.Day
                · rw [if_pos (c := a.Kind = 3 ∧ _) ⟨h5, h4, h6.1, h6.2⟩, show (List.all [decide (a.Trip.Leg = b.Trip.Leg), decide (a.Trip.Day = b.Trip.Day)] id) = true from by simp [h6.1, h6.2]]; rfl
                · rw [if_neg (c := a.Kind = 3 ∧ _) (fun h => h6 h.2.2), show (List.all [decide (a.Trip.Leg = b.Trip.Leg), decide (a.Trip.Day = b.Trip.Day)] id) = false from by
                    rw [Bool.eq_false_iff]; intro h; simp at h; exact h6 h]; rfl
              · rw [if_neg h5, if_neg (c := a.Kind = 3 ∧ _) (fun h => h5 h.1)]; rfl
            · rw [if_neg h4, if_neg (c := a.Kind = 3 ∧ _) (fun h => h4 h.2.1)]; rfl
      · rw [if_neg h1, decide_eq_false h1]; rfl
theorem cf_s {n : Network} (ht : n.tot ≤ 1048576) (hl : n.Legs.length ≤ 1048576) (a b : Scan) : S_CanFollow G.real TE.real n a b = some (cfB n a b) := by
  have hby : ∀ x y : Spot, (cl (some (reB n x y.Place)) fun x6 => br (decide (0 ≤ x6)) (some (decide (x6 ≤ y.At))) (some false)) = some (byB n x y) := fun x y => by
    unfold byB
    rw [cl_some, br_dec]
    by_cases h : 0 ≤ reB n x y.Place
    · rw [if_pos h]; congr 1; simp [h]
    · rw [if_neg h]; congr 1; simp [h]
  unfold S_CanFollow cfB
  rw [show (Scan.mk a.Thing a.At a.Kind a.Place (Trip.mk a.Trip.Leg a.Trip.Day)) = a from rfl, show (Scan.mk b.Thing b.At b.Kind b.Place (Trip.mk b.Trip.Leg b.Trip.Day)) = b from rfl, sc_s ht, sc_s ht, bh_s ht, bf_s ht, cmp_s]
  cases ha : scB n a with
  | false => rfl
  | true =>
    cases hb : scB n b with
    | false => rfl
    | true =>
      rw [cl_some, cl_some, br_t, br_t]
      simp only [cl_some, lP_eq, R_eq, R_le, R_all, Bool.true_and, reach_s ht hl]
      have hb2 := hby (bhB n a) (bfB n b)
      rw [cl_some] at hb2
      rw [hb2]
      simp only [br_dec]
      by_cases h1 : a.Thing = b.Thing
      · rw [if_pos h1, decide_eq_true h1, Bool.true_and]
        by_cases h3 : a.Kind = 4
        · rw [if_pos h3, decide_eq_true h3]; simp
        · rw [if_neg h3, decide_eq_false h3, Bool.not_false, Bool.true_and]
          by_cases h2 : 0 ≤ I_CompareScans G.real TE.real a b
          · rw [if_pos h2, decide_eq_true h2]; rfl
          · rw [if_neg h2, decide_eq_false h2, Bool.not_false, Bool.true_and]
            by_cases h5 : a.Kind = 3
            · rw [if_pos h5]
              by_cases h4 : b.Kind = 2
              · rw [if_pos h4]
                by_cases h6 : a.Trip.Leg = b.Trip.Leg ∧ a.Trip.Day = b.Trip.Day
                · rw [if_pos (c := a.Kind = 3 ∧ _) ⟨h5, h4, h6.1, h6.2⟩, show (List.all [decide (a.Trip.Leg = b.Trip.Leg), decide (a.Trip.Day = b.Trip.Day)] id) = true from by simp [h6.1, h6.2]]; rfl
                · rw [if_neg (c := a.Kind = 3 ∧ _) (fun h => h6 h.2.2), show (List.all [decide (a.Trip.Leg = b.Trip.Leg), decide (a.Trip.Day = b.Trip.Day)] id) = false from by
                    rw [Bool.eq_false_iff]; intro h; simp at h; exact h6 h]; rfl
              · rw [if_neg h4, if_neg (c := a.Kind = 3 ∧ _) (fun h => h4 h.2.1)]
            · rw [if_neg h5, if_neg (c := a.Kind = 3 ∧ _) (fun h => h5 h.1)]
      · rw [if_neg h1, decide_eq_false h1]; rfl
end Go.Vs
namespace Go.Vs
open Go.IntWalk
theorem law3 (n : Network) (a b : Scan) (hn : n.wd) (ha : a.wd) (hb : b.wd) : L_FnExactCanFollow G.real TE.real n a b = some true := by
  unfold L_FnExactCanFollow
  rw [szNetwork_r n _ (by omega) (by omega) hn]
  simp only [lP_eq, R_lt, br_dec]
  by_cases h : szOut 1048576 n.tot < 0
  · rw [if_pos h]
  · have hs := szOut_pos h
    rw [if_neg h, hs.1, szScan_r a _ (by omega) (by omega) ha]
    by_cases h2 : szOut (1048576 - (n.tot : Int)) a.tot < 0
    · rw [if_pos h2]
    · have hs2 := szOut_pos h2
      rw [if_neg h2, hs2.1, szScan_r b _ (by omega) (by omega) hb]
      by_cases h3 : szOut (1048576 - (n.tot : Int) - (a.tot : Int)) b.tot < 0
      · rw [if_pos h3]
      · have hs3 := szOut_pos h3
        have ht : n.tot ≤ 1048576 := by omega
        have hl : n.Legs.length ≤ 1048576 := by unfold Network.tot at ht; omega
        rw [if_neg h3, toNetwork_r n ht, toScan_r a (by omega), toScan_r b (by omega), cl_some]
        rw [show (Scan.mk a.Thing a.At a.Kind a.Place (Trip.mk a.Trip.Leg a.Trip.Day)) = a from rfl, show (Scan.mk b.Thing b.At b.Kind b.Place (Trip.mk b.Trip.Leg b.Trip.Day)) = b from rfl, cf_s ht hl, cl_some, cl_some, cf_i ht hl, cl_some, cl_some, eqNetwork_r n ht]
        cases cfB n a b <;> rfl
end Go.Vs
namespace Go.Proofs.Ytilplaaijbpilaa.fnExactCanFollow
open Go.Vs Go.RowKit Go.WideShapes Go.ChangeShapes
set_option linter.unusedVariables false
set_option maxRecDepth 100000
theorem given (as0 : List A) (h : ArgsIs Try.prog 8 Try.f3.params.toList as0) : Go.Vs.Fn Try.prog 3 as0 (.c (.r (.v (.bool true)))) := by
  rw [Try.params3] at h
  obtain ⟨x0, xs0, rfl, ⟨ts0, t0, q0⟩, h⟩ := h
  rw [show tyOf Try.prog 8 25 = some [.sl [.str, .str, .int .i64, .int .i64, .int .i64, .int .i64], .sl [.int .i64], .int .i64] from by kernel_rfl] at t0
  cases t0
  rw [show aggT Try.prog 25 = true from by kernel_rfl] at q0
  obtain ⟨r0, rfl, q0⟩ := q0
  obtain ⟨a0, rfl, w0⟩ := is_Network r0 q0
  obtain ⟨x1, xs1, rfl, ⟨ts1, t1, q1⟩, h⟩ := h
  rw [show tyOf Try.prog 8 29 = some [.int .i64, .int .i64, .int .i64, .str, .int .i64, .int .i64] from by kernel_rfl] at t1
  cases t1
  rw [show aggT Try.prog 29 = true from by kernel_rfl] at q1
  obtain ⟨r1, rfl, q1⟩ := q1
  obtain ⟨a1, rfl, w1⟩ := is_Scan r1 q1
  obtain ⟨x2, xs2, rfl, ⟨ts2, t2, q2⟩, h⟩ := h
  rw [show tyOf Try.prog 8 29 = some [.int .i64, .int .i64, .int .i64, .str, .int .i64, .int .i64] from by kernel_rfl] at t2
  cases t2
  rw [show aggT Try.prog 29 = true from by kernel_rfl] at q2
  obtain ⟨r2, rfl, q2⟩ := q2
  obtain ⟨a2, rfl, w2⟩ := is_Scan r2 q2
  have h := h
  subst h
  exact c_L_FnExactCanFollow rfl rfl (law3 _ _ _ w0 w1 w2)
theorem lifted (os : Os) (started : os.Started) (H : Type) (enc : TypeId × Value → H) :
    ReturnsInHanded {} Try.checked os 3 .any (Rows.fnExactCanFollowSpec.pre6 enc Try.prog Try.f3 Rows.fnExactCanFollowRow.domain false) (Rows.fnExactCanFollowSpec.post enc Try.prog Try.f3 false true false false) := by
  refine returnsInHanded_of_change (C := Try.checked) (s := Rows.fnExactCanFollowSpec) (by kernel_rfl) started (by kernel_rfl) Try.func3
    (ChangeSpec.witness6 (enc := enc) (C := Try.checked) false ⟨#[], #[.agg #[.slice none 0 0, .slice none 0 0, .int .i64 0], .agg #[.int .i64 0, .int .i64 0, .int .i64 0, .string ⟨#[]⟩, .int .i64 0, .int .i64 0], .agg #[.int .i64 0, .int .i64 0, .int .i64 0, .string ⟨#[]⟩, .int .i64 0, .int .i64 0]], []⟩ 8 (by kernel_rfl) (by kernel_rfl) (by kernel_rfl) (by kernel_rfl)) ?_
  intro W base args ds gs before hval hW _ _
  refine law_contract (n := 8) (tb := 4) rfl rfl Try.underlying4 (by kernel_rfl) (by kernel_rfl) (fun ds hl => ?_) given W base args ds gs before hval hW
  rw [Try.params3] at hl
  match ds, hl with
  | [d0, d1, d2], _ => exact ⟨rfl, rfl, rfl⟩
theorem facts : joinedFacts Try.prog 3 Try.f3 Rows.fnExactCanFollowSpec Rows.fnExactCanFollowRow = true := by
  unfold joinedFacts
  exact (and_i (and_i (and_i (and_i (and_i (and_i (and_i (and_i (and_i (and_i (and_i (and_i (and_i (and_i (and_i (and_i (and_i (and_i (and_i (and_i (and_i (and_i (and_i (and_i (and_i (and_i (and_i (and_i (and_i (and_i (and_i (by kernel_rfl) io_laid) io_maps) (by kernel_rfl)) (by kernel_rfl)) (by kernel_rfl)) (by kernel_rfl)) (by kernel_rfl)) (by kernel_rfl)) (by kernel_rfl)) (by kernel_rfl)) (by kernel_rfl)) (by kernel_rfl)) (by kernel_rfl)) (by kernel_rfl)) (by kernel_rfl)) (by kernel_rfl)) (by kernel_rfl)) (by kernel_rfl)) (by kernel_rfl)) (by kernel_rfl)) (by kernel_rfl)) (by kernel_rfl)) (by kernel_rfl)) io_heard) io_enter) (by rw [io_final]; rfl)) (by rw [io_make]; rfl)) (by kernel_rfl)) (by kernel_rfl)) (by kernel_rfl)) (by kernel_rfl))
theorem holds : Rows.FnExactCanFollowSaid :=
  OpenClaim.holds_of_wide 3 Try.f3 rfl rfl rfl rfl rfl rfl rfl ⟨rfl, rfl, rfl, rfl, rfl⟩ rfl rfl rfl rfl rfl (by kernel_rfl) Try.func3 facts
    (of_decide_eq_true (by kernel_rfl)) (by unfold Func.isWrapper; first | (rw [if_pos (by decide +kernel)]; kernel_rfl) | (rw [if_neg (by decide +kernel)]; exact ⟨rfl, rfl⟩))
    (fun os started H enc _ => lifted os started H enc)
end Go.Proofs.Ytilplaaijbpilaa.fnExactCanFollow
