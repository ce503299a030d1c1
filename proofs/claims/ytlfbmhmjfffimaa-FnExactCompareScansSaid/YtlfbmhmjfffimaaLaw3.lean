/- The law FnExactCompareScans holds: whatever its arguments, the call returns true and leaves them as they were. No condition. -/
import Derived.Test.YtlfbmhmjfffimaaHb
import Derived.Test.YtlfbmhmjfffimaaL3a
import Derived.Test.YtlfbmhmjfffimaaIs
import Derived.Test.YtlfbmhmjfffimaaOrder
import Derived.Test.YtlfbmhmjfffimaaRows
set_option linter.unusedVariables false
set_option linter.unusedSimpArgs false
set_option linter.unusedSectionVars false
namespace Go.Vs
open Go.IntWalk
theorem less_cmp : ∀ (a b : List UInt8), Op.bytesLess a b = decide (Lib.compareBytes a b < 0)
  | [], [] => rfl
  | [], _ :: _ => rfl
  | _ :: _, [] => rfl
  | a :: x, b :: y => by
    rw [Op.bytesLess, Lib.compareBytes, less_cmp x y]
    by_cases h : a < b
    · simp [h]
    · by_cases h2 : b < a
      · have : a ≠ b := fun e => absurd (e ▸ h2) (UInt8.lt_irrefl _)
        simp [h, h2, this]
      · have : a = b := UInt8.le_antisymm (UInt8.not_lt.1 h2) (UInt8.not_lt.1 h)
        simp [this, UInt8.lt_irrefl]
theorem cmp_eq : ∀ (a b : List UInt8), (a == b) = decide (Lib.compareBytes a b = 0)
  | [], [] => rfl
  | [], _ :: _ => rfl
  | _ :: _, [] => rfl
  | a :: x, b :: y => by
    have := cmp_eq x y
    rw [Lib.compareBytes]
    by_cases h : a < b
    · have : a ≠ b := fun e => absurd (e ▸ h) (UInt8.lt_irrefl _)
      simp [h, this]
    · by_cases h2 : b < a
      · have : a ≠ b := fun e => absurd (e ▸ h2) (UInt8.lt_irrefl _)
        simp [h, h2, this]
      · have e : a = b := UInt8.le_antisymm (UInt8.not_lt.1 h2) (UInt8.not_lt.1 h)
        subst e
        rw [if_neg h, if_neg h, ← this]
        simp
theorem cmp_one : ∀ (a b : List UInt8), Lib.compareBytes a b = -1 ∨ Lib.compareBytes a b = 0 ∨ Lib.compareBytes a b = 1
  | [], [] => .inr (.inl rfl)
  | [], _ :: _ => .inl rfl
  | _ :: _, [] => .inr (.inr rfl)
  | a :: x, b :: y => by
    rw [Lib.compareBytes]
    by_cases h : a < b
    · rw [if_pos h]; exact .inl rfl
    · rw [if_neg h]
      by_cases h2 : b < a
      · rw [if_pos h2]; exact .inr (.inr rfl)
      · rw [if_neg h2]; exact cmp_one x y
theorem slt_cmp (a b : ByteArray) : G.real.slt a b = decide (Lib.compareBytes a.data.toList b.data.toList < 0) := by
  show Op.bytesLess a.toList b.toList = _
  rw [ByteArray.toList_eq, ByteArray.toList_eq, less_cmp]
theorem sle_cmp (a b : ByteArray) : G.real.sle a b = decide (Lib.compareBytes a.data.toList b.data.toList ≤ 0) := by
  show (Op.bytesLess a.toList b.toList || a.toList == b.toList) = _
  rw [ByteArray.toList_eq, ByteArray.toList_eq, less_cmp, cmp_eq, ← Bool.decide_or]
  congr 1
  apply propext
  omega
def cmpI (x y : Int) : Int := if x < y then -1 else if y < x then 1 else 0
theorem ints_eq (x y : Int) : I_compareInts G.real TE.real x y = cmpI x y := by
  unfold I_compareInts cmpI
  simp only [R_lt, br_dec]
def firstOf : List Int → Int
  | [] => 0
  | x :: l => if x = 0 then firstOf l else x
theorem first_eq (l : List Int) : I_first G.real TE.real l = firstOf l := by
  unfold I_first
  simp only [lP_eq]
  induction l with
  | nil => rfl
  | cons x l ih =>
    rw [I_first_l1, firstOf]
    simp only [R_eq, br_dec]
    by_cases h : x = 0
    · rw [if_pos h, if_pos h]; exact ih
    · rw [if_neg h, if_neg h]; rfl
theorem impl_eq (a b : Scan) : I_CompareScans G.real TE.real a b =
    firstOf [cmpI a.At b.At, cmpI a.Thing b.Thing, cmpI a.Kind b.Kind, cmpI a.Trip.Day b.Trip.Day, cmpI a.Trip.Leg b.Trip.Leg, Lib.compareBytes a.Place.data.toList b.Place.data.toList] := by
  unfold I_CompareScans
  simp only [lP_eq, ints_eq, first_eq, X_strings_Compare]
theorem round_step (l1 l2 : List Int) (n i : Nat) (x y : Int) (h1 : l1[i]? = some x) (h2 : l2[i]? = some y) (hi : i < 100) :
    S_CompareScans_l1 G.real TE.real l1 l2 (n + 1) (i : Int) = if cmpI x y = 0 then S_CompareScans_l1 G.real TE.real l1 l2 n ((i + 1 : Nat) : Int) else some (.ret (cmpI x y)) := by
  rw [S_CompareScans_l1]
  have hl : i < l2.length := by
    rcases Nat.lt_or_ge i l2.length with h | h
    · exact h
    · rw [List.getElem?_eq_none h] at h2; cases h2
  simp only [R_nat, Int.toNat_natCast, dlenx_I64, R_add]
  rw [gt_some h1, gd_true ⟨by omega, by omega⟩, gt_some h2, w64 (by omega) (by omega)]
  simp only [R_lt, br_dec]
  unfold cmpI
  by_cases c1 : x < y
  · simp [c1]
  · rw [if_neg c1, if_neg c1, gd_true ⟨by omega, by omega⟩]
    by_cases c2 : y < x
    · simp [c2]
    · simp [c2]
theorem spec_eq (a b : Scan) : S_CompareScans G.real TE.real a b = some (I_CompareScans G.real TE.real a b) := by
  rw [impl_eq]
  unfold S_CompareScans
  simp only [lP_eq, dlenx_I64, R_int, List.length_cons, List.length_nil]
  rw [gd_true (by decide), show cntLt 0 (((0 + 1 + 1 + 1 + 1 + 1 : Nat) : Int)) = 4 + 1 from rfl, show (0 : Int) = ((0 : Nat) : Int) from rfl]
  rw [round_step _ _ 4 0 a.At b.At rfl rfl (by omega)]
  simp only [firstOf]
  by_cases e0 : cmpI a.At b.At = 0
  · rw [if_pos e0, if_pos e0, round_step _ _ 3 1 a.Thing b.Thing rfl rfl (by omega)]
    by_cases e1 : cmpI a.Thing b.Thing = 0
    · rw [if_pos e1, if_pos e1, round_step _ _ 2 2 a.Kind b.Kind rfl rfl (by omega)]
      by_cases e2 : cmpI a.Kind b.Kind = 0
      · rw [if_pos e2, if_pos e2, round_step _ _ 1 3 a.Trip.Day b.Trip.Day rfl rfl (by omega)]
        by_cases e3 : cmpI a.Trip.Day b.Trip.Day = 0
        · rw [if_pos e3, if_pos e3, round_step _ _ 0 4 a.Trip.Leg b.Trip.Leg rfl rfl (by omega)]
          by_cases e4 : cmpI a.Trip.Leg b.Trip.Leg = 0
          · rw [if_pos e4, if_pos e4, S_CompareScans_l1]
            simp only [cl_some, lr_out, slt_cmp, sle_cmp, br_dec]
            rcases cmp_one a.Place.data.toList b.Place.data.toList with h | h | h <;> rw [h] <;> rfl
          · rw [if_neg e4, if_neg e4]; rfl
        · rw [if_neg e3, if_neg e3]; rfl
      · rw [if_neg e2, if_neg e2]; rfl
    · rw [if_neg e1, if_neg e1]; rfl
  · rw [if_neg e0, if_neg e0]; rfl
theorem law3 (a b : Scan) (ha : a.wd) (hb : b.wd) : L_FnExactCompareScans G.real TE.real a b = some true := by
  unfold L_FnExactCompareScans
  rw [szScan_r a _ (by omega) (by omega) ha]
  simp only [lP_eq, R_lt, br_dec]
  by_cases h : szOut 1048576 a.tot < 0
  · rw [if_pos h]
  · have hs := szOut_pos h
    rw [if_neg h, hs.1, szScan_r b _ (by omega) (by omega) hb]
    by_cases h2 : szOut (1048576 - (a.tot : Int)) b.tot < 0
    · rw [if_pos h2]
    · have := szOut_pos h2
      rw [if_neg h2, toScan_r a (by omega), toScan_r b (by omega)]
      simp [spec_eq]
end Go.Vs
namespace Go.Proofs.Ytlfbmhmjfffimaa.fnExactCompareScans
open Go.Vs Go.RowKit Go.WideShapes Go.ChangeShapes
set_option linter.unusedVariables false
set_option maxRecDepth 100000
theorem given (as0 : List A) (h : ArgsIs Try.prog 8 Try.f3.params.toList as0) : Go.Vs.Fn Try.prog 3 as0 (.c (.r (.v (.bool true)))) := by
  rw [Try.params3] at h
  obtain ⟨x0, xs0, rfl, ⟨ts0, t0, q0⟩, h⟩ := h
  rw [show tyOf Try.prog 8 25 = some [.int .i64, .int .i64, .int .i64, .str, .int .i64, .int .i64] from by kernel_rfl] at t0
  cases t0
  rw [show aggT Try.prog 25 = true from by kernel_rfl] at q0
  obtain ⟨r0, rfl, q0⟩ := q0
  obtain ⟨a0, rfl, w0⟩ := is_Scan r0 q0
  obtain ⟨x1, xs1, rfl, ⟨ts1, t1, q1⟩, h⟩ := h
  rw [show tyOf Try.prog 8 25 = some [.int .i64, .int .i64, .int .i64, .str, .int .i64, .int .i64] from by kernel_rfl] at t1
  cases t1
  rw [show aggT Try.prog 25 = true from by kernel_rfl] at q1
  obtain ⟨r1, rfl, q1⟩ := q1
  obtain ⟨a1, rfl, w1⟩ := is_Scan r1 q1
  have h := h
  subst h
  exact c_L_FnExactCompareScans rfl rfl (law3 _ _ w0 w1)
theorem lifted (os : Os) (started : os.Started) (H : Type) (enc : TypeId × Value → H) :
    ReturnsInHanded {} Try.checked os 3 .any (Rows.fnExactCompareScansSpec.pre6 enc Try.prog Try.f3 Rows.fnExactCompareScansRow.domain false) (Rows.fnExactCompareScansSpec.post enc Try.prog Try.f3 false true false false) := by
  refine returnsInHanded_of_change (C := Try.checked) (s := Rows.fnExactCompareScansSpec) (by kernel_rfl) started (by kernel_rfl) Try.func3
    (ChangeSpec.witness6 (enc := enc) (C := Try.checked) false ⟨#[], #[.agg #[.int .i64 0, .int .i64 0, .int .i64 0, .string ⟨#[]⟩, .int .i64 0, .int .i64 0], .agg #[.int .i64 0, .int .i64 0, .int .i64 0, .string ⟨#[]⟩, .int .i64 0, .int .i64 0]], []⟩ 8 (by kernel_rfl) (by kernel_rfl) (by kernel_rfl) (by kernel_rfl)) ?_
  intro W base args ds gs before hval hW _ _
  refine law_contract (n := 8) (tb := 4) rfl rfl Try.underlying4 (by kernel_rfl) (by kernel_rfl) (fun ds hl => ?_) given W base args ds gs before hval hW
  rw [Try.params3] at hl
  match ds, hl with
  | [d0, d1], _ => exact ⟨rfl, rfl, rfl⟩
theorem facts : joinedFacts Try.prog 3 Try.f3 Rows.fnExactCompareScansSpec Rows.fnExactCompareScansRow = true := by
  unfold joinedFacts
  exact (and_i (and_i (and_i (and_i (and_i (and_i (and_i (and_i (and_i (and_i (and_i (and_i (and_i (and_i (and_i (and_i (and_i (and_i (and_i (and_i (and_i (and_i (and_i (and_i (and_i (and_i (and_i (and_i (and_i (and_i (and_i (by kernel_rfl) io_laid) io_maps) (by kernel_rfl)) (by kernel_rfl)) (by kernel_rfl)) (by kernel_rfl)) (by kernel_rfl)) (by kernel_rfl)) (by kernel_rfl)) (by kernel_rfl)) (by kernel_rfl)) (by kernel_rfl)) (by kernel_rfl)) (by kernel_rfl)) (by kernel_rfl)) (by kernel_rfl)) (by kernel_rfl)) (by kernel_rfl)) (by kernel_rfl)) (by kernel_rfl)) (by kernel_rfl)) (by kernel_rfl)) (by kernel_rfl)) io_heard) io_enter) (by rw [io_final]; rfl)) (by rw [io_make]; rfl)) (by kernel_rfl)) (by kernel_rfl)) (by kernel_rfl)) (by kernel_rfl))
theorem holds : Rows.FnExactCompareScansSaid :=
  OpenClaim.holds_of_wide 3 Try.f3 rfl rfl rfl rfl rfl rfl rfl ⟨rfl, rfl, rfl, rfl, rfl⟩ rfl rfl rfl rfl rfl (by kernel_rfl) Try.func3 facts
    (of_decide_eq_true (by kernel_rfl)) (by unfold Func.isWrapper; first | (rw [if_pos (by decide +kernel)]; kernel_rfl) | (rw [if_neg (by decide +kernel)]; exact ⟨rfl, rfl⟩))
    (fun os started H enc _ => lifted os started H enc)
end Go.Proofs.Ytlfbmhmjfffimaa.fnExactCompareScans
