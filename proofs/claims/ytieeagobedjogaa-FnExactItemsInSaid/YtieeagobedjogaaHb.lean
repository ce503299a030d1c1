/- Part of the proofs of this seat's laws: Hb. No condition. -/
import Derived.Test.YtieeagobedjogaaPlain
import Derived.Test.YtieeagobedjogaaLaa
set_option linter.unusedVariables false
set_option linter.unusedSimpArgs false
set_option linter.unusedSectionVars false
namespace Go.Vs
open Go.IntWalk
set_option linter.unusedVariables false
set_option linter.unusedSimpArgs false
theorem toItem_r (x : Item) : L_toItem G.real TE.real x = x := by
  rfl
theorem eqItem_r (x : Item) : L_eqItem G.real TE.real x x = true := by
  simp [L_eqItem]
theorem toItemS_l1_r (l : List Item) : ∀ (k : Nat) (w : List Item), w.length = k + l.length → w.length < 4611686018427387904 → L_toItemS_l1 G.real TE.real l k w = some (w.take k ++ l) := by
  induction l with
  | nil => intro k w h hb; rw [L_toItemS_l1, List.take_of_length_le (by simp at h; omega)]; simp
  | cons z l ih =>
    intro k w h hb
    simp only [List.length_cons] at h
    have hk : k < w.length := by omega
    rw [L_toItemS_l1]
    simp only [toItem_r, lP_eq, dlenx_Item, R_nat, Int.toNat_natCast, R_add]
    rw [gd_true (by omega), gt_some (List.getElem?_eq_getElem hk), w64 (by omega) (by omega)]
    try simp only [lP_eq]
    rw [show (k : Int) + 1 = ((k + 1 : Nat) : Int) by omega, ih (k + 1) _ (by simp; omega) (by simpa using hb)]
    rw [List.take_add_one]
    simp [hk, List.take_set_of_le, List.append_assoc]
theorem toItemS_r (l : List Item) (h : l.length ≤ 1048576) : L_toItemS G.real TE.real l = some l := by
  unfold L_toItemS
  simp only [llen_Item, R_nat, Int.toNat_natCast, lP_eq]
  rw [gd_true (by omega), show (0 : Int) = ((0 : Nat) : Int) from rfl, toItemS_l1_r l 0 _ (by simp) (by simp; omega)]
  simp
theorem eqItemS_l1_r (a : List Item) (l : List Item) : ∀ (k : Nat), a.drop k = l → a.length < 4611686018427387904 → L_eqItemS_l1 G.real TE.real a l k = some (.out ()) := by
  induction l with
  | nil => intro k h hb; rw [L_eqItemS_l1]
  | cons z l ih =>
    intro k h hb
    have hk : k < a.length := by
      have := congrArg List.length h
      simp at this; omega
    have hz : a[k]? = some z := by
      have := congrArg (fun l => l[0]?) h
      simpa using this
    rw [L_eqItemS_l1]
    simp only [R_nat, Int.toNat_natCast, R_add]
    rw [gt_some hz]
    simp only [eqItem_r, cl_some, lP_eq, br_t]
    rw [w64 (by omega) (by omega), show (k : Int) + 1 = ((k + 1 : Nat) : Int) by omega]
    exact ih (k + 1) (by rw [← List.drop_drop, h]; rfl) hb
theorem eqItemS_r (l : List Item) (h : l.length ≤ 1048576) : L_eqItemS G.real TE.real l l = some true := by
  unfold L_eqItemS
  simp only [R_eq, decide_true, br_t]
  rw [show (0 : Int) = ((0 : Nat) : Int) from rfl, eqItemS_l1_r l l 0 (by simp) (by omega)]
  rfl
theorem szItemS_r (l : List Item) (v : Int) (h0 : 0 ≤ v) (h1 : v < 4294967296) (hw : l.length ≤ 9223372036854775807) : L_szItemS G.real TE.real l v = szOut v l.length := by
  unfold L_szItemS
  simp only [llen_Item, R_sub, R_lt]
  rw [w64 (by omega) (by omega)]
  unfold szOut
  by_cases h : v - l.length < 0 <;> simp [h]
theorem toChute_r (x : Chute) (h : Chute.tot x ≤ 1048576) : L_toChute G.real TE.real x = some x := by
  unfold Chute.tot at h
  simp only [L_toChute, toItemS_r x.Held (by omega), cl_some, lP_eq]
theorem eqChute_r (x : Chute) (h : Chute.tot x ≤ 1048576) : L_eqChute G.real TE.real x x = some true := by
  unfold Chute.tot at h
  simp [L_eqChute, eqItemS_r x.Held (by omega)]
theorem szChute_r (x : Chute) (v : Int) (h0 : 0 ≤ v) (h1 : v < 4294967296) (hw : Chute.wd x) : L_szChute G.real TE.real x v = szOut v (Chute.tot x) := by
  unfold Chute.wd at hw
  unfold L_szChute Chute.tot
  rw [szItemS_r x.Held _ (by omega) (by omega) hw]
  try simp only [lP_eq, R_lt, br_dec]
  by_cases g0 : szOut (v) (x.Held.length) < 0
  · have q0 := szOut_neg g0; rw [if_pos g0]; unfold szOut; rw [if_pos (by omega)]
  · have q0 := szOut_pos g0; rw [if_neg g0]; try (rw [q0.1]; unfold szOut; rw [if_neg (by omega)]; try omega)
theorem toChuteS_l1_r (l : List Chute) : ∀ (k : Nat) (w : List Chute), w.length = k + l.length → w.length < 4611686018427387904 → (∀ y ∈ l, Chute.tot y ≤ 1048576) → L_toChuteS_l1 G.real TE.real l k w = some (w.take k ++ l) := by
  induction l with
  | nil => intro k w h hb hs; rw [L_toChuteS_l1, List.take_of_length_le (by simp at h; omega)]; simp
  | cons z l ih =>
    intro k w h hb hs
    simp only [List.length_cons] at h
    have hk : k < w.length := by omega
    rw [L_toChuteS_l1]
    rw [toChute_r z (hs z (by simp))]
    simp only [cl_some]
    simp only [dlenx_Chute, R_nat, Int.toNat_natCast, R_add]
    rw [gd_true (by omega), gt_some (List.getElem?_eq_getElem hk), w64 (by omega) (by omega)]
    try simp only [lP_eq]
    rw [show (k : Int) + 1 = ((k + 1 : Nat) : Int) by omega, ih (k + 1) _ (by simp; omega) (by simpa using hb) (fun y hy => hs y (by simp [hy]))]
    rw [List.take_add_one]
    simp [hk, List.take_set_of_le, List.append_assoc]
theorem toChuteS_r (l : List Chute) (h : l.length + sumT (fun y => Chute.tot y) l ≤ 1048576) : L_toChuteS G.real TE.real l = some l := by
  unfold L_toChuteS
  simp only [llen_Chute, R_nat, Int.toNat_natCast, lP_eq]
  rw [gd_true (by omega), show (0 : Int) = ((0 : Nat) : Int) from rfl, toChuteS_l1_r l 0 _ (by simp) (by simp; omega) (fun y hy => by have := sumT_mem (fun y => Chute.tot y) hy; omega)]
  simp
theorem eqChuteS_l1_r (a : List Chute) (l : List Chute) : ∀ (k : Nat), a.drop k = l → a.length < 4611686018427387904 → (∀ y ∈ l, Chute.tot y ≤ 1048576) → L_eqChuteS_l1 G.real TE.real a l k = some (.out ()) := by
  induction l with
  | nil => intro k h hb hs; rw [L_eqChuteS_l1]
  | cons z l ih =>
    intro k h hb hs
    have hk : k < a.length := by
      have := congrArg List.length h
      simp at this; omega
    have hz : a[k]? = some z := by
      have := congrArg (fun l => l[0]?) h
      simpa using this
    rw [L_eqChuteS_l1]
    simp only [R_nat, Int.toNat_natCast, R_add]
    rw [gt_some hz]
    rw [eqChute_r z (hs z (by simp))]
    simp only [cl_some, lP_eq, br_t]
    rw [w64 (by omega) (by omega), show (k : Int) + 1 = ((k + 1 : Nat) : Int) by omega]
    exact ih (k + 1) (by rw [← List.drop_drop, h]; rfl) hb (fun y hy => hs y (by simp [hy]))
theorem eqChuteS_r (l : List Chute) (h : l.length + sumT (fun y => Chute.tot y) l ≤ 1048576) : L_eqChuteS G.real TE.real l l = some true := by
  unfold L_eqChuteS
  simp only [R_eq, decide_true, br_t]
  rw [show (0 : Int) = ((0 : Nat) : Int) from rfl, eqChuteS_l1_r l l 0 (by simp) (by omega) (fun y hy => by have := sumT_mem (fun y => Chute.tot y) hy; omega)]
  rfl
theorem szChuteS_l1_r (l : List Chute) : ∀ (v : Int), 0 ≤ v → v < 4294967296 → (∀ y ∈ l, Chute.wd y) → L_szChuteS_l1 G.real TE.real l v = if v - (sumT (fun y => Chute.tot y) l : Nat) < 0 then .ret (-1) else .out (v - (sumT (fun y => Chute.tot y) l : Nat)) := by
  induction l with
  | nil =>
    intro v h0 h1 hw
    have hT : sumT (fun y => Chute.tot y) ([] : List Chute) = 0 := rfl
    rw [L_szChuteS_l1, if_neg (by omega), hT]; simp
  | cons z l ih =>
    intro v h0 h1 hw
    rw [L_szChuteS_l1]
    rw [szChute_r z v h0 h1 (hw z (by simp))]
    have hT : sumT (fun y => Chute.tot y) (z :: l) = Chute.tot z + sumT (fun y => Chute.tot y) l := by simp [sumT]
    simp only [lP_eq, R_lt, br_dec]
    by_cases h : szOut v (Chute.tot z) < 0
    · have := szOut_neg h
      rw [if_pos h, if_pos (by omega)]
    · have := szOut_pos h
      rw [if_neg h, ih _ (by omega) (by omega) (fun y hy => hw y (by simp [hy])), this.1, hT]
      have e : v - (Chute.tot z : Nat) - (sumT (fun y => Chute.tot y) l : Nat) = v - ((Chute.tot z + sumT (fun y => Chute.tot y) l : Nat) : Int) := by omega
      rw [e]
theorem szChuteS_r (l : List Chute) (v : Int) (h0 : 0 ≤ v) (h1 : v < 4294967296) (hw : l.length ≤ 9223372036854775807 ∧ ∀ y ∈ l, Chute.wd y) : L_szChuteS G.real TE.real l v = szOut v (l.length + sumT (fun y => Chute.tot y) l) := by
  unfold L_szChuteS
  have hw1 := hw.1
  simp only [llen_Chute, R_sub, R_lt]
  rw [w64 (by omega) (by omega)]
  simp only [br_dec, lP_eq]
  unfold szOut
  by_cases h : v - l.length < 0
  · rw [if_pos h, if_pos (by omega)]
  · rw [if_neg h, szChuteS_l1_r l _ (by omega) (by omega) hw.2]
    have e : v - (l.length : Int) - (sumT (fun y => Chute.tot y) l : Nat) = v - ((l.length + sumT (fun y => Chute.tot y) l : Nat) : Int) := by omega
    rw [e]
    split <;> rfl
theorem toInlet_r (x : Inlet) (h : Inlet.tot x ≤ 1048576) : L_toInlet G.real TE.real x = some x := by
  unfold Inlet.tot at h
  simp only [L_toInlet, toItemS_r x.Wait (by omega), cl_some, lP_eq]
theorem eqInlet_r (x : Inlet) (h : Inlet.tot x ≤ 1048576) : L_eqInlet G.real TE.real x x = some true := by
  unfold Inlet.tot at h
  simp [L_eqInlet, eqItemS_r x.Wait (by omega)]
theorem szInlet_r (x : Inlet) (v : Int) (h0 : 0 ≤ v) (h1 : v < 4294967296) (hw : Inlet.wd x) : L_szInlet G.real TE.real x v = szOut v (Inlet.tot x) := by
  unfold Inlet.wd at hw
  unfold L_szInlet Inlet.tot
  rw [szItemS_r x.Wait _ (by omega) (by omega) hw]
  try simp only [lP_eq, R_lt, br_dec]
  by_cases g0 : szOut (v) (x.Wait.length) < 0
  · have q0 := szOut_neg g0; rw [if_pos g0]; unfold szOut; rw [if_pos (by omega)]
  · have q0 := szOut_pos g0; rw [if_neg g0]; try (rw [q0.1]; unfold szOut; rw [if_neg (by omega)]; try omega)
theorem toInletS_l1_r (l : List Inlet) : ∀ (k : Nat) (w : List Inlet), w.length = k + l.length → w.length < 4611686018427387904 → (∀ y ∈ l, Inlet.tot y ≤ 1048576) → L_toInletS_l1 G.real TE.real l k w = some (w.take k ++ l) := by
  induction l with
  | nil => intro k w h hb hs; rw [L_toInletS_l1, List.take_of_length_le (by simp at h; omega)]; simp
  | cons z l ih =>
    intro k w h hb hs
    simp only [List.length_cons] at h
    have hk : k < w.length := by omega
    rw [L_toInletS_l1]
    rw [toInlet_r z (hs z (by simp))]
    simp only [cl_some]
    simp only [dlenx_Inlet, R_nat, Int.toNat_natCast, R_add]
    rw [gd_true (by omega), gt_some (List.getElem?_eq_getElem hk), w64 (by omega) (by omega)]
    try simp only [lP_eq]
    rw [show (k : Int) + 1 = ((k + 1 : Nat) : Int) by omega, ih (k + 1) _ (by simp; omega) (by simpa using hb) (fun y hy => hs y (by simp [hy]))]
    rw [List.take_add_one]
    simp [hk, List.take_set_of_le, List.append_assoc]
theorem toInletS_r (l : List Inlet) (h : l.length + sumT (fun y => Inlet.tot y) l ≤ 1048576) : L_toInletS G.real TE.real l = some l := by
  unfold L_toInletS
  simp only [llen_Inlet, R_nat, Int.toNat_natCast, lP_eq]
  rw [gd_true (by omega), show (0 : Int) = ((0 : Nat) : Int) from rfl, toInletS_l1_r l 0 _ (by simp) (by simp; omega) (fun y hy => by have := sumT_mem (fun y => Inlet.tot y) hy; omega)]
  simp
theorem eqInletS_l1_r (a : List Inlet) (l : List Inlet) : ∀ (k : Nat), a.drop k = l → a.length < 4611686018427387904 → (∀ y ∈ l, Inlet.tot y ≤ 1048576) → L_eqInletS_l1 G.real TE.real a l k = some (.out ()) := by
  induction l with
  | nil => intro k h hb hs; rw [L_eqInletS_l1]
  | cons z l ih =>
    intro k h hb hs
    have hk : k < a.length := by
      have := congrArg List.length h
      simp at this; omega
    have hz : a[k]? = some z := by
      have := congrArg (fun l => l[0]?) h
      simpa using this
    rw [L_eqInletS_l1]
    simp only [R_nat, Int.toNat_natCast, R_add]
    rw [gt_some hz]
    rw [eqInlet_r z (hs z (by simp))]
    simp only [cl_some, lP_eq, br_t]
    rw [w64 (by omega) (by omega), show (k : Int) + 1 = ((k + 1 : Nat) : Int) by omega]
    exact ih (k + 1) (by rw [← List.drop_drop, h]; rfl) hb (fun y hy => hs y (by simp [hy]))
theorem eqInletS_r (l : List Inlet) (h : l.length + sumT (fun y => Inlet.tot y) l ≤ 1048576) : L_eqInletS G.real TE.real l l = some true := by
  unfold L_eqInletS
  simp only [R_eq, decide_true, br_t]
  rw [show (0 : Int) = ((0 : Nat) : Int) from rfl, eqInletS_l1_r l l 0 (by simp) (by omega) (fun y hy => by have := sumT_mem (fun y => Inlet.tot y) hy; omega)]
  rfl
theorem szInletS_l1_r (l : List Inlet) : ∀ (v : Int), 0 ≤ v → v < 4294967296 → (∀ y ∈ l, Inlet.wd y) → L_szInletS_l1 G.real TE.real l v = if v - (sumT (fun y => Inlet.tot y) l : Nat) < 0 then .ret (-1) else .out (v - (sumT (fun y => Inlet.tot y) l : Nat)) := by
  induction l with
  | nil =>
    intro v h0 h1 hw
    have hT : sumT (fun y => Inlet.tot y) ([] : List Inlet) = 0 := rfl
    rw [L_szInletS_l1, if_neg (by omega), hT]; simp
  | cons z l ih =>
    intro v h0 h1 hw
    rw [L_szInletS_l1]
    rw [szInlet_r z v h0 h1 (hw z (by simp))]
    have hT : sumT (fun y => Inlet.tot y) (z :: l) = Inlet.tot z + sumT (fun y => Inlet.tot y) l := by simp [sumT]
    simp only [lP_eq, R_lt, br_dec]
    by_cases h : szOut v (Inlet.tot z) < 0
    · have := szOut_neg h
      rw [if_pos h, if_pos (by omega)]
    · have := szOut_pos h
      rw [if_neg h, ih _ (by omega) (by omega) (fun y hy => hw y (by simp [hy])), this.1, hT]
      have e : v - (Inlet.tot z : Nat) - (sumT (fun y => Inlet.tot y) l : Nat) = v - ((Inlet.tot z + sumT (fun y => Inlet.tot y) l : Nat) : Int) := by omega
      rw [e]
theorem szInletS_r (l : List Inlet) (v : Int) (h0 : 0 ≤ v) (h1 : v < 4294967296) (hw : l.length ≤ 9223372036854775807 ∧ ∀ y ∈ l, Inlet.wd y) : L_szInletS G.real TE.real l v = szOut v (l.length + sumT (fun y => Inlet.tot y) l) := by
  unfold L_szInletS
  have hw1 := hw.1
  simp only [llen_Inlet, R_sub, R_lt]
  rw [w64 (by omega) (by omega)]
  simp only [br_dec, lP_eq]
  unfold szOut
  by_cases h : v - l.length < 0
  · rw [if_pos h, if_pos (by omega)]
  · rw [if_neg h, szInletS_l1_r l _ (by omega) (by omega) hw.2]
    have e : v - (l.length : Int) - (sumT (fun y => Inlet.tot y) l : Nat) = v - ((l.length + sumT (fun y => Inlet.tot y) l : Nat) : Int) := by omega
    rw [e]
    split <;> rfl
theorem toIntS_l1_r (l : List Int) : ∀ (k : Nat) (w : List Int), w.length = k + l.length → w.length < 4611686018427387904 → L_toIntS_l1 G.real TE.real l k w = some (w.take k ++ l) := by
  induction l with
  | nil => intro k w h hb; rw [L_toIntS_l1, List.take_of_length_le (by simp at h; omega)]; simp
  | cons z l ih =>
    intro k w h hb
    simp only [List.length_cons] at h
    have hk : k < w.length := by omega
    rw [L_toIntS_l1]
    simp only [dlenx_I64, R_nat, Int.toNat_natCast, R_add]
    rw [gd_true (by omega), gt_some (List.getElem?_eq_getElem hk), w64 (by omega) (by omega)]
    try simp only [lP_eq]
    rw [show (k : Int) + 1 = ((k + 1 : Nat) : Int) by omega, ih (k + 1) _ (by simp; omega) (by simpa using hb)]
    rw [List.take_add_one]
    simp [hk, List.take_set_of_le, List.append_assoc]
theorem toIntS_r (l : List Int) (h : l.length ≤ 1048576) : L_toIntS G.real TE.real l = some l := by
  unfold L_toIntS
  simp only [llen_I64, R_nat, Int.toNat_natCast, lP_eq]
  rw [gd_true (by omega), show (0 : Int) = ((0 : Nat) : Int) from rfl, toIntS_l1_r l 0 _ (by simp) (by simp; omega)]
  simp
theorem eqIntS_l1_r (a : List Int) (l : List Int) : ∀ (k : Nat), a.drop k = l → a.length < 4611686018427387904 → L_eqIntS_l1 G.real TE.real a l k = some (.out ()) := by
  induction l with
  | nil => intro k h hb; rw [L_eqIntS_l1]
  | cons z l ih =>
    intro k h hb
    have hk : k < a.length := by
      have := congrArg List.length h
      simp at this; omega
    have hz : a[k]? = some z := by
      have := congrArg (fun l => l[0]?) h
      simpa using this
    rw [L_eqIntS_l1]
    simp only [R_nat, Int.toNat_natCast, R_add]
    rw [gt_some hz]
    simp only [R_eq, R_seq, beq_self_eq_true, decide_true, br_t]
    rw [w64 (by omega) (by omega), show (k : Int) + 1 = ((k + 1 : Nat) : Int) by omega]
    exact ih (k + 1) (by rw [← List.drop_drop, h]; rfl) hb
theorem eqIntS_r (l : List Int) (h : l.length ≤ 1048576) : L_eqIntS G.real TE.real l l = some true := by
  unfold L_eqIntS
  simp only [R_eq, decide_true, br_t]
  rw [show (0 : Int) = ((0 : Nat) : Int) from rfl, eqIntS_l1_r l l 0 (by simp) (by omega)]
  rfl
theorem szIntS_r (l : List Int) (v : Int) (h0 : 0 ≤ v) (h1 : v < 4294967296) (hw : l.length ≤ 9223372036854775807) : L_szIntS G.real TE.real l v = szOut v l.length := by
  unfold L_szIntS
  simp only [llen_I64, R_sub, R_lt]
  rw [w64 (by omega) (by omega)]
  unfold szOut
  by_cases h : v - l.length < 0 <;> simp [h]
theorem toCentre_r (x : Centre) (h : Centre.tot x ≤ 1048576) : L_toCentre G.real TE.real x = some x := by
  unfold Centre.tot at h
  simp only [L_toCentre, toItemS_r x.Belt (by omega), toChuteS_r x.Chutes (by omega), toInletS_r x.Inlets (by omega), toIntS_r x.Plan (by omega), cl_some, lP_eq]
theorem eqCentre_r (x : Centre) (h : Centre.tot x ≤ 1048576) : L_eqCentre G.real TE.real x x = some true := by
  unfold Centre.tot at h
  simp [L_eqCentre, eqItemS_r x.Belt (by omega), eqChuteS_r x.Chutes (by omega), eqInletS_r x.Inlets (by omega), eqIntS_r x.Plan (by omega)]
theorem szCentre_r (x : Centre) (v : Int) (h0 : 0 ≤ v) (h1 : v < 4294967296) (hw : Centre.wd x) : L_szCentre G.real TE.real x v = szOut v (Centre.tot x) := by
  unfold Centre.wd at hw
  unfold L_szCentre Centre.tot
  rw [szItemS_r x.Belt _ (by omega) (by omega) hw.1]
  try simp only [lP_eq, R_lt, br_dec]
  by_cases g0 : szOut (v) (x.Belt.length) < 0
  · have q0 := szOut_neg g0; rw [if_pos g0]; unfold szOut; rw [if_pos (by omega)]
  have q0 := szOut_pos g0
  rw [if_neg g0, q0.1, show v - ((x.Belt.length : Nat) : Int) = v - ((x.Belt.length : Nat) : Int) by omega]
  rw [szChuteS_r x.Chutes _ (by omega) (by omega) hw.2.1]
  try simp only [lP_eq, R_lt, br_dec]
  by_cases g1 : szOut (v - ((x.Belt.length : Nat) : Int)) ((x.Chutes.length + sumT (fun y => Chute.tot y) x.Chutes)) < 0
  · have q1 := szOut_neg g1; rw [if_pos g1]; unfold szOut; rw [if_pos (by omega)]
  have q1 := szOut_pos g1
  rw [if_neg g1, q1.1, show v - ((x.Belt.length : Nat) : Int) - (((x.Chutes.length + sumT (fun y => Chute.tot y) x.Chutes) : Nat) : Int) = v - ((x.Belt.length + (x.Chutes.length + sumT (fun y => Chute.tot y) x.Chutes) : Nat) : Int) by omega]
  rw [szInletS_r x.Inlets _ (by omega) (by omega) hw.2.2.1]
  try simp only [lP_eq, R_lt, br_dec]
  by_cases g2 : szOut (v - ((x.Belt.length + (x.Chutes.length + sumT (fun y => Chute.tot y) x.Chutes) : Nat) : Int)) ((x.Inlets.length + sumT (fun y => Inlet.tot y) x.Inlets)) < 0
  · have q2 := szOut_neg g2; rw [if_pos g2]; unfold szOut; rw [if_pos (by omega)]
  have q2 := szOut_pos g2
  rw [if_neg g2, q2.1, show v - ((x.Belt.length + (x.Chutes.length + sumT (fun y => Chute.tot y) x.Chutes) : Nat) : Int) - (((x.Inlets.length + sumT (fun y => Inlet.tot y) x.Inlets) : Nat) : Int) = v - ((x.Belt.length + (x.Chutes.length + sumT (fun y => Chute.tot y) x.Chutes) + (x.Inlets.length + sumT (fun y => Inlet.tot y) x.Inlets) : Nat) : Int) by omega]
  rw [szIntS_r x.Plan _ (by omega) (by omega) hw.2.2.2]
  try simp only [lP_eq, R_lt, br_dec]
  by_cases g3 : szOut (v - ((x.Belt.length + (x.Chutes.length + sumT (fun y => Chute.tot y) x.Chutes) + (x.Inlets.length + sumT (fun y => Inlet.tot y) x.Inlets) : Nat) : Int)) (x.Plan.length) < 0
  · have q3 := szOut_neg g3; rw [if_pos g3]; unfold szOut; rw [if_pos (by omega)]
  · have q3 := szOut_pos g3; rw [if_neg g3]; try (rw [q3.1]; unfold szOut; rw [if_neg (by omega)]; try omega)
end Go.Vs
