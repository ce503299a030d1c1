/- Part of the proofs of this seat's laws: Plain. No condition. -/
import Derived.Test.YtieeagobedjogaaVf
import Derived.Test.YtieeagobedjogaaTy
import Derived.Test.YtieeagobedjogaaLaa
import Derived.Test.YtieeagobedjogaaLab
set_option linter.unusedVariables false
set_option linter.unusedSimpArgs false
set_option linter.unusedSectionVars false
namespace Go.Vs
open Go.IntWalk
set_option linter.unusedVariables false
set_option linter.unusedSimpArgs false
def sumT {α : Type} (f : α → Nat) (l : List α) : Nat := (l.map f).sum
theorem sumT_mem {α : Type} (f : α → Nat) {l : List α} {x : α} (h : x ∈ l) : f x ≤ sumT f l := by
  unfold sumT
  induction l with
  | nil => cases h
  | cons y l ih =>
    simp only [List.map_cons, List.sum_cons]
    rcases List.mem_cons.1 h with h | h
    · subst h; omega
    · have := ih h; omega
def Chute.tot (x : Chute) : Nat := x.Held.length
def Chute.wd (x : Chute) : Prop := x.Held.length ≤ 9223372036854775807
def Inlet.tot (x : Inlet) : Nat := x.Wait.length
def Inlet.wd (x : Inlet) : Prop := x.Wait.length ≤ 9223372036854775807
def Centre.tot (x : Centre) : Nat := x.Belt.length + (x.Chutes.length + sumT (fun y => Chute.tot y) x.Chutes) + (x.Inlets.length + sumT (fun y => Inlet.tot y) x.Inlets) + x.Plan.length
def Centre.wd (x : Centre) : Prop := x.Belt.length ≤ 9223372036854775807 ∧ (x.Chutes.length ≤ 9223372036854775807 ∧ ∀ y ∈ x.Chutes, Chute.wd y) ∧ (x.Inlets.length ≤ 9223372036854775807 ∧ ∀ y ∈ x.Inlets, Inlet.wd y) ∧ x.Plan.length ≤ 9223372036854775807
end Go.Vs
namespace Go.Vs
open Go.IntWalk
/-! What a centre is, once for both. -/
@[simp] theorem R_hasI (l : List Int) (a : Int) : G.real.hasI l a = decide (a ∈ l) := rfl
@[simp] theorem R_putI (l : List Int) (a : Int) : G.real.putI l a = putL l a := rfl
theorem mem_putL {l : List Int} {a x : Int} : x ∈ putL l a ↔ x ∈ l ∨ x = a := by
  unfold putL
  split
  · rename_i h
    constructor
    · exact .inl
    · rintro (h1 | rfl)
      · exact h1
      · exact h
  · simp
theorem within_r (a b c : Int) : I_within G.real TE.real a b c = decide (b ≤ a ∧ a ≤ c) := by
  unfold I_within
  simp only [R_le, br_dec]
  by_cases h : b ≤ a <;> simp [h]
theorem l1In_r (a b c : Int) : S_l1In G.real TE.real a b c = decide (b ≤ a ∧ a ≤ c) := by
  unfold S_l1In
  simp only [R_le, br_dec]
  by_cases h : b ≤ a <;> simp [h]
theorem if_iff {α : Type} {p q : Prop} [Decidable p] [Decidable q] {a b : α} (h : p ↔ q) : (if p then a else b) = if q then a else b := by
  by_cases hq : q
  · rw [if_pos hq, if_pos (h.2 hq)]
  · rw [if_neg hq, if_neg (fun x => hq (h.1 x))]
def chOk (n : Nat) (x : Chute) : Bool := decide (0 ≤ x.Cell ∧ x.Cell ≤ (n : Int) - 1 ∧ 1 ≤ x.Room ∧ x.Room ≤ 20 ∧ (x.Held.length : Int) ≤ x.Room)
def inOk (n : Nat) (x : Inlet) : Bool := decide (0 ≤ x.Cell ∧ x.Cell ≤ (n : Int) - 1 ∧ x.Wait.length ≤ 20)
def plOk (n : Nat) (x : Int) : Bool := decide (0 ≤ x ∧ x ≤ (n : Int) - 1)
def itOk (n : Nat) (x : Item) : Bool := decide (1 ≤ x.Id ∧ x.Id ≤ 9999 ∧ 0 ≤ x.Dest ∧ x.Dest ≤ (n : Int) - 1)
def nz (x : Item) : Bool := decide (¬ (x.Id = 0 ∧ x.Dest = 0))
def itemsOf (c : Centre) : List Item := c.Belt.filter nz ++ (c.Chutes.flatMap (·.Held) ++ c.Inlets.flatMap (·.Wait))
structure IsC (c : Centre) : Prop where
  belt : 2 ≤ c.Belt.length ∧ c.Belt.length ≤ 24
  chutes : 1 ≤ c.Chutes.length ∧ c.Chutes.length ≤ 6
  inlets : 1 ≤ c.Inlets.length ∧ c.Inlets.length ≤ 4
  plan : 1 ≤ c.Plan.length ∧ c.Plan.length ≤ 8
  now : 0 ≤ c.Now ∧ c.Now ≤ 100000
  ch : (∀ x ∈ c.Chutes, chOk c.Belt.length x = true)
  chn : (c.Chutes.map (·.Cell)).Nodup
  inl : (∀ x ∈ c.Inlets, inOk c.Belt.length x = true)
  inn : (c.Inlets.map (·.Cell)).Nodup
  pl : (∀ x ∈ c.Plan, plOk c.Chutes.length x = true)
  it : (∀ x ∈ itemsOf c, itOk c.Plan.length x = true)
  itn : ((itemsOf c).map (·.Id)).Nodup
theorem iCentre_l1 (c : Centre) (hc : c.Belt.length ≤ 1048576) (l : List Chute) : ∀ (w : List Int), (∀ x ∈ l, Chute.tot x ≤ 1048576) → I_IsCentre_l1 G.real TE.real c l w =
    if (∀ x ∈ l, chOk c.Belt.length x = true) ∧ (l.map (·.Cell)).Nodup ∧ (∀ x ∈ l, x.Cell ∉ w) then .out () else .ret false := by
  induction l with
  | nil => intro w _; rw [I_IsCentre_l1, if_pos (by simp)]
  | cons z l ih =>
    intro w ht
    have hz := ht z (by simp)
    unfold Chute.tot at hz
    rw [I_IsCentre_l1]
    simp only [lP_eq, within_r, llen_Item, R_sub, br_dec, R_hasI, R_putI, R_lt]
    rw [w64 (by omega) (by omega), ih _ (fun x hx => ht x (by simp [hx]))]
    by_cases hz : chOk c.Belt.length z = true
    · have h := hz
      unfold chOk at h
      simp only [decide_eq_true_eq] at h
      rw [if_pos ⟨h.1, h.2.1⟩, if_pos (show 1 ≤ z.Room ∧ z.Room ≤ 20 from ⟨h.2.2.1, h.2.2.2.1⟩), if_neg (show ¬ z.Room < _ by omega)]
      simp only [List.forall_mem_cons, hz, true_and, List.map_cons, List.nodup_cons, mem_putL]
      by_cases h2 : z.Cell ∈ w
      · simp [h2]
      · rw [if_neg h2]
        refine if_iff ?_
        simp only [h2, not_false_eq_true, true_and, List.mem_map, not_exists, not_and]
        grind
    · have hf : ¬ ((∀ x ∈ z :: l, chOk c.Belt.length x = true) ∧ ((z :: l).map (·.Cell)).Nodup ∧ ∀ x ∈ z :: l, x.Cell ∉ w) := fun hh => hz (hh.1 z (by simp))
      rw [if_neg hf]
      unfold chOk at hz
      simp only [decide_eq_true_eq] at hz
      split
      · split
        · rfl
        · split
          · split
            · rfl
            · exfalso; omega
          · rfl
      · rfl
theorem iCentre_l2 (c : Centre) (hc : c.Belt.length ≤ 1048576) (l : List Inlet) : ∀ (w : List Int), (∀ x ∈ l, Inlet.tot x ≤ 1048576) → I_IsCentre_l2 G.real TE.real c l w =
    if (∀ x ∈ l, inOk c.Belt.length x = true) ∧ (l.map (·.Cell)).Nodup ∧ (∀ x ∈ l, x.Cell ∉ w) then .out () else .ret false := by
  induction l with
  | nil => intro w _; rw [I_IsCentre_l2, if_pos (by simp)]
  | cons z l ih =>
    intro w ht
    rw [I_IsCentre_l2]
    simp only [lP_eq, within_r, llen_Item, R_sub, br_dec, R_hasI, R_putI, R_lt]
    rw [w64 (by omega) (by omega), ih _ (fun x hx => ht x (by simp [hx]))]
    by_cases hz : inOk c.Belt.length z = true
    · have h := hz
      unfold inOk at h
      simp only [decide_eq_true_eq] at h
      rw [if_pos ⟨h.1, h.2.1⟩, if_neg (show ¬ (20 : Int) < _ by omega)]
      simp only [List.forall_mem_cons, hz, true_and, List.map_cons, List.nodup_cons, mem_putL]
      by_cases h2 : z.Cell ∈ w
      · simp [h2]
      · rw [if_neg h2]
        refine if_iff ?_
        simp only [h2, not_false_eq_true, true_and, List.mem_map, not_exists, not_and]
        grind
    · have hf : ¬ ((∀ x ∈ z :: l, inOk c.Belt.length x = true) ∧ ((z :: l).map (·.Cell)).Nodup ∧ ∀ x ∈ z :: l, x.Cell ∉ w) := fun hh => hz (hh.1 z (by simp))
      rw [if_neg hf]
      unfold inOk at hz
      simp only [decide_eq_true_eq] at hz
      split
      · split
        · rfl
        · split
          · rfl
          · exfalso; omega
      · rfl
theorem iCentre_l3 (c : Centre) (hc : c.Chutes.length ≤ 1048576) (l : List Int) : I_IsCentre_l3 G.real TE.real c l = if ∀ x ∈ l, plOk c.Chutes.length x = true then .out () else .ret false := by
  induction l with
  | nil => rw [I_IsCentre_l3, if_pos (by simp)]
  | cons z l ih =>
    rw [I_IsCentre_l3]
    simp only [lP_eq, within_r, llen_Chute, R_sub, br_dec]
    rw [w64 (by omega) (by omega), ih]
    by_cases hz : plOk c.Chutes.length z = true
    · have h := hz
      unfold plOk at h
      simp only [decide_eq_true_eq] at h
      rw [if_pos h]
      simp only [List.forall_mem_cons, hz, true_and]
    · have hf : ¬ (∀ x ∈ z :: l, plOk c.Chutes.length x = true) := fun hh => hz (hh z (by simp))
      rw [if_neg hf]
      unfold plOk at hz
      simp only [decide_eq_true_eq] at hz
      rw [if_neg hz]
theorem iCentre_l4 (c : Centre) (hc : c.Plan.length ≤ 1048576) (a : List Item) (ha : a.length ≤ 4194304) (l : List Item) : ∀ (k : Nat) (w : List Int), a.drop k = l → I_IsCentre_l4 G.real TE.real c a l.length k w =
    some (if (∀ x ∈ l, itOk c.Plan.length x = true) ∧ (l.map (·.Id)).Nodup ∧ (∀ x ∈ l, x.Id ∉ w) then .out () else .ret false) := by
  induction l with
  | nil => intro k w h; rw [List.length_nil, I_IsCentre_l4, if_pos (by simp)]
  | cons z l ih =>
    intro k w h
    have hk : k < a.length := by
      have := congrArg List.length h
      simp at this; omega
    have hz : a[k]? = some z := by
      have := congrArg (fun l => l[0]?) h
      simpa using this
    rw [List.length_cons, I_IsCentre_l4]
    simp only [R_nat, Int.toNat_natCast, R_add]
    rw [gt_some hz]
    simp only [lP_eq, within_r, llen_I64, R_sub, br_dec, R_hasI, R_putI]
    rw [w64 (by omega) (by omega), w64 (by omega) (by omega), show (k : Int) + 1 = ((k + 1 : Nat) : Int) by omega, ih (k + 1) _ (by rw [← List.drop_drop, h]; rfl)]
    by_cases hz : itOk c.Plan.length z = true
    · have h := hz
      unfold itOk at h
      simp only [decide_eq_true_eq] at h
      rw [if_pos (show 1 ≤ z.Id ∧ z.Id ≤ 9999 from ⟨h.1, h.2.1⟩), if_pos (show 0 ≤ z.Dest ∧ _ from h.2.2)]
      simp only [List.forall_mem_cons, hz, true_and, List.map_cons, List.nodup_cons, mem_putL]
      by_cases h2 : z.Id ∈ w
      · simp [h2]
      · rw [if_neg h2]
        congr 1
        refine if_iff ?_
        simp only [h2, not_false_eq_true, true_and, List.mem_map, not_exists, not_and]
        grind
    · have hf : ¬ ((∀ x ∈ z :: l, itOk c.Plan.length x = true) ∧ ((z :: l).map (·.Id)).Nodup ∧ ∀ x ∈ z :: l, x.Id ∉ w) := fun hh => hz (hh.1 z (by simp))
      rw [if_neg hf]
      unfold itOk at hz
      simp only [decide_eq_true_eq] at hz
      split
      · split
        · exfalso; omega
        · rfl
      · rfl
/-! the items -/
theorem sumT_cons {α : Type} (f : α → Nat) (x : α) (l : List α) : sumT f (x :: l) = f x + sumT f l := by simp [sumT]
theorem iEvery_l1 (l : List Item) : ∀ (w : List Item), w.length + l.length ≤ 4194304 → I_everyItem_l1 G.real TE.real l w = some (w ++ l.filter nz) := by
  induction l with
  | nil => intro w _; rw [I_everyItem_l1]; simp
  | cons z l ih =>
    intro w h
    simp only [List.length_cons] at h
    rw [I_everyItem_l1]
    simp only [R_all, R_eq, List.all_cons, List.all_nil, id, Bool.and_true, lP_eq, List.length_cons, List.length_nil]
    rw [gd_true (by omega), ih _ (by omega), ih _ (by simp; omega)]
    by_cases h1 : z.Id = 0 ∧ z.Dest = 0
    · have : nz z = false := by simp [nz, h1]
      simp [h1, this]
    · have h2 : nz z = true := by simp only [nz, decide_eq_true_eq]; exact h1
      have h3 : (decide (z.Id = 0) && decide (z.Dest = 0)) = false := by
        rw [Bool.and_eq_false_iff]; simp only [decide_eq_false_iff_not]; omega
      rw [h3, br_f, List.filter_cons_of_pos h2]
      simp
theorem iEvery_l2 (l : List Chute) : ∀ (w : List Item), w.length + sumT (fun y => Chute.tot y) l ≤ 4194304 → I_everyItem_l2 G.real TE.real l w = some (w ++ l.flatMap (·.Held)) := by
  induction l with
  | nil => intro w _; rw [I_everyItem_l2]; simp
  | cons z l ih =>
    intro w h
    rw [sumT_cons] at h
    have e : Chute.tot z = z.Held.length := rfl
    rw [I_everyItem_l2]
    simp only [lP_eq]
    rw [gd_true (by omega), ih _ (by simp; omega)]
    simp
theorem iEvery_l3 (l : List Inlet) : ∀ (w : List Item), w.length + sumT (fun y => Inlet.tot y) l ≤ 4194304 → I_everyItem_l3 G.real TE.real l w = some (w ++ l.flatMap (·.Wait)) := by
  induction l with
  | nil => intro w _; rw [I_everyItem_l3]; simp
  | cons z l ih =>
    intro w h
    rw [sumT_cons] at h
    have e : Inlet.tot z = z.Wait.length := rfl
    rw [I_everyItem_l3]
    simp only [lP_eq]
    rw [gd_true (by omega), ih _ (by simp; omega)]
    simp
theorem flat_tot_ch (l : List Chute) : (l.flatMap (·.Held)).length = sumT (fun y => Chute.tot y) l := by
  induction l with
  | nil => rfl
  | cons z l ih => rw [sumT_cons, List.flatMap_cons, List.length_append, ih]; rfl
theorem flat_tot_in (l : List Inlet) : (l.flatMap (·.Wait)).length = sumT (fun y => Inlet.tot y) l := by
  induction l with
  | nil => rfl
  | cons z l ih => rw [sumT_cons, List.flatMap_cons, List.length_append, ih]; rfl
theorem items_len (c : Centre) : (itemsOf c).length ≤ c.tot := by
  unfold itemsOf Centre.tot
  have := List.length_filter_le nz c.Belt
  simp only [List.length_append, flat_tot_ch, flat_tot_in]
  omega
theorem iEvery_r (c : Centre) (h : c.tot ≤ 1048576) : I_everyItem G.real TE.real c = some (itemsOf c) := by
  have h0 := h
  unfold Centre.tot at h
  unfold I_everyItem
  have h1 := List.length_filter_le nz c.Belt
  simp only [lP_eq]
  rw [iEvery_l1 _ _ (by simp; omega), cl_some, iEvery_l2 _ _ (by simp; omega), cl_some, iEvery_l3 _ _ (by simp only [List.length_append, List.nil_append, flat_tot_ch]; omega), cl_some]
  simp [itemsOf]
theorem ret_if {p : Prop} [Decidable p] (k : Unit → Option Bool) : lr (if p then LR.out () else LR.ret false) k = if p then k () else some false := by split <;> rfl
open Classical in
theorem iCentre_r (c : Centre) (h : c.tot ≤ 1048576) : I_IsCentre G.real TE.real c = some (decide (IsC c)) := by
  have h0 := h
  unfold Centre.tot at h
  have hch : ∀ x ∈ c.Chutes, Chute.tot x ≤ 1048576 := fun x hx => by have := sumT_mem (fun y => Chute.tot y) hx; omega
  have hin : ∀ x ∈ c.Inlets, Inlet.tot x ≤ 1048576 := fun x hx => by have := sumT_mem (fun y => Inlet.tot y) hx; omega
  have hil := items_len c
  unfold I_IsCentre
  simp only [lP_eq, within_r, llen_Item, llen_Chute, llen_Inlet, llen_I64, br_dec, iCentre_l1 c (by omega) _ _ hch, iCentre_l2 c (by omega) _ _ hin, iCentre_l3 c (by omega), iEvery_r c h0, cl_some, dlenx_Item, R_int, ret_if]
  rw [gd_true (by omega)]
  have e : cntLt 0 ((itemsOf c).length : Int) = (itemsOf c).length := by unfold cntLt; omega
  have e4 := iCentre_l4 c (by omega) (itemsOf c) (by omega) (itemsOf c) 0 [] rfl
  rw [e, show (0 : Int) = ((0 : Nat) : Int) from rfl, e4, cl_some, ret_if]
  by_cases hc : IsC c
  · have hd : decide (IsC c) = true := by simpa using hc
    rw [hd]
    rw [if_pos (by have := hc.belt; omega), if_pos (by have := hc.chutes; omega), if_pos (by have := hc.inlets; omega), if_pos (by have := hc.plan; omega), if_pos (by have := hc.now; omega),
      if_pos ⟨hc.ch, hc.chn, by simp⟩, if_pos ⟨hc.inl, hc.inn, by simp⟩, if_pos hc.pl, if_pos ⟨hc.it, hc.itn, by simp⟩]
  · have hd : decide (IsC c) = false := by simpa using hc
    rw [hd]
    split
    · split
      · split
        · split
          · split
            · split
              · split
                · split
                  · split
                    · rename_i a1 a2 a3 a4 a5 a6 a7 a8 a9
                      exact absurd ⟨by omega, by omega, by omega, by omega, a5, a6.1, a6.2.1, a7.1, a7.2.1, a8, a9.1, a9.2.1⟩ hc
                    · rfl
                  · rfl
                · rfl
              · rfl
            · rfl
          · rfl
        · rfl
      · rfl
    · rfl
end Go.Vs
namespace Go.Vs
open Go.IntWalk
theorem drop_cons {α : Type} {a : List α} {k : Nat} {z : α} {l : List α} (h : a.drop k = z :: l) : k < a.length ∧ a[k]? = some z ∧ a.drop (k + 1) = l ∧ a.take (k + 1) = a.take k ++ [z] := by
  have hk : k < a.length := by
    have := congrArg List.length h
    simp at this; omega
  have hz : a[k]? = some z := by
    have := congrArg (fun l => l[0]?) h
    simpa using this
  refine ⟨hk, hz, by rw [← List.drop_drop, h]; rfl, ?_⟩
  rw [List.take_add_one, hz]; rfl
theorem drop_lt {α : Type} {a : List α} {k : Nat} (h : k < a.length) : ∃ z, a[k]? = some z ∧ a.drop k = z :: a.drop (k + 1) :=
  ⟨a[k], by simp [h], List.drop_eq_getElem_cons h⟩
theorem sParts_l2 (c : Centre) (z : Chute) (hc : c.Chutes.length ≤ 1048576) : ∀ (n j : Nat), j + n ≤ c.Chutes.length →
    S_l7Parts_l2 G.real TE.real c z n j = some (if z.Cell ∈ ((c.Chutes.drop j).take n).map (·.Cell) then .ret false else .out ())
  | 0, j, _ => by rw [S_l7Parts_l2]; simp
  | n + 1, j, h => by
    obtain ⟨x, hx, hd⟩ := drop_lt (a := c.Chutes) (k := j) (by omega)
    rw [S_l7Parts_l2]
    simp only [R_nat, Int.toNat_natCast, R_eq, R_add]
    rw [gt_some hx, w64 (by omega) (by omega), show (j : Int) + 1 = ((j + 1 : Nat) : Int) by omega, sParts_l2 c z hc n (j + 1) (by omega), hd]
    simp only [br_dec, List.take_succ_cons, List.map_cons, List.mem_cons]
    by_cases he : x.Cell = z.Cell
    · simp [he]
    · rw [if_neg he]
      congr 1
      exact if_iff ⟨.inr, fun h => h.resolve_left (fun e => he e.symm)⟩
theorem sParts_l4 (c : Centre) (z : Inlet) (hc : c.Inlets.length ≤ 1048576) : ∀ (n j : Nat), j + n ≤ c.Inlets.length →
    S_l7Parts_l4 G.real TE.real c z n j = some (if z.Cell ∈ ((c.Inlets.drop j).take n).map (·.Cell) then .ret false else .out ())
  | 0, j, _ => by rw [S_l7Parts_l4]; simp
  | n + 1, j, h => by
    obtain ⟨x, hx, hd⟩ := drop_lt (a := c.Inlets) (k := j) (by omega)
    rw [S_l7Parts_l4]
    simp only [R_nat, Int.toNat_natCast, R_eq, R_add]
    rw [gt_some hx, w64 (by omega) (by omega), show (j : Int) + 1 = ((j + 1 : Nat) : Int) by omega, sParts_l4 c z hc n (j + 1) (by omega), hd]
    simp only [br_dec, List.take_succ_cons, List.map_cons, List.mem_cons]
    by_cases he : x.Cell = z.Cell
    · simp [he]
    · rw [if_neg he]
      congr 1
      exact if_iff ⟨.inr, fun h => h.resolve_left (fun e => he e.symm)⟩
theorem cnt0 (n : Nat) : cntLt 0 (n : Int) = n := by unfold cntLt; omega
theorem sParts_l1 (c : Centre) (h1 : c.Belt.length ≤ 1048576) (h2 : c.Chutes.length ≤ 1048576) (l : List Chute) : ∀ (k : Nat), c.Chutes.drop k = l → S_l7Parts_l1 G.real TE.real c l k =
    some (if (∀ x ∈ l, chOk c.Belt.length x = true) ∧ (l.map (·.Cell)).Nodup ∧ (∀ x ∈ l, x.Cell ∉ (c.Chutes.take k).map (·.Cell)) then .out () else .ret false) := by
  induction l with
  | nil => intro k _; rw [S_l7Parts_l1, if_pos (by simp)]
  | cons z l ih =>
    intro k h
    obtain ⟨hk, hz, hd, ht⟩ := drop_cons h
    rw [S_l7Parts_l1]
    simp only [lP_eq, l1In_r, llen_Item, R_sub, br_dec, R_lt, R_add]
    rw [w64 (by omega) (by omega), w64 (by omega) (by omega), show (k : Int) + 1 = ((k + 1 : Nat) : Int) by omega, ih (k + 1) hd, gd_true (by omega), cnt0]
    have e2 := sParts_l2 c z h2 k 0 (by omega)
    rw [show ((0 : Nat) : Int) = 0 from rfl] at e2
    rw [e2, cl_some, ht, List.drop_zero]
    by_cases hz : chOk c.Belt.length z = true
    · have h := hz
      unfold chOk at h
      simp only [decide_eq_true_eq] at h
      rw [if_pos ⟨h.1, h.2.1⟩, if_pos (show 1 ≤ z.Room ∧ z.Room ≤ 20 from ⟨h.2.2.1, h.2.2.2.1⟩), if_neg (show ¬ z.Room < _ by omega)]
      simp only [List.forall_mem_cons, hz, true_and, List.map_cons, List.nodup_cons, List.map_append, List.map_nil, List.mem_append, List.mem_singleton]
      by_cases h2 : z.Cell ∈ (c.Chutes.take k).map (·.Cell)
      · rw [if_pos h2, lrL_ret, if_neg (fun hh => hh.2.2.1 h2)]
      · rw [if_neg h2, lrL_out]
        congr 1
        refine if_iff ?_
        simp only [h2, not_false_eq_true, true_and]
        grind
    · have hf : ¬ ((∀ x ∈ z :: l, chOk c.Belt.length x = true) ∧ ((z :: l).map (·.Cell)).Nodup ∧ (∀ x ∈ z :: l, x.Cell ∉ (c.Chutes.take k).map (·.Cell))) := fun hh => hz (hh.1 z (by simp))
      rw [if_neg hf]
      unfold chOk at hz
      simp only [decide_eq_true_eq] at hz
      split
      · split
        · split
          · rfl
          · exfalso; omega
        · rfl
      · rfl
theorem sParts_l3 (c : Centre) (h1 : c.Belt.length ≤ 1048576) (h2 : c.Inlets.length ≤ 1048576) (l : List Inlet) : ∀ (k : Nat), c.Inlets.drop k = l → S_l7Parts_l3 G.real TE.real c l k =
    some (if (∀ x ∈ l, inOk c.Belt.length x = true) ∧ (l.map (·.Cell)).Nodup ∧ (∀ x ∈ l, x.Cell ∉ (c.Inlets.take k).map (·.Cell)) then .out () else .ret false) := by
  induction l with
  | nil => intro k _; rw [S_l7Parts_l3, if_pos (by simp)]
  | cons z l ih =>
    intro k h
    obtain ⟨hk, hz, hd, ht⟩ := drop_cons h
    rw [S_l7Parts_l3]
    simp only [lP_eq, l1In_r, llen_Item, R_sub, br_dec, R_lt, R_add]
    rw [w64 (by omega) (by omega), w64 (by omega) (by omega), show (k : Int) + 1 = ((k + 1 : Nat) : Int) by omega, ih (k + 1) hd, gd_true (by omega), cnt0]
    have e2 := sParts_l4 c z h2 k 0 (by omega)
    rw [show ((0 : Nat) : Int) = 0 from rfl] at e2
    rw [e2, cl_some, ht, List.drop_zero]
    by_cases hz : inOk c.Belt.length z = true
    · have h := hz
      unfold inOk at h
      simp only [decide_eq_true_eq] at h
      rw [if_pos ⟨h.1, h.2.1⟩, if_neg (show ¬ (20 : Int) < _ by omega)]
      simp only [List.forall_mem_cons, hz, true_and, List.map_cons, List.nodup_cons, List.map_append, List.map_nil, List.mem_append, List.mem_singleton]
      by_cases h2 : z.Cell ∈ (c.Inlets.take k).map (·.Cell)
      · rw [if_pos h2, lrL_ret, if_neg (fun hh => hh.2.2.1 h2)]
      · rw [if_neg h2, lrL_out]
        congr 1
        refine if_iff ?_
        simp only [h2, not_false_eq_true, true_and]
        grind
    · have hf : ¬ ((∀ x ∈ z :: l, inOk c.Belt.length x = true) ∧ ((z :: l).map (·.Cell)).Nodup ∧ (∀ x ∈ z :: l, x.Cell ∉ (c.Inlets.take k).map (·.Cell))) := fun hh => hz (hh.1 z (by simp))
      rw [if_neg hf]
      unfold inOk at hz
      simp only [decide_eq_true_eq] at hz
      split
      · split
        · rfl
        · exfalso; omega
      · rfl
theorem sParts_l5 (c : Centre) (hc : c.Chutes.length ≤ 1048576) (l : List Int) : S_l7Parts_l5 G.real TE.real c l = if ∀ x ∈ l, plOk c.Chutes.length x = true then .out () else .ret false := by
  induction l with
  | nil => rw [S_l7Parts_l5, if_pos (by simp)]
  | cons z l ih =>
    rw [S_l7Parts_l5]
    simp only [lP_eq, l1In_r, llen_Chute, R_sub, br_dec]
    rw [w64 (by omega) (by omega), ih]
    by_cases hz : plOk c.Chutes.length z = true
    · have h := hz
      unfold plOk at h
      simp only [decide_eq_true_eq] at h
      rw [if_pos h]
      simp only [List.forall_mem_cons, hz, true_and]
    · have hf : ¬ (∀ x ∈ z :: l, plOk c.Chutes.length x = true) := fun hh => hz (hh z (by simp))
      rw [if_neg hf]
      unfold plOk at hz
      simp only [decide_eq_true_eq] at hz
      rw [if_neg hz]
structure PartsC (c : Centre) : Prop where
  chutes : 1 ≤ c.Chutes.length ∧ c.Chutes.length ≤ 6
  inlets : 1 ≤ c.Inlets.length ∧ c.Inlets.length ≤ 4
  plan : 1 ≤ c.Plan.length ∧ c.Plan.length ≤ 8
  ch : (∀ x ∈ c.Chutes, chOk c.Belt.length x = true)
  chn : (c.Chutes.map (·.Cell)).Nodup
  inl : (∀ x ∈ c.Inlets, inOk c.Belt.length x = true)
  inn : (c.Inlets.map (·.Cell)).Nodup
  pl : (∀ x ∈ c.Plan, plOk c.Chutes.length x = true)
open Classical in
theorem sParts_r (c : Centre) (h : c.tot ≤ 1048576) : S_l7Parts G.real TE.real c = some (decide (PartsC c)) := by
  unfold Centre.tot at h
  unfold S_l7Parts
  have e1 := sParts_l1 c (by omega) (by omega) c.Chutes 0 rfl
  have e3 := sParts_l3 c (by omega) (by omega) c.Inlets 0 rfl
  rw [show ((0 : Nat) : Int) = 0 from rfl] at e1 e3
  rw [e1, e3]
  simp only [cl_some, lP_eq, ret_if, sParts_l5 c (by omega), l1In_r, llen_Chute, llen_Inlet, llen_I64, br_dec]
  by_cases hc : PartsC c
  · have hd : decide (PartsC c) = true := by simpa using hc
    rw [hd, if_pos ⟨hc.ch, hc.chn, by simp⟩, if_pos ⟨hc.inl, hc.inn, by simp⟩, if_pos hc.pl, if_pos (by have := hc.chutes; omega), if_pos (by have := hc.inlets; omega)]
    have := hc.plan
    congr 1
    simp only [decide_eq_true_eq]
    omega
  · have hd : decide (PartsC c) = false := by simpa using hc
    rw [hd]
    split
    · split
      · split
        · split
          · split
            · rename_i a1 a2 a3 a4 a5
              congr 1
              simp only [decide_eq_false_iff_not]
              exact fun a6 => hc ⟨by omega, by omega, by omega, a1.1, a1.2.1, a2.1, a2.2.1, a3⟩
            · rfl
          · rfl
        · rfl
      · rfl
    · rfl
theorem sAll_l1 (l : List Item) : ∀ (w : List Item), w.length + l.length ≤ 4194304 → S_l7All_l1 G.real TE.real l w = some (w ++ l.filter nz) := by
  induction l with
  | nil => intro w _; rw [S_l7All_l1]; simp
  | cons z l ih =>
    intro w h
    simp only [List.length_cons] at h
    rw [S_l7All_l1]
    simp only [R_eq, lP_eq, List.length_cons, List.length_nil, br_dec]
    rw [gd_true (by omega), ih _ (by omega), ih _ (by simp; omega)]
    by_cases h1 : z.Id = 0
    · by_cases h2 : z.Dest = 0
      · have : nz z = false := by simp [nz, h1, h2]
        simp [h1, h2, this]
      · have h3 : nz z = true := by simp [nz, h2]
        simp [h1, h2, h3]
    · have h3 : nz z = true := by simp [nz, h1]
      simp [h1, h3]
theorem sAll_l2 (l : List Chute) : ∀ (w : List Item), w.length + sumT (fun y => Chute.tot y) l ≤ 4194304 → S_l7All_l2 G.real TE.real l w = some (w ++ l.flatMap (·.Held)) := by
  induction l with
  | nil => intro w _; rw [S_l7All_l2]; simp
  | cons z l ih =>
    intro w h
    rw [sumT_cons] at h
    have e : Chute.tot z = z.Held.length := rfl
    rw [S_l7All_l2]
    simp only [lP_eq]
    rw [gd_true (by omega), ih _ (by simp; omega)]
    simp
theorem sAll_l3 (l : List Inlet) : ∀ (w : List Item), w.length + sumT (fun y => Inlet.tot y) l ≤ 4194304 → S_l7All_l3 G.real TE.real l w = some (w ++ l.flatMap (·.Wait)) := by
  induction l with
  | nil => intro w _; rw [S_l7All_l3]; simp
  | cons z l ih =>
    intro w h
    rw [sumT_cons] at h
    have e : Inlet.tot z = z.Wait.length := rfl
    rw [S_l7All_l3]
    simp only [lP_eq]
    rw [gd_true (by omega), ih _ (by simp; omega)]
    simp
theorem sAll_r (c : Centre) (h : c.tot ≤ 1048576) : S_l7All G.real TE.real c = some (itemsOf c) := by
  unfold Centre.tot at h
  unfold S_l7All
  have h1 := List.length_filter_le nz c.Belt
  simp only [lP_eq]
  rw [sAll_l1 _ _ (by simp; omega), cl_some, sAll_l2 _ _ (by simp; omega), cl_some, sAll_l3 _ _ (by simp only [List.length_append, List.nil_append, flat_tot_ch]; omega), cl_some]
  simp [itemsOf]
theorem sCentre_l2 (a : List Item) (z : Item) (ha : a.length ≤ 4194304) : ∀ (n j : Nat), j + n ≤ a.length →
    S_IsCentre_l2 G.real TE.real a z n j = some (if z.Id ∈ ((a.drop j).take n).map (·.Id) then .ret false else .out ())
  | 0, j, _ => by rw [S_IsCentre_l2]; simp
  | n + 1, j, h => by
    obtain ⟨x, hx, hd⟩ := drop_lt (a := a) (k := j) (by omega)
    rw [S_IsCentre_l2]
    simp only [R_nat, Int.toNat_natCast, R_eq, R_add, dlenx_Item]
    rw [gd_true (by omega), gt_some hx, w64 (by omega) (by omega), show (j : Int) + 1 = ((j + 1 : Nat) : Int) by omega, sCentre_l2 a z ha n (j + 1) (by omega), hd]
    simp only [br_dec, List.take_succ_cons, List.map_cons, List.mem_cons]
    by_cases he : x.Id = z.Id
    · simp [he]
    · rw [if_neg he]
      congr 1
      exact if_iff ⟨.inr, fun h => h.resolve_left (fun e => he e.symm)⟩
theorem l7Item_r (z : Item) (p : List Int) (hp : p.length ≤ 1048576) : S_l7Item G.real TE.real z p = itOk p.length z := by
  unfold S_l7Item
  simp only [lP_eq, l1In_r, llen_I64, R_sub, br_dec]
  rw [w64 (by omega) (by omega)]
  unfold itOk
  by_cases h : 1 ≤ z.Id ∧ z.Id ≤ 9999
  · simp [h]
  · rw [if_neg h]
    symm
    simp only [decide_eq_false_iff_not]
    omega
theorem sCentre_l1 (c : Centre) (hc : c.Plan.length ≤ 1048576) (a : List Item) (ha : a.length ≤ 4194304) (l : List Item) : ∀ (k : Nat), a.drop k = l → S_IsCentre_l1 G.real TE.real c a l.length k =
    some (if (∀ x ∈ l, itOk c.Plan.length x = true) ∧ (l.map (·.Id)).Nodup ∧ (∀ x ∈ l, x.Id ∉ (a.take k).map (·.Id)) then .out () else .ret false) := by
  induction l with
  | nil => intro k h; rw [List.length_nil, S_IsCentre_l1, if_pos (by simp)]
  | cons z l ih =>
    intro k h
    obtain ⟨hk, hz, hd, ht⟩ := drop_cons h
    rw [List.length_cons, S_IsCentre_l1]
    simp only [R_nat, Int.toNat_natCast, R_add]
    rw [gt_some hz]
    simp only [lP_eq, l7Item_r _ _ hc, R_add]
    rw [gd_true (by omega), cnt0, w64 (by omega) (by omega), show (k : Int) + 1 = ((k + 1 : Nat) : Int) by omega, ih (k + 1) hd]
    have e2 := sCentre_l2 a z ha k 0 (by omega)
    rw [show ((0 : Nat) : Int) = 0 from rfl] at e2
    rw [e2, cl_some, ht, List.drop_zero]
    by_cases hz : itOk c.Plan.length z = true
    · rw [hz, br_t]
      simp only [List.forall_mem_cons, hz, true_and, List.map_cons, List.nodup_cons, List.map_append, List.map_nil, List.mem_append, List.mem_singleton]
      by_cases h2 : z.Id ∈ (a.take k).map (·.Id)
      · rw [if_pos h2, lrL_ret, if_neg (fun hh => hh.2.2.1 h2)]
      · rw [if_neg h2, lrL_out]
        congr 1
        refine if_iff ?_
        simp only [h2, not_false_eq_true, true_and]
        grind
    · have hf : ¬ ((∀ x ∈ z :: l, itOk c.Plan.length x = true) ∧ ((z :: l).map (·.Id)).Nodup ∧ (∀ x ∈ z :: l, x.Id ∉ (a.take k).map (·.Id))) := fun hh => hz (hh.1 z (by simp))
      rw [if_neg hf]
      have hz : itOk c.Plan.length z = false := by simpa using hz
      rw [hz, br_f]
open Classical in
theorem sCentre_r (c : Centre) (h : c.tot ≤ 1048576) : S_IsCentre G.real TE.real c = some (decide (IsC c)) := by
  have h0 := h
  unfold Centre.tot at h
  have hil := items_len c
  unfold S_IsCentre
  simp only [lP_eq, l1In_r, llen_Item, br_dec, sParts_r c h0, sAll_r c h0, cl_some, dlenx_Item, R_int]
  rw [gd_true (by omega)]
  have e4 := sCentre_l1 c (by omega) (itemsOf c) (by omega) (itemsOf c) 0 rfl
  rw [show ((0 : Nat) : Int) = 0 from rfl] at e4
  rw [cnt0, e4, cl_some, ret_if]
  by_cases hc : IsC c
  · have hd : decide (IsC c) = true := by simpa using hc
    rw [hd]
    rw [if_pos (by have := hc.belt; omega), if_pos (show PartsC c from ⟨hc.chutes, hc.inlets, hc.plan, hc.ch, hc.chn, hc.inl, hc.inn, hc.pl⟩), if_pos (by have := hc.now; omega), if_pos ⟨hc.it, hc.itn, by simp⟩]
  · have hd : decide (IsC c) = false := by simpa using hc
    rw [hd]
    split
    · split
      · split
        · split
          · rename_i a1 a2 a3 a4
            exact absurd ⟨by omega, a2.chutes, a2.inlets, a2.plan, a3, a2.ch, a2.chn, a2.inl, a2.inn, a2.pl, a4.1, a4.2.1⟩ hc
          · rfl
        · rfl
      · rfl
    · rfl
end Go.Vs
namespace Go.Vs
open Go.IntWalk
def onB (x : Item) : Bool := decide (x.Id ≠ 0)
/-! what holds in a centre -/
theorem IsC.cell {c : Centre} (h : IsC c) {x : Chute} (hx : x ∈ c.Chutes) : 0 ≤ x.Cell ∧ x.Cell < c.Belt.length ∧ 1 ≤ x.Room ∧ x.Room ≤ 20 ∧ (x.Held.length : Int) ≤ x.Room := by
  have := h.ch x hx
  unfold chOk at this
  simp only [decide_eq_true_eq] at this
  omega
theorem IsC.inlet {c : Centre} (h : IsC c) {x : Inlet} (hx : x ∈ c.Inlets) : 0 ≤ x.Cell ∧ x.Cell < c.Belt.length ∧ x.Wait.length ≤ 20 := by
  have := h.inl x hx
  unfold inOk at this
  simp only [decide_eq_true_eq] at this
  omega
theorem IsC.goal {c : Centre} (h : IsC c) {x : Int} (hx : x ∈ c.Plan) : 0 ≤ x ∧ x < c.Chutes.length := by
  have := h.pl x hx
  unfold plOk at this
  simp only [decide_eq_true_eq] at this
  omega
theorem IsC.item {c : Centre} (h : IsC c) {x : Item} (hx : x ∈ itemsOf c) : 1 ≤ x.Id ∧ x.Id ≤ 9999 ∧ 0 ≤ x.Dest ∧ x.Dest < c.Plan.length := by
  have := h.it x hx
  unfold itOk at this
  simp only [decide_eq_true_eq] at this
  omega
theorem belt_items {c : Centre} {x : Item} (hx : x ∈ c.Belt) (h : ¬ (x.Id = 0 ∧ x.Dest = 0)) : x ∈ itemsOf c := by
  unfold itemsOf
  refine List.mem_append_left _ (List.mem_filter.2 ⟨hx, ?_⟩)
  simp only [nz, decide_eq_true_eq]
  exact h
theorem getL {α : Type} {l : List α} {i : Int} (h0 : 0 ≤ i) (h1 : i < l.length) : ∃ x, l[i.toNat]? = some x ∧ x ∈ l := by
  have hlt : i.toNat < l.length := by omega
  exact ⟨l[i.toNat], by simp [hlt], List.getElem_mem hlt⟩
end Go.Vs
namespace Go.Vs
open Go.IntWalk
/-! Copies; what the laws over own results look at. -/
theorem gd_True {α : Type} {k : Option α} : gd True k = k := gd_true trivial
theorem copyItems_r (l : List Item) (h : l.length ≤ 2097152) : I_copyItems G.real TE.real l = some l := by
  unfold I_copyItems
  simp only [lP_eq]
  rw [gd_true (by simp; omega)]; rfl
theorem l7Items_r (l : List Item) (h : l.length ≤ 2097152) : S_l7Items G.real TE.real l = some l := by
  unfold S_l7Items
  simp only [lP_eq]
  rw [gd_true (by simp; omega)]; rfl
theorem l1Ints_r (l : List Int) (h : l.length ≤ 2097152) : S_l1Ints G.real TE.real l = some l := by
  unfold S_l1Ints
  simp only [lP_eq]
  rw [gd_true (by simp; omega)]; rfl
theorem copy_l1 (l : List Chute) : ∀ (w : List Chute), w.length + l.length ≤ 2097152 → (∀ x ∈ l, Chute.tot x ≤ 2097152) → I_copyCentre_l1 G.real TE.real l w = some (w ++ l) ∧ S_l7Copy_l1 G.real TE.real l w = some (w ++ l) := by
  induction l with
  | nil => intro w _ _; rw [I_copyCentre_l1, S_l7Copy_l1]; simp
  | cons z l ih =>
    intro w h ht
    have hz := ht z (by simp)
    unfold Chute.tot at hz
    simp only [List.length_cons] at h
    obtain ⟨i1, i2⟩ := ih (w ++ [z]) (by simp; omega) (fun x hx => ht x (by simp [hx]))
    rw [I_copyCentre_l1, S_l7Copy_l1, copyItems_r _ hz, l7Items_r _ hz]
    simp only [cl_some, lP_eq]
    rw [gd_true (by simp; omega), gd_true (by simp; omega)]
    simp only [List.append_assoc, List.singleton_append] at i1 i2
    exact ⟨by simpa using i1, by simpa using i2⟩
theorem copy_l2 (l : List Inlet) : ∀ (w : List Inlet), w.length + l.length ≤ 2097152 → (∀ x ∈ l, Inlet.tot x ≤ 2097152) → I_copyCentre_l2 G.real TE.real l w = some (w ++ l) ∧ S_l7Copy_l2 G.real TE.real l w = some (w ++ l) := by
  induction l with
  | nil => intro w _ _; rw [I_copyCentre_l2, S_l7Copy_l2]; simp
  | cons z l ih =>
    intro w h ht
    have hz := ht z (by simp)
    unfold Inlet.tot at hz
    simp only [List.length_cons] at h
    obtain ⟨i1, i2⟩ := ih (w ++ [z]) (by simp; omega) (fun x hx => ht x (by simp [hx]))
    rw [I_copyCentre_l2, S_l7Copy_l2, copyItems_r _ hz, l7Items_r _ hz]
    simp only [cl_some, lP_eq]
    rw [gd_true (by simp; omega), gd_true (by simp; omega)]
    simp only [List.append_assoc, List.singleton_append] at i1 i2
    exact ⟨by simpa using i1, by simpa using i2⟩
theorem tot_ch {c : Centre} {x : Chute} (hx : x ∈ c.Chutes) : x.Held.length ≤ c.tot := by
  have := sumT_mem (fun y => Chute.tot y) hx
  unfold Centre.tot
  simp only [Chute.tot] at *
  omega
theorem tot_in {c : Centre} {x : Inlet} (hx : x ∈ c.Inlets) : x.Wait.length ≤ c.tot := by
  have := sumT_mem (fun y => Inlet.tot y) hx
  unfold Centre.tot
  simp only [Inlet.tot] at *
  omega
theorem copy_r (c : Centre) (h : c.tot ≤ 2097152) : I_copyCentre G.real TE.real c = some c ∧ S_l7Copy G.real TE.real c = some c := by
  have h0 := h
  unfold Centre.tot at h
  obtain ⟨a1, a2⟩ := copy_l1 c.Chutes [] (by simp; omega) (fun x hx => by have := tot_ch hx; unfold Chute.tot; omega)
  obtain ⟨b1, b2⟩ := copy_l2 c.Inlets [] (by simp; omega) (fun x hx => by have := tot_in hx; unfold Inlet.tot; omega)
  unfold I_copyCentre S_l7Copy
  rw [a1, a2, b1, b2, copyItems_r _ (by omega), l7Items_r _ (by omega), l1Ints_r _ (by omega)]
  simp only [cl_some, lP_eq]
  rw [gd_true (by simp; omega)]
  exact ⟨rfl, rfl⟩
theorem tot_set_ch {c : Centre} {i : Nat} {x y : Chute} (h : c.Chutes[i]? = some x) (l : List Chute) (hl : l = c.Chutes.set i y) : sumT (fun y => Chute.tot y) l + Chute.tot x = sumT (fun y => Chute.tot y) c.Chutes + Chute.tot y := by
  subst hl
  generalize c.Chutes = m at *
  induction m generalizing i with
  | nil => simp at h
  | cons z m ih =>
    cases i with
    | zero => simp at h; subst h; simp only [List.set_cons_zero, sumT_cons]; omega
    | succ i =>
      have := ih (i := i) (by simpa using h)
      simp only [List.set_cons_succ, sumT_cons]
      omega
theorem tot_set_in {c : Centre} {i : Nat} {x y : Inlet} (h : c.Inlets[i]? = some x) (l : List Inlet) (hl : l = c.Inlets.set i y) : sumT (fun y => Inlet.tot y) l + Inlet.tot x = sumT (fun y => Inlet.tot y) c.Inlets + Inlet.tot y := by
  subst hl
  generalize c.Inlets = m at *
  induction m generalizing i with
  | nil => simp at h
  | cons z m ih =>
    cases i with
    | zero => simp at h; subst h; simp only [List.set_cons_zero, sumT_cons]; omega
    | succ i =>
      have := ih (i := i) (by simpa using h)
      simp only [List.set_cons_succ, sumT_cons]
      omega
end Go.Vs
