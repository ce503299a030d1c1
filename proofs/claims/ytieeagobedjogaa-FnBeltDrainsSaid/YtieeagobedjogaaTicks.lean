/- Part of the proofs of this seat's laws: Ticks. No condition. -/
import Derived.Test.YtieeagobedjogaaVf
import Derived.Test.YtieeagobedjogaaPlain
import Derived.Test.YtieeagobedjogaaLab
import Derived.Test.YtieeagobedjogaaLac
set_option linter.unusedVariables false
set_option linter.unusedSimpArgs false
set_option linter.unusedSectionVars false
namespace Go.Vs
open Go.IntWalk
/-! A round at one place of a list. -/
theorem gt_mid {α β : Type} (pre l : List β) (x : β) (k : β → Option α) : gt (pre ++ x :: l) pre.length k = k x := gt_some (by simp)
theorem set_mid {β : Type} (pre l : List β) (x y : β) : (pre ++ x :: l).set pre.length y = pre ++ y :: l := by simp
theorem gd_mid {α β : Type} (pre l : List β) (x : β) (k : Option α) : gd ((0 : Int) ≤ (pre.length : Int) ∧ (pre.length : Int) < ((pre ++ x :: l).length : Nat)) k = k := gd_true (by simp; omega)
theorem lt_mid {β : Type} (pre l : List β) (x : β) : decide ((pre.length : Int) < ((pre ++ x :: l).length : Nat)) = true := by simp; omega
theorem lt_end {β : Type} (pre : List β) : decide ((pre.length : Int) < ((pre ++ []).length : Nat)) = false := by simp
theorem mid_app {β : Type} (pre l : List β) (x : β) : pre ++ x :: l = (pre ++ [x]) ++ l := by simp
theorem mid_len {β : Type} (pre : List β) (x : β) : ((pre.length : Nat) : Int) + 1 = (((pre ++ [x]).length : Nat) : Int) := by simp
end Go.Vs
namespace Go.Vs
open Go.IntWalk
/-! A tick, once for both. -/
def chP (plan : List Int) : Nat → List Chute → List Item → List Chute × List Item
  | _, [], b => ([], b)
  | i, ch :: l, b => match b[ch.Cell.toNat]? with
    | some x => if x.Id ≠ 0 ∧ plan[x.Dest.toNat]? = some (i : Int) ∧ (ch.Held.length : Int) < ch.Room then
        (⟨ch.Cell, ch.Room, ch.Held ++ [x]⟩ :: (chP plan (i + 1) l (b.set ch.Cell.toNat ⟨0, 0⟩)).1, (chP plan (i + 1) l (b.set ch.Cell.toNat ⟨0, 0⟩)).2)
      else (ch :: (chP plan (i + 1) l b).1, (chP plan (i + 1) l b).2)
    | none => (ch :: (chP plan (i + 1) l b).1, (chP plan (i + 1) l b).2)
def inP : List Inlet → List Item → List Inlet × List Item
  | [], b => ([], b)
  | y :: l, b => match y.Wait, b[y.Cell.toNat]? with
    | w :: ws, some x => if x.Id = 0 then (⟨y.Cell, ws⟩ :: (inP l (b.set y.Cell.toNat w)).1, (inP l (b.set y.Cell.toNat w)).2) else (y :: (inP l b).1, (inP l b).2)
    | _, _ => (y :: (inP l b).1, (inP l b).2)
def rotP (b : List Item) : List Item := match b[b.length - 1]? with
  | some x => x :: b.take (b.length - 1)
  | none => []
def tickP (c : Centre) : Centre :=
  ⟨(inP c.Inlets (chP c.Plan 0 c.Chutes (rotP c.Belt)).2).2, (chP c.Plan 0 c.Chutes (rotP c.Belt)).1, (inP c.Inlets (chP c.Plan 0 c.Chutes (rotP c.Belt)).2).1, c.Plan, c.Now + 1⟩
def BeltOk (p : Nat) (b : List Item) : Prop := ∀ x ∈ b, nz x = true → itOk p x = true
theorem itOk_iff {p : Nat} {x : Item} : itOk p x = true ↔ 1 ≤ x.Id ∧ x.Id ≤ 9999 ∧ 0 ≤ x.Dest ∧ x.Dest ≤ (p : Int) - 1 := by unfold itOk; simp
theorem nz_iff {x : Item} : nz x = true ↔ ¬ (x.Id = 0 ∧ x.Dest = 0) := by unfold nz; simp only [decide_eq_true_eq]
theorem beltOk_zero {p : Nat} {b : List Item} (h : BeltOk p b) {x : Item} (hx : x ∈ b) (h0 : x.Id = 0) : x.Dest = 0 := by
  cases hn : nz x with
  | false =>
    have := mt nz_iff.2 (by rw [hn]; simp)
    omega
  | true => have := itOk_iff.1 (h x hx hn); omega
theorem beltOk_set {p : Nat} {b : List Item} (h : BeltOk p b) {i : Nat} {y : Item} (hy : nz y = true → itOk p y = true) : BeltOk p (b.set i y) := by
  intro x hx hn
  rcases List.mem_or_eq_of_mem_set hx with hx | rfl
  · exact h x hx hn
  · exact hy hn
theorem zero_ok {p : Nat} : nz ⟨0, 0⟩ = true → itOk p ⟨0, 0⟩ = true := by intro h; simp [nz] at h
theorem get_cell {b : List Item} {c : Int} (h0 : 0 ≤ c) (h1 : c < b.length) : ∃ x, b[c.toNat]? = some x ∧ x ∈ b := getL h0 h1
theorem all_dec (x : Item) : G.real.all [decide (x.Id = 0), decide (x.Dest = 0)] = decide (x.Id = 0 ∧ x.Dest = 0) := by
  simp only [R_all, R_eq, List.all_cons, List.all_nil, id, Bool.and_true]
  by_cases h1 : x.Id = 0 <;> by_cases h2 : x.Dest = 0 <;> simp [h1, h2]
theorem iTick_l1 (c : Centre) (hp : c.Plan.length ≤ 1048576) (l : List Chute) : ∀ (pre : List Chute) (b : List Item), pre.length + l.length ≤ 1048576 → b.length ≤ 1048576 → BeltOk c.Plan.length b → (∀ x ∈ l, chOk b.length x = true) →
    I_tick_l1 G.real TE.real c l.length pre.length (pre ++ l) b = some (pre ++ (chP c.Plan pre.length l b).1, (chP c.Plan pre.length l b).2) := by
  induction l with
  | nil => intro pre b _ _ _ _; rw [List.length_nil, I_tick_l1]; rfl
  | cons z l ih =>
    intro pre b h1 h2 hb hc
    simp only [List.length_cons] at h1
    have hz := hc z (by simp)
    unfold chOk at hz
    simp only [decide_eq_true_eq] at hz
    obtain ⟨x, hx, hm⟩ := get_cell (b := b) hz.1 (by omega)
    have hw : G.real.wrap .i64 ((pre.length : Int) + 1) = (pre.length : Int) + 1 := w64 (by omega) (by omega)
    rw [List.length_cons, I_tick_l1]
    simp only [dlenx_Chute, dlenx_Item, dlenx_I64, R_nat, Int.toNat_natCast, gd_mid, gt_mid, R_add, R_int, lP_eq, hw, R_eq, all_dec, R_lt, set_mid]
    rw [gd_true (by omega), gt_some hx]
    have i1 := ih (pre ++ [z]) b (by simp; omega) h2 hb (fun x hx => hc x (by simp [hx]))
    simp only [List.append_assoc, List.singleton_append, ← mid_len] at i1
    have hl1 : (pre ++ [z]).length = pre.length + 1 := by simp
    rw [hl1] at i1
    rw [i1]
    rw [chP, hx]
    simp only
    by_cases h0 : x.Id = 0
    · have hd := beltOk_zero hb hm h0
      rw [br_dec, if_pos ⟨h0, hd⟩, if_neg (by simp [h0])]
    · have hn : nz x = true := nz_iff.2 (fun h => h0 h.1)
      have ho := itOk_iff.1 (hb x hm hn)
      obtain ⟨k, hk, hkm⟩ := getL (l := c.Plan) ho.2.2.1 (by omega)
      rw [br_dec, if_neg (fun h => h0 h.1), gd_true (by omega), gt_some hk, br_dec, hk]
      by_cases h3 : k = (pre.length : Int)
      · rw [if_pos h3, br_dec]
        by_cases h4 : (z.Held.length : Int) < z.Room
        · rw [if_pos h4, gd_true (by simp; omega), gd_true (by omega), gt_some hx, if_pos ⟨h0, by rw [h3], h4⟩]
          have i2 := ih (pre ++ [⟨z.Cell, z.Room, z.Held ++ [x]⟩]) (b.set z.Cell.toNat ⟨0, 0⟩) (by simp; omega) (by simpa using h2) (beltOk_set hb zero_ok) (fun x hx => by rw [List.length_set]; exact hc x (by simp [hx]))
          simp only [List.append_assoc, List.singleton_append, ← mid_len] at i2
          have hl2 : (pre ++ [(⟨z.Cell, z.Room, z.Held ++ [x]⟩ : Chute)]).length = pre.length + 1 := by simp
          rw [hl2] at i2
          exact i2
        · rw [if_neg h4, if_neg (fun h => h4 h.2.2)]
      · rw [if_neg h3, if_neg (fun h => h3 (by have := h.2.1; simpa using this))]
theorem sTick_l1 (c : Centre) (hp : c.Plan.length ≤ 1048576) (l : List Chute) : ∀ (pre : List Chute) (b : List Item) (n : Nat), l.length < n → pre.length + l.length ≤ 1048576 → b.length ≤ 1048576 → BeltOk c.Plan.length b → (∀ x ∈ l, chOk b.length x = true) →
    S_l7Tick_l1 G.real TE.real c n b (pre ++ l) pre.length = some ((chP c.Plan pre.length l b).2, pre ++ (chP c.Plan pre.length l b).1) := by
  induction l with
  | nil =>
    intro pre b n hn _ _ _ _
    cases n with
    | zero => simp at hn
    | succ n => rw [S_l7Tick_l1]; simp only [dlenx_Chute, R_lt, R_int, lt_end, br_f]; rfl
  | cons z l ih =>
    intro pre b n hn h1 h2 hb hc
    cases n with
    | zero => simp at hn
    | succ n =>
    simp only [List.length_cons] at h1 hn
    have hz := hc z (by simp)
    unfold chOk at hz
    simp only [decide_eq_true_eq] at hz
    obtain ⟨x, hx, hm⟩ := get_cell (b := b) hz.1 (by omega)
    have hw : G.real.wrap .i64 ((pre.length : Int) + 1) = (pre.length : Int) + 1 := w64 (by omega) (by omega)
    rw [S_l7Tick_l1]
    simp only [dlenx_Chute, dlenx_Item, dlenx_I64, R_lt, R_int, lt_mid, br_t, R_nat, Int.toNat_natCast, gd_mid, gt_mid, R_add, lP_eq, hw, R_eq, set_mid]
    rw [gd_true (by omega), gt_some hx]
    have i1 := ih (pre ++ [z]) b n (by omega) (by simp; omega) h2 hb (fun x hx => hc x (by simp [hx]))
    simp only [List.append_assoc, List.singleton_append, ← mid_len] at i1
    have hl1 : (pre ++ [z]).length = pre.length + 1 := by simp
    rw [hl1] at i1
    rw [i1]
    rw [chP, hx]
    simp only
    by_cases h0 : x.Id = 0
    · rw [br_dec, if_pos h0, if_neg (by simp [h0])]
    · have hn : nz x = true := nz_iff.2 (fun h => h0 h.1)
      have ho := itOk_iff.1 (hb x hm hn)
      obtain ⟨k, hk, hkm⟩ := getL (l := c.Plan) ho.2.2.1 (by omega)
      rw [br_dec, if_neg h0, gd_true (by omega), gt_some hk, br_dec, hk]
      by_cases h3 : k = (pre.length : Int)
      · rw [if_pos h3, br_dec]
        by_cases h4 : (z.Held.length : Int) < z.Room
        · rw [if_pos h4, gd_true (by simp; omega), gd_true (by omega), gt_some hx, if_pos ⟨h0, by rw [h3], h4⟩]
          have i2 := ih (pre ++ [⟨z.Cell, z.Room, z.Held ++ [x]⟩]) (b.set z.Cell.toNat ⟨0, 0⟩) n (by omega) (by simp; omega) (by simpa using h2) (beltOk_set hb zero_ok) (fun x hx => by rw [List.length_set]; exact hc x (by simp [hx]))
          simp only [List.append_assoc, List.singleton_append, ← mid_len] at i2
          have hl2 : (pre ++ [(⟨z.Cell, z.Room, z.Held ++ [x]⟩ : Chute)]).length = pre.length + 1 := by simp
          rw [hl2] at i2
          exact i2
        · rw [if_neg h4, if_neg (fun h => h4 h.2.2)]
      · rw [if_neg h3, if_neg (fun h => h3 (by have := h.2.1; simpa using this))]
theorem iTick_l2 (p : Nat) (l : List Inlet) : ∀ (pre : List Inlet) (b : List Item), pre.length + l.length ≤ 1048576 → b.length ≤ 1048576 → BeltOk p b → (∀ x ∈ l, inOk b.length x = true) → (∀ x ∈ l, ∀ y ∈ x.Wait, itOk p y = true) →
    I_tick_l2 G.real TE.real l.length pre.length (pre ++ l) b = some (pre ++ (inP l b).1, (inP l b).2) := by
  induction l with
  | nil => intro pre b _ _ _ _ _; rw [List.length_nil, I_tick_l2]; rfl
  | cons z l ih =>
    intro pre b h1 h2 hb hc hwt
    simp only [List.length_cons] at h1
    have hz := hc z (by simp)
    unfold inOk at hz
    simp only [decide_eq_true_eq] at hz
    obtain ⟨x, hx, hm⟩ := get_cell (b := b) hz.1 (by omega)
    have hw : G.real.wrap .i64 ((pre.length : Int) + 1) = (pre.length : Int) + 1 := w64 (by omega) (by omega)
    rw [List.length_cons, I_tick_l2]
    simp only [dlenx_Inlet, dlenx_Item, R_nat, Int.toNat_natCast, gd_mid, gt_mid, R_add, R_int, lP_eq, hw, R_eq, all_dec, R_lt, R_nsub, set_mid]
    have i1 := ih (pre ++ [z]) b (by simp; omega) h2 hb (fun x hx => hc x (by simp [hx])) (fun x hx => hwt x (by simp [hx]))
    simp only [List.append_assoc, List.singleton_append, ← mid_len] at i1
    rw [i1]
    rw [inP, hx]
    cases hwl : z.Wait with
    | nil => simp
    | cons w ws =>
      have hww : itOk p w = true := hwt z (by simp) w (by rw [hwl]; simp)
      rw [hwl] at hz
      simp only [List.length_cons] at hz ⊢
      rw [br_dec, if_pos (by omega), gd_true (by omega), gt_some hx, br_dec]
      by_cases h0 : x.Id = 0
      · have hd := beltOk_zero hb hm h0
        rw [if_pos ⟨h0, hd⟩, gd_true (by omega), gt_some (x := w) (by simp), gd_true (by omega), gd_true (by omega), gd_true (by omega)]
        have e : List.take (((ws.length + 1 : Nat) : Int).toNat - (1 : Int).toNat) (List.drop (1 : Int).toNat (w :: ws)) = ws := by simp
        have e' : List.take (ws.length + 1 - (1 : Int).toNat) (List.drop (1 : Int).toNat (w :: ws)) = ws := by simp
        rw [e', copyItems_r ws (by omega), cl_some]
        simp only [h0, if_true]
        have i2 := ih (pre ++ [⟨z.Cell, ws⟩]) (b.set z.Cell.toNat w) (by simp; omega) (by simpa using h2) (beltOk_set hb (fun _ => hww)) (fun x hx => by rw [List.length_set]; exact hc x (by simp [hx])) (fun x hx => hwt x (by simp [hx]))
        simp only [List.append_assoc, List.singleton_append, ← mid_len] at i2
        exact i2
      · rw [if_neg (fun h => h0 h.1)]
        simp [h0]
theorem sTick_l2 (p : Nat) (l : List Inlet) : ∀ (pre : List Inlet) (b : List Item) (n : Nat), l.length < n → pre.length + l.length ≤ 1048576 → b.length ≤ 1048576 → BeltOk p b → (∀ x ∈ l, inOk b.length x = true) → (∀ x ∈ l, ∀ y ∈ x.Wait, itOk p y = true) →
    S_l7Tick_l2 G.real TE.real n b (pre ++ l) pre.length = some ((inP l b).2, pre ++ (inP l b).1) := by
  induction l with
  | nil =>
    intro pre b n hn _ _ _ _ _
    cases n with
    | zero => simp at hn
    | succ n => rw [S_l7Tick_l2]; simp only [dlenx_InletF, R_lt, R_int, lt_end, br_f]; rfl
  | cons z l ih =>
    intro pre b n hn h1 h2 hb hc hwt
    cases n with
    | zero => simp at hn
    | succ n =>
    simp only [List.length_cons] at h1 hn
    have hz := hc z (by simp)
    unfold inOk at hz
    simp only [decide_eq_true_eq] at hz
    obtain ⟨x, hx, hm⟩ := get_cell (b := b) hz.1 (by omega)
    have hw : G.real.wrap .i64 ((pre.length : Int) + 1) = (pre.length : Int) + 1 := w64 (by omega) (by omega)
    rw [S_l7Tick_l2]
    simp only [dlenx_InletF, dlenx_Item, llen_Item, rlenx_Item, R_lt, R_int, lt_mid, br_t, R_nat, Int.toNat_natCast, gd_mid, gt_mid, R_add, lP_eq, hw, R_eq, set_mid]
    have i1 := ih (pre ++ [z]) b n (by omega) (by simp; omega) h2 hb (fun x hx => hc x (by simp [hx])) (fun x hx => hwt x (by simp [hx]))
    simp only [List.append_assoc, List.singleton_append, ← mid_len] at i1
    rw [i1]
    rw [inP, hx]
    cases hwl : z.Wait with
    | nil => simp
    | cons w ws =>
      have hww : itOk p w = true := hwt z (by simp) w (by rw [hwl]; simp)
      rw [hwl] at hz
      simp only [List.length_cons] at hz ⊢
      rw [br_dec, if_pos (by omega), gd_true (by omega), gt_some hx, br_dec]
      by_cases h0 : x.Id = 0
      · rw [if_pos h0, gt_some (x := w) (by simp), gd_true (by omega), gd_true (by omega)]
        have e' : List.drop (1 : Int).toNat (List.take (ws.length + 1) (w :: ws)) = ws := by simp
        rw [e']
        simp only [h0, if_true]
        have i2 := ih (pre ++ [⟨z.Cell, ws⟩]) (b.set z.Cell.toNat w) n (by omega) (by simp; omega) (by simpa using h2) (beltOk_set hb (fun _ => hww)) (fun x hx => by rw [List.length_set]; exact hc x (by simp [hx])) (fun x hx => hwt x (by simp [hx]))
        simp only [List.append_assoc, List.singleton_append, ← mid_len] at i2
        exact i2
      · rw [if_neg h0]
        simp [h0]
end Go.Vs
namespace Go.Vs
open Go.IntWalk
/-! A tick keeps a centre. -/
def IsD (c : Centre) : Prop := IsC ⟨c.Belt, c.Chutes, c.Inlets, c.Plan, 0⟩
theorem IsC.d {c : Centre} (h : IsC c) : IsD c := ⟨h.belt, h.chutes, h.inlets, h.plan, by simp, h.ch, h.chn, h.inl, h.inn, h.pl, h.it, h.itn⟩
theorem IsD.c {c : Centre} (h : IsD c) (hn : 0 ≤ c.Now ∧ c.Now ≤ 100000) : IsC c := ⟨h.belt, h.chutes, h.inlets, h.plan, hn, h.ch, h.chn, h.inl, h.inn, h.pl, h.it, h.itn⟩
theorem rotP_eq {b : List Item} (h : 0 < b.length) : ∃ x, b[b.length - 1]? = some x ∧ rotP b = x :: b.take (b.length - 1) ∧ (rotP b).Perm b ∧ (rotP b).length = b.length := by
  have hlt : b.length - 1 < b.length := by omega
  refine ⟨b[b.length - 1], by simp [hlt], ?_⟩
  have hx : b[b.length - 1]? = some b[b.length - 1] := by simp [hlt]
  have e : rotP b = b[b.length - 1] :: b.take (b.length - 1) := by unfold rotP; rw [hx]
  have hs : b = b.take (b.length - 1) ++ [b[b.length - 1]] := by
    conv => lhs; rw [← List.take_append_drop (b.length - 1) b]
    congr 1
    rw [List.drop_eq_getElem_cons hlt, List.drop_of_length_le (by omega)]
  refine ⟨e, ?_, by rw [e]; simp; omega⟩
  rw [e]
  conv => rhs; rw [hs]
  exact (List.perm_append_singleton _ _).symm
instance itemDec : DecidableEq Item := fun a b => decidable_of_iff (a.Id = b.Id ∧ a.Dest = b.Dest) (by cases a; cases b; simp)
theorem count_set (b : List Item) : ∀ (i : Nat) (x y : Item), b[i]? = some x → ∀ z, (b.set i y).count z + (if x = z then 1 else 0) = b.count z + (if y = z then 1 else 0) := by
  induction b with
  | nil => intro i x y h; simp at h
  | cons w b ih =>
    intro i x y h z
    cases i with
    | zero =>
      simp at h
      subst h
      simp only [List.set_cons_zero, List.count_cons, beq_iff_eq]
      omega
    | succ i =>
      have := ih i x y (by simpa using h) z
      simp only [List.set_cons_succ, List.count_cons, beq_iff_eq]
      omega
theorem count_nz (b : List Item) (z : Item) : (b.filter nz).count z = if nz z = true then b.count z else 0 := by
  split
  · rename_i h; rw [List.count_filter h]
  · rename_i h
    rw [List.count_eq_zero]
    intro hm
    exact h (List.mem_filter.1 hm).2
/-- what is in the chutes and on the belt -/
theorem chP_count (plan : List Int) (l : List Chute) : ∀ (i : Nat) (b : List Item) (z : Item), nz z = true → (chP plan i l b).2.count z + ((chP plan i l b).1.flatMap (·.Held)).count z = b.count z + (l.flatMap (·.Held)).count z := by
  induction l with
  | nil => intro i b z _; rw [chP]
  | cons ch l ih =>
    intro i b z hz
    rw [chP]
    split
    · rename_i x hx
      split
      · rename_i hc
        have h1 := ih (i + 1) (b.set ch.Cell.toNat ⟨0, 0⟩) z hz
        have h2 := count_set b ch.Cell.toNat x ⟨0, 0⟩ hx z
        have h3 : ¬ ((⟨0, 0⟩ : Item) = z) := by rintro rfl; simp [nz] at hz
        rw [if_neg h3] at h2
        simp only [List.flatMap_cons, List.count_append, List.count_cons, List.count_nil, beq_iff_eq]
        omega
      · have h1 := ih (i + 1) b z hz
        simp only [List.flatMap_cons, List.count_append]
        omega
    · have h1 := ih (i + 1) b z hz
      simp only [List.flatMap_cons, List.count_append]
      omega
theorem chP_shape (plan : List Int) (l : List Chute) : ∀ (i : Nat) (b : List Item), (chP plan i l b).1.length = l.length ∧ (chP plan i l b).2.length = b.length ∧ (chP plan i l b).1.map (·.Cell) = l.map (·.Cell) ∧ ∀ n, (∀ x ∈ l, chOk n x = true) → ∀ x ∈ (chP plan i l b).1, chOk n x = true := by
  induction l with
  | nil => intro i b; rw [chP]; simp
  | cons ch l ih =>
    intro i b
    rw [chP]
    split
    · rename_i x hx
      split
      · rename_i hc
        obtain ⟨a1, a2, a3, a4⟩ := ih (i + 1) (b.set ch.Cell.toNat ⟨0, 0⟩)
        refine ⟨by simp [a1], by simp [a2], by simp [a3], fun n hn y hy => ?_⟩
        rcases List.mem_cons.1 hy with rfl | hy
        · have := hn ch (by simp)
          unfold chOk at this ⊢
          simp only [decide_eq_true_eq, List.length_append, List.length_cons, List.length_nil] at this ⊢
          omega
        · exact a4 n (fun x hx => hn x (by simp [hx])) y hy
      · obtain ⟨a1, a2, a3, a4⟩ := ih (i + 1) b
        refine ⟨by simp [a1], a2, by simp [a3], fun n hn y hy => ?_⟩
        rcases List.mem_cons.1 hy with rfl | hy
        · exact hn y (by simp)
        · exact a4 n (fun x hx => hn x (by simp [hx])) y hy
    · obtain ⟨a1, a2, a3, a4⟩ := ih (i + 1) b
      refine ⟨by simp [a1], a2, by simp [a3], fun n hn y hy => ?_⟩
      rcases List.mem_cons.1 hy with rfl | hy
      · exact hn y (by simp)
      · exact a4 n (fun x hx => hn x (by simp [hx])) y hy
theorem chP_belt (p : Nat) (plan : List Int) (l : List Chute) : ∀ (i : Nat) (b : List Item), BeltOk p b → BeltOk p (chP plan i l b).2 := by
  induction l with
  | nil => intro i b h; rw [chP]; exact h
  | cons ch l ih =>
    intro i b h
    rw [chP]
    split
    · split
      · exact ih _ _ (beltOk_set h zero_ok)
      · exact ih _ _ h
    · exact ih _ _ h
theorem inP_count (p : Nat) (l : List Inlet) : ∀ (b : List Item) (z : Item), nz z = true → BeltOk p b → (∀ x ∈ l, ∀ y ∈ x.Wait, itOk p y = true) → (inP l b).2.count z + ((inP l b).1.flatMap (·.Wait)).count z = b.count z + (l.flatMap (·.Wait)).count z := by
  induction l with
  | nil => intro b z _ _ _; rw [inP]
  | cons y l ih =>
    intro b z hz hb hw
    rw [inP]
    split
    · rename_i w ws x hyw hx
      split
      · rename_i h0
        have hm := List.mem_of_getElem? hx
        have hd := beltOk_zero hb hm h0
        have h3 : ¬ (x = z) := by rintro rfl; simp [nz, h0, hd] at hz
        have hww : itOk p w = true := hw y (by simp) w (by rw [hyw]; simp)
        have h1 := ih (b.set y.Cell.toNat w) z hz (beltOk_set hb (fun _ => hww)) (fun x hx => hw x (by simp [hx]))
        have h2 := count_set b y.Cell.toNat x w hx z
        rw [if_neg h3] at h2
        simp only [List.flatMap_cons, List.count_append, hyw, List.count_cons, beq_iff_eq]
        omega
      · have h1 := ih b z hz hb (fun x hx => hw x (by simp [hx]))
        simp only [List.flatMap_cons, List.count_append]
        omega
    · have h1 := ih b z hz hb (fun x hx => hw x (by simp [hx]))
      simp only [List.flatMap_cons, List.count_append]
      omega
theorem inP_shape (l : List Inlet) : ∀ (b : List Item), (inP l b).1.length = l.length ∧ (inP l b).2.length = b.length ∧ (inP l b).1.map (·.Cell) = l.map (·.Cell) ∧ ∀ n, (∀ x ∈ l, inOk n x = true) → ∀ x ∈ (inP l b).1, inOk n x = true := by
  induction l with
  | nil => intro b; rw [inP]; simp
  | cons y l ih =>
    intro b
    rw [inP]
    split
    · rename_i w ws x hyw hx
      split
      · obtain ⟨a1, a2, a3, a4⟩ := ih (b.set y.Cell.toNat w)
        refine ⟨by simp [a1], by simp [a2], by simp [a3], fun n hn q hq => ?_⟩
        rcases List.mem_cons.1 hq with rfl | hq
        · have := hn y (by simp)
          unfold inOk at this ⊢
          rw [hyw] at this
          simp only [decide_eq_true_eq, List.length_cons] at this ⊢
          omega
        · exact a4 n (fun x hx => hn x (by simp [hx])) q hq
      · obtain ⟨a1, a2, a3, a4⟩ := ih b
        refine ⟨by simp [a1], a2, by simp [a3], fun n hn q hq => ?_⟩
        rcases List.mem_cons.1 hq with rfl | hq
        · exact hn q (by simp)
        · exact a4 n (fun x hx => hn x (by simp [hx])) q hq
    · obtain ⟨a1, a2, a3, a4⟩ := ih b
      refine ⟨by simp [a1], a2, by simp [a3], fun n hn q hq => ?_⟩
      rcases List.mem_cons.1 hq with rfl | hq
      · exact hn q (by simp)
      · exact a4 n (fun x hx => hn x (by simp [hx])) q hq
theorem IsD.beltOk {c : Centre} (h : IsD c) : BeltOk c.Plan.length c.Belt := fun x hx hn => h.it x (by
  unfold itemsOf
  exact List.mem_append_left _ (List.mem_filter.2 ⟨hx, hn⟩))
theorem IsD.waitOk {c : Centre} (h : IsD c) : ∀ x ∈ c.Inlets, ∀ y ∈ x.Wait, itOk c.Plan.length y = true := fun x hx y hy => h.it y (by
  unfold itemsOf
  exact List.mem_append_right _ (List.mem_append_right _ (List.mem_flatMap.2 ⟨x, hx, hy⟩)))
theorem IsD.heldOk {c : Centre} (h : IsD c) : ∀ x ∈ c.Chutes, ∀ y ∈ x.Held, itOk c.Plan.length y = true := fun x hx y hy => h.it y (by
  unfold itemsOf
  exact List.mem_append_right _ (List.mem_append_left _ (List.mem_flatMap.2 ⟨x, hx, hy⟩)))
theorem itOk_nz {p : Nat} {x : Item} (h : itOk p x = true) : nz x = true := by
  have := itOk_iff.1 h
  exact nz_iff.2 (by omega)
theorem count_small {p : Nat} {l : List Item} (h : ∀ x ∈ l, itOk p x = true) {z : Item} (hz : ¬ nz z = true) : l.count z = 0 := by
  rw [List.count_eq_zero]
  intro hm
  exact hz (itOk_nz (h z hm))
theorem IsD.rotOk {c : Centre} (h : IsD c) : BeltOk c.Plan.length (rotP c.Belt) := by
  obtain ⟨x, _, _, hp, _⟩ := rotP_eq (b := c.Belt) (by have := h.belt; simp only at this; omega)
  intro y hy hn
  exact h.beltOk y (hp.mem_iff.1 hy) hn
/-- **Nothing is lost in a tick.** -/
theorem tick_perm {c : Centre} (h : IsD c) : (itemsOf (tickP c)).Perm (itemsOf c) := by
  rw [List.perm_iff_count]
  intro z
  obtain ⟨x, _, _, hp, _⟩ := rotP_eq (b := c.Belt) (by have := h.belt; simp only at this; omega)
  have hb0 := h.rotOk
  have hb1 := chP_belt _ c.Plan c.Chutes 0 _ hb0
  unfold itemsOf
  simp only [List.count_append, count_nz]
  by_cases hz : nz z = true
  · rw [if_pos hz, if_pos hz]
    have h1 := chP_count c.Plan c.Chutes 0 (rotP c.Belt) z hz
    have h2 := inP_count _ c.Inlets (chP c.Plan 0 c.Chutes (rotP c.Belt)).2 z hz hb1 h.waitOk
    have h3 := hp.count_eq z
    simp only [tickP]
    omega
  · rw [if_neg hz, if_neg hz]
    have e1 : (c.Chutes.flatMap (·.Held)).count z = 0 := count_small (p := c.Plan.length) (fun x hx => by
      obtain ⟨y, hy, hx⟩ := List.mem_flatMap.1 hx
      exact h.heldOk y hy x hx) hz
    have e2 : (c.Inlets.flatMap (·.Wait)).count z = 0 := count_small (p := c.Plan.length) (fun x hx => by
      obtain ⟨y, hy, hx⟩ := List.mem_flatMap.1 hx
      exact h.waitOk y hy x hx) hz
    have hq1 : ∀ (l : List Chute) (i : Nat) (b : List Item), ((chP c.Plan i l b).1.flatMap (·.Held)).count z = (l.flatMap (·.Held)).count z + (if (l.length = l.length) then 0 else 0) ∨ True := fun _ _ _ => .inr trivial
    have key1 : ∀ (l : List Chute) (i : Nat) (b : List Item), ¬ nz z = true → (BeltOk c.Plan.length b) → ((chP c.Plan i l b).1.flatMap (·.Held)).count z = (l.flatMap (·.Held)).count z := by
      intro l
      induction l with
      | nil => intro i b _ _; rw [chP]
      | cons ch l ih =>
        intro i b hz hb
        rw [chP]
        split
        · rename_i x hx
          split
          · rename_i hc
            have hxz : ¬ (x = z) := by rintro rfl; exact hz (nz_iff.2 (fun h => hc.1 h.1))
            have := ih (i + 1) (b.set ch.Cell.toNat ⟨0, 0⟩) hz (beltOk_set hb zero_ok)
            simp only [List.flatMap_cons, List.count_append, List.count_cons, List.count_nil, beq_iff_eq, hxz, if_false]
            omega
          · have := ih (i + 1) b hz hb
            simp only [List.flatMap_cons, List.count_append]
            omega
        · have := ih (i + 1) b hz hb
          simp only [List.flatMap_cons, List.count_append]
          omega
    have key2 : ∀ (l : List Inlet) (b : List Item), ((inP l b).1.flatMap (·.Wait)).count z ≤ (l.flatMap (·.Wait)).count z := by
      intro l
      induction l with
      | nil => intro b; rw [inP]; exact Nat.le_refl _
      | cons y l ih =>
        intro b
        rw [inP]
        split
        · rename_i w ws x hyw hx
          split
          · have := ih (b.set y.Cell.toNat w)
            simp only [List.flatMap_cons, List.count_append, hyw, List.count_cons]
            omega
          · have := ih b
            simp only [List.flatMap_cons, List.count_append]
            omega
        · have := ih b
          simp only [List.flatMap_cons, List.count_append]
          omega
    have h1 := key1 c.Chutes 0 (rotP c.Belt) hz hb0
    have h2 := key2 c.Inlets (chP c.Plan 0 c.Chutes (rotP c.Belt)).2
    simp only [tickP]
    omega
theorem tickD {c : Centre} (h : IsD c) : IsD (tickP c) := by
  obtain ⟨x, _, _, hp, hl⟩ := rotP_eq (b := c.Belt) (by have := h.belt; simp only at this; omega)
  obtain ⟨a1, a2, a3, a4⟩ := chP_shape c.Plan c.Chutes 0 (rotP c.Belt)
  obtain ⟨b1, b2, b3, b4⟩ := inP_shape c.Inlets (chP c.Plan 0 c.Chutes (rotP c.Belt)).2
  have hlen : (inP c.Inlets (chP c.Plan 0 c.Chutes (rotP c.Belt)).2).2.length = c.Belt.length := by rw [b2, a2, hl]
  have hperm := tick_perm h
  refine ⟨?_, ?_, ?_, h.plan, by simp, ?_, ?_, ?_, ?_, ?_, ?_, ?_⟩
  · show 2 ≤ (inP _ _).2.length ∧ (inP _ _).2.length ≤ 24; rw [hlen]; exact h.belt
  · show 1 ≤ (chP _ _ _ _).1.length ∧ (chP _ _ _ _).1.length ≤ 6; rw [a1]; exact h.chutes
  · show 1 ≤ (inP _ _).1.length ∧ (inP _ _).1.length ≤ 4; rw [b1]; exact h.inlets
  · show ∀ x ∈ (chP _ _ _ _).1, chOk (inP _ _).2.length x = true; rw [hlen]; exact a4 _ h.ch
  · show ((chP _ _ _ _).1.map _).Nodup; rw [a3]; exact h.chn
  · show ∀ x ∈ (inP _ _).1, inOk (inP _ _).2.length x = true; rw [hlen]; exact b4 _ h.inl
  · show ((inP _ _).1.map _).Nodup; rw [b3]; exact h.inn
  · show ∀ x ∈ c.Plan, plOk (chP _ _ _ _).1.length x = true; rw [a1]; exact h.pl
  · intro x hx
    exact h.it x (hperm.mem_iff.1 hx)
  · exact (hperm.map _).nodup_iff.2 h.itn
theorem flat_le {α : Type} (f : α → Nat) (l : List α) (m : Nat) (h : ∀ x ∈ l, f x ≤ m) : sumT f l ≤ m * l.length := by
  induction l with
  | nil => simp [sumT]
  | cons z l ih =>
    have := ih (fun x hx => h x (by simp [hx]))
    have := h z (by simp)
    rw [sumT_cons, List.length_cons, Nat.mul_succ]; omega
theorem IsD.tot {c : Centre} (h : IsD c) : c.tot ≤ 1000 := by
  have h1 := h.belt
  have h2 := h.chutes
  have h3 := h.inlets
  have h4 := h.plan
  have h5 := flat_le (fun y => Chute.tot y) c.Chutes 20 (fun x hx => by
    have := h.ch x hx
    unfold chOk at this
    simp only [decide_eq_true_eq] at this
    unfold Chute.tot
    omega)
  have h6 := flat_le (fun y => Inlet.tot y) c.Inlets 20 (fun x hx => by
    have := h.inl x hx
    unfold inOk at this
    simp only [decide_eq_true_eq] at this
    unfold Inlet.tot
    omega)
  simp only at h1 h2 h3 h4
  unfold Centre.tot
  omega
/-- **Both ticks are this tick.** -/
theorem tick_r {c : Centre} (h : IsD c) (hn : 0 ≤ c.Now ∧ c.Now ≤ 1000000) : I_tick G.real TE.real c = some (tickP c) ∧ S_l7Tick G.real TE.real c = some (tickP c) := by
  have h1 := h.belt
  have h2 := h.chutes
  have h3 := h.inlets
  have h4 := h.plan
  simp only at h1 h2 h3 h4
  obtain ⟨x, hx, hr, hp, hl⟩ := rotP_eq (b := c.Belt) (by omega)
  obtain ⟨a1, a2, a3, a4⟩ := chP_shape c.Plan c.Chutes 0 (rotP c.Belt)
  have hb0 := h.rotOk
  have hb1 := chP_belt _ c.Plan c.Chutes 0 _ hb0
  have hw : G.real.wrap .i64 ((c.Belt.length : Int) - 1) = (c.Belt.length : Int) - 1 := w64 (by omega) (by omega)
  have hw2 : G.real.wrap .i64 (c.Now + 1) = c.Now + 1 := w64 (by omega) (by omega)
  have ht : ((c.Belt.length : Int) - 1).toNat = c.Belt.length - 1 := by omega
  have hch : ∀ x ∈ c.Chutes, chOk (rotP c.Belt).length x = true := by rw [hl]; exact h.ch
  have hin : ∀ x ∈ c.Inlets, inOk (chP c.Plan 0 c.Chutes (rotP c.Belt)).2.length x = true := by rw [a2, hl]; exact h.inl
  have e1 := iTick_l1 c (by omega) c.Chutes [] (rotP c.Belt) (by simp; omega) (by omega) hb0 hch
  have e2 := sTick_l1 c (by omega) c.Chutes [] (rotP c.Belt) 1000000000 (by omega) (by simp; omega) (by omega) hb0 hch
  have e3 := iTick_l2 c.Plan.length c.Inlets [] (chP c.Plan 0 c.Chutes (rotP c.Belt)).2 (by simp; omega) (by omega) hb1 hin h.waitOk
  have e4 := sTick_l2 c.Plan.length c.Inlets [] (chP c.Plan 0 c.Chutes (rotP c.Belt)).2 1000000000 (by omega) (by simp; omega) (by omega) hb1 hin h.waitOk
  simp only [List.nil_append, List.length_nil] at e1 e2 e3 e4
  have cons_r : [x] ++ List.take (c.Belt.length - 1 - 0) (List.drop 0 c.Belt) = rotP c.Belt := by rw [hr]; simp
  constructor
  · unfold I_tick
    simp only [dlenx_Item, dlenx_Chute, dlenx_Inlet, R_int, R_sub, R_nat, R_nsub, R_add, hw, hw2, ht, lP_eq, cnt0, Int.toNat_zero]
    rw [gd_true (by omega), gt_some hx, gd_true (by omega), gd_true (by omega), gd_true (by simp; omega), cons_r, gd_true (by omega), show (0 : Int) = ((0 : Nat) : Int) from rfl, e1, cl_some, gd_true (by omega), e3, cl_some]
    rfl
  · unfold S_l7Tick
    simp only [dlenx_Item, R_int, R_sub, R_nat, R_nsub, R_add, hw, hw2, ht, lP_eq, Int.toNat_zero]
    rw [gd_true (by omega), gt_some hx, gd_true (by omega), gd_true (by omega), gd_true (by simp; omega), cons_r, show (0 : Int) = ((0 : Nat) : Int) from rfl, e2, cl_some, e4, cl_some]
    rfl
def runP : Nat → Centre → Centre
  | 0, c => c
  | n + 1, c => runP n (tickP c)
theorem runD : ∀ (n : Nat) {c : Centre}, IsD c → IsD (runP n c)
  | 0, _, h => h
  | n + 1, _, h => runD n (tickD h)
theorem run_now : ∀ (n : Nat) (c : Centre), (runP n c).Now = c.Now + n
  | 0, c => by simp [runP]
  | n + 1, c => by rw [runP, run_now n]; simp only [tickP]; omega
theorem run_perm : ∀ (n : Nat) {c : Centre}, IsD c → (itemsOf (runP n c)).Perm (itemsOf c)
  | 0, _, _ => .refl _
  | n + 1, _, h => (run_perm n (tickD h)).trans (tick_perm h)
end Go.Vs
namespace Go.Vs
open Go.IntWalk
theorem run_l1 : ∀ (n : Nat) (c : Centre), IsD c → 0 ≤ c.Now → c.Now + n ≤ 1000000 → I_RunCentre_l1 G.real TE.real n c.Belt c.Chutes c.Inlets c.Plan c.Now = some ((runP n c).Belt, (runP n c).Chutes, (runP n c).Inlets, (runP n c).Plan, (runP n c).Now) ∧
    S_RunCentre_l1 G.real TE.real n c.Belt c.Chutes c.Inlets c.Plan c.Now = some ((runP n c).Belt, (runP n c).Chutes, (runP n c).Inlets, (runP n c).Plan, (runP n c).Now)
  | 0, c, _, _, _ => by rw [I_RunCentre_l1, S_RunCentre_l1]; exact ⟨rfl, rfl⟩
  | n + 1, c, h, h0, h1 => by
    obtain ⟨t1, t2⟩ := tick_r h (by omega)
    have hn : (tickP c).Now = c.Now + 1 := rfl
    obtain ⟨i1, i2⟩ := run_l1 n (tickP c) (tickD h) (by omega) (by omega)
    rw [I_RunCentre_l1, S_RunCentre_l1]
    have e : Centre.mk c.Belt c.Chutes c.Inlets c.Plan c.Now = c := rfl
    rw [e, t1, t2, cl_some, cl_some]
    exact ⟨i1, i2⟩
/-- what a run leaves -/
theorem runCentre_eq (c : Centre) (h : c.tot ≤ 1048576) (k : Int) : ∃ r : Centre, I_RunCentre G.real TE.real c k = some r ∧ S_RunCentre G.real TE.real c k = some r ∧ r.tot ≤ 1048576 ∧ (IsC c → 0 ≤ k ∧ k ≤ 1000 → c.Now + k ≤ 100000 → r = runP k.toNat c) ∧ (¬ (IsC c ∧ (0 ≤ k ∧ k ≤ 1000) ∧ c.Now + k ≤ 100000) → r = c) := by
  obtain ⟨k1, k2⟩ := copy_r c (by omega)
  unfold I_RunCentre S_RunCentre
  rw [iCentre_r c h, sCentre_r c h, k1, k2]
  simp only [cl_some, lP_eq, l1In_r, within_r, br_dec, R_lt, R_add]
  by_cases hc : IsC c
  · simp only [hc, if_true]
    by_cases h2 : 0 ≤ k ∧ k ≤ 1000
    · rw [if_pos h2, if_pos h2]
      have hnow := hc.now
      rw [w64 (by omega) (by omega)]
      by_cases h3 : (100000 : Int) < c.Now + k
      · rw [if_pos h3, if_pos h3]
        exact ⟨_, rfl, rfl, h, fun _ _ _ => by omega, fun _ => rfl⟩
      · rw [if_neg h3, if_neg h3, gd_true (by omega), gd_true (by omega)]
        have ek : cntLt 0 k = k.toNat := by unfold cntLt; omega
        obtain ⟨r1, r2⟩ := run_l1 k.toNat c hc.d (by omega) (by omega)
        rw [ek, r1, r2, cl_some, cl_some]
        have hD := runD k.toNat hc.d
        obtain ⟨q1, q2⟩ := copy_r (runP k.toNat c) (by have := hD.tot; omega)
        have e : Centre.mk (runP k.toNat c).Belt (runP k.toNat c).Chutes (runP k.toNat c).Inlets (runP k.toNat c).Plan (runP k.toNat c).Now = runP k.toNat c := rfl
        simp only [e]
        rw [q2, cl_some]
        exact ⟨_, rfl, rfl, by have := hD.tot; omega, fun _ _ _ => rfl, fun hn => absurd ⟨trivial, h2, by omega⟩ hn⟩
    · rw [if_neg h2, if_neg h2]
      exact ⟨_, rfl, rfl, h, fun _ hk => absurd hk h2, fun _ => rfl⟩
  · simp only [hc, if_false]
    exact ⟨_, rfl, rfl, h, fun hh => absurd hh id, fun _ => rfl⟩
end Go.Vs
