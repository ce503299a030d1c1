/- Part of the proofs of this seat's laws: Drain. No condition. -/
import Derived.Test.YtieeagobedjogaaDraws
set_option linter.unusedVariables false
set_option linter.unusedSimpArgs false
set_option linter.unusedSectionVars false
/- A tick that moves nothing but the belt. -/
namespace Go.Vs
open Go.IntWalk
def heldN (l : List Chute) : Nat := (l.map fun y => y.Held.length).sum
def waitN (l : List Inlet) : Nat := (l.map fun y => y.Wait.length).sum
/-- nothing falls from b -/
def NoFall (plan : List Int) (i : Nat) (l : List Chute) (b : List Item) : Prop := ∀ j ch x, l[j]? = some ch → b[ch.Cell.toNat]? = some x → ¬ (x.Id ≠ 0 ∧ plan[x.Dest.toNat]? = some ((i + j : Nat) : Int) ∧ (ch.Held.length : Int) < ch.Room)
def NoFeed (l : List Inlet) (b : List Item) : Prop := ∀ y w ws x, y ∈ l → y.Wait = w :: ws → b[y.Cell.toNat]? = some x → x.Id ≠ 0
theorem heldN_cons (y : Chute) (l : List Chute) : heldN (y :: l) = y.Held.length + heldN l := by simp [heldN]
theorem waitN_cons (y : Inlet) (l : List Inlet) : waitN (y :: l) = y.Wait.length + waitN l := by simp [waitN]
theorem noFall_tail {plan : List Int} {i : Nat} {ch : Chute} {l : List Chute} {b : List Item} (h : NoFall plan i (ch :: l) b) : NoFall plan (i + 1) l b := fun j c x h1 h2 => by
  have := h (j + 1) c x (by simpa using h1) h2
  rwa [show i + (j + 1) = i + 1 + j from by omega] at this
theorem chP_still (plan : List Int) : ∀ (l : List Chute) (i : Nat) (b : List Item), NoFall plan i l b → chP plan i l b = (l, b)
  | [], i, b, _ => rfl
  | ch :: l, i, b, h => by
    rw [chP]
    have ih := chP_still plan l (i + 1) b (noFall_tail h)
    split
    · rename_i x hx
      rw [if_neg (by have := h 0 ch x rfl hx; simpa using this), ih]
    · rw [ih]
theorem chP_held (plan : List Int) : ∀ (l : List Chute) (i : Nat) (b : List Item), heldN l ≤ heldN (chP plan i l b).1 ∧ (heldN (chP plan i l b).1 = heldN l → NoFall plan i l b)
  | [], i, b => ⟨Nat.le_refl _, fun _ j ch x h => by simp at h⟩
  | ch :: l, i, b => by
    rw [chP]
    split
    · rename_i x hx
      split
      · have ih := (chP_held plan l (i + 1) (b.set ch.Cell.toNat ⟨0, 0⟩)).1
        simp only [heldN_cons, List.length_append, List.length_cons, List.length_nil]
        exact ⟨by omega, fun h => by omega⟩
      · rename_i hn
        obtain ⟨i1, i2⟩ := chP_held plan l (i + 1) b
        simp only [heldN_cons]
        refine ⟨by omega, fun h j c x' h1 h2 => ?_⟩
        cases j with
        | zero =>
          simp at h1; subst h1
          rw [hx] at h2; cases h2
          simpa using hn
        | succ j =>
          have := i2 (by omega) j c x' (by simpa using h1) h2
          rwa [show i + (j + 1) = i + 1 + j from by omega]
    · rename_i hx
      obtain ⟨i1, i2⟩ := chP_held plan l (i + 1) b
      simp only [heldN_cons]
      refine ⟨by omega, fun h j c x' h1 h2 => ?_⟩
      cases j with
      | zero => simp at h1; subst h1; rw [hx] at h2; cases h2
      | succ j =>
        have := i2 (by omega) j c x' (by simpa using h1) h2
        rwa [show i + (j + 1) = i + 1 + j from by omega]
theorem inP_still : ∀ (l : List Inlet) (b : List Item), NoFeed l b → inP l b = (l, b)
  | [], b, _ => rfl
  | y :: l, b, h => by
    rw [inP]
    have ih := inP_still l b fun z w ws x h1 => h z w ws x (by simp [h1])
    split
    · rename_i w ws x h1 h2
      rw [if_neg (h y w ws x (by simp) h1 h2), ih]
    · rw [ih]
theorem inP_wait : ∀ (l : List Inlet) (b : List Item), waitN (inP l b).1 ≤ waitN l ∧ (waitN (inP l b).1 = waitN l → NoFeed l b)
  | [], b => ⟨Nat.le_refl _, fun _ y w ws x h => by simp at h⟩
  | y :: l, b => by
    rw [inP]
    split
    · rename_i w ws x h1 h2
      split
      · have ih := (inP_wait l (b.set y.Cell.toNat w)).1
        have e : y.Wait.length = ws.length + 1 := by rw [h1]; rfl
        simp only [waitN_cons]
        exact ⟨by omega, fun h => by omega⟩
      · rename_i hn
        obtain ⟨i1, i2⟩ := inP_wait l b
        simp only [waitN_cons]
        refine ⟨by omega, fun h z w' ws' x' hz e1 e2 => ?_⟩
        rcases List.mem_cons.1 hz with rfl | hz
        · rw [h2] at e2; cases e2; exact hn
        · exact i2 (by omega) z w' ws' x' hz e1 e2
    · rename_i hno
      obtain ⟨i1, i2⟩ := inP_wait l b
      simp only [waitN_cons]
      refine ⟨by omega, fun h z w' ws' x' hz e1 e2 => ?_⟩
      rcases List.mem_cons.1 hz with rfl | hz
      · exact absurd e2 (hno w' ws' x' e1)
      · exact i2 (by omega) z w' ws' x' hz e1 e2

def rotN : Nat → List Item → List Item
  | 0, b => b
  | n + 1, b => rotP (rotN n b)
def nxp (n p : Nat) : Nat := if p + 1 < n then p + 1 else 0
theorem rot_len (b : List Item) : (rotP b).length = b.length := by
  by_cases h : 0 < b.length
  · exact (rotP_eq h).choose_spec.2.2.2
  · have : b = [] := List.length_eq_zero_iff.1 (by omega)
    subst this; rfl
theorem rotN_len (b : List Item) : ∀ n, (rotN n b).length = b.length
  | 0 => rfl
  | n + 1 => by rw [rotN, rot_len, rotN_len b n]
theorem rot_get {b : List Item} {p : Nat} (hp : p < b.length) : (rotP b)[nxp b.length p]? = b[p]? := by
  obtain ⟨x, h1, h2, _⟩ := rotP_eq (b := b) (by omega)
  rw [h2]
  unfold nxp
  by_cases h : p + 1 < b.length
  · rw [if_pos h, List.getElem?_cons_succ, List.getElem?_take, if_pos (by omega)]
  · rw [if_neg h, List.getElem?_cons_zero, ← h1]
    congr 1
    omega
def posp (n p j : Nat) : Nat := if p + j < n then p + j else p + j - n
theorem rotN_get {b : List Item} {p : Nat} (hp : p < b.length) : ∀ j, j ≤ b.length → (rotN j b)[posp b.length p j]? = b[p]?
  | 0, _ => by simp [rotN, posp, hp]
  | j + 1, h => by
    have ih := rotN_get hp j (by omega)
    have hlt : posp b.length p j < (rotN j b).length := by rw [rotN_len]; unfold posp; split <;> omega
    have := rot_get hlt
    rw [rotN_len, ih] at this
    rw [rotN, ← this]
    congr 1
    unfold nxp posp
    split <;> split <;> split <;> omega
theorem rotN_full (b : List Item) : rotN b.length b = b := by
  apply List.ext_getElem?
  intro p
  by_cases hp : p < b.length
  · have := rotN_get hp b.length (Nat.le_refl _)
    rwa [show posp b.length p b.length = p from by unfold posp; split <;> omega] at this
  · rw [List.getElem?_eq_none (by rw [rotN_len]; omega), List.getElem?_eq_none (by omega)]
theorem rotN_mem {b : List Item} {x : Item} : ∀ n, x ∈ rotN n b → x ∈ b
  | 0, h => h
  | n + 1, h => by
    rw [rotN] at h
    by_cases hl : 0 < (rotN n b).length
    · obtain ⟨_, _, _, h3, _⟩ := rotP_eq hl
      exact rotN_mem n (h3.mem_iff.1 h)
    · have : rotN n b = [] := List.length_eq_zero_iff.1 (by omega)
      rw [this] at h
      cases h
theorem tick_still {c : Centre} (h1 : NoFall c.Plan 0 c.Chutes (rotP c.Belt)) (h2 : NoFeed c.Inlets (rotP c.Belt)) : tickP c = ⟨rotP c.Belt, c.Chutes, c.Inlets, c.Plan, c.Now + 1⟩ := by
  unfold tickP
  simp only [chP_still _ _ _ _ h1, inP_still _ _ h2]
theorem run_succ (n : Nat) (c : Centre) : runP (n + 1) c = tickP (runP n c) := by rw [← run_add n 1]; rfl
theorem run_still {c : Centre} : ∀ n : Nat, (∀ j, j < n → NoFall c.Plan 0 c.Chutes (rotN (j + 1) c.Belt) ∧ NoFeed c.Inlets (rotN (j + 1) c.Belt)) → runP n c = ⟨rotN n c.Belt, c.Chutes, c.Inlets, c.Plan, c.Now + n⟩
  | 0, _ => by simp [runP, rotN]
  | n + 1, h => by
    have ih := run_still n fun j hj => h j (by omega)
    obtain ⟨h1, h2⟩ := h n (by omega)
    rw [run_succ, ih, tick_still h1 h2]
    simp only [rotN, Centre.mk.injEq, true_and]
    omega
theorem run_mono : ∀ (n : Nat) (c : Centre), heldN c.Chutes ≤ heldN (runP n c).Chutes ∧ waitN (runP n c).Inlets ≤ waitN c.Inlets
  | 0, c => ⟨Nat.le_refl _, Nat.le_refl _⟩
  | n + 1, c => by
    have ih := run_mono n c
    rw [run_succ]
    have h1 := (chP_held (runP n c).Plan (runP n c).Chutes 0 (rotP (runP n c).Belt)).1
    have h2 := (inP_wait (runP n c).Inlets (chP (runP n c).Plan 0 (runP n c).Chutes (rotP (runP n c).Belt)).2).1
    simp only [tickP]
    omega
/-- what leaves the counts leaves all -/
theorem still_of {c : Centre} : ∀ n : Nat, heldN (runP n c).Chutes = heldN c.Chutes → waitN (runP n c).Inlets = waitN c.Inlets → ∀ j, j < n → NoFall c.Plan 0 c.Chutes (rotN (j + 1) c.Belt) ∧ NoFeed c.Inlets (rotN (j + 1) c.Belt)
  | 0, _, _, j, hj => by omega
  | n + 1, h1, h2, j, hj => by
    have m := run_mono n c
    rw [run_succ] at h1 h2
    have k1 := chP_held (runP n c).Plan (runP n c).Chutes 0 (rotP (runP n c).Belt)
    have k2 := inP_wait (runP n c).Inlets (chP (runP n c).Plan 0 (runP n c).Chutes (rotP (runP n c).Belt)).2
    simp only [tickP] at h1 h2
    have ih := still_of (c := c) n (by omega) (by omega)
    by_cases e : j < n
    · exact ih j e
    · obtain rfl : j = n := by omega
      have er := run_still j ih
      have hf := k1.2 (by omega)
      rw [chP_still _ _ _ _ hf] at k2 h2
      have hg := k2.2 (by have q := k2.1; simp only at q h2 ⊢; omega)
      rw [er] at hf hg
      exact ⟨hf, hg⟩
end Go.Vs
/- What a run does to the chutes. -/
namespace Go.Vs
open Go.IntWalk
def Grow (plan : List Int) (i : Nat) (y y' : Chute) : Prop := y'.Room = y.Room ∧ y'.Cell = y.Cell ∧ ∃ s, y'.Held = y.Held ++ s ∧ ∀ x ∈ s, plan[x.Dest.toNat]? = some (i : Int)
theorem Grow.refl (plan : List Int) (i : Nat) (y : Chute) : Grow plan i y y := ⟨rfl, rfl, [], by simp, by simp⟩
theorem Grow.trans {plan : List Int} {i : Nat} {y y' y'' : Chute} (h : Grow plan i y y') (h' : Grow plan i y' y'') : Grow plan i y y'' := by
  obtain ⟨a1, a2, s, a3, a4⟩ := h
  obtain ⟨b1, b2, s', b3, b4⟩ := h'
  refine ⟨b1.trans a1, b2.trans a2, s ++ s', by rw [b3, a3, List.append_assoc], fun x hx => ?_⟩
  rcases List.mem_append.1 hx with hx | hx
  · exact a4 x hx
  · exact b4 x hx
theorem chP_grow (plan : List Int) : ∀ (l : List Chute) (i : Nat) (b : List Item) (j : Nat) (y' : Chute), (chP plan i l b).1[j]? = some y' → ∃ y, l[j]? = some y ∧ Grow plan (i + j) y y'
  | [], i, b, j, y', h => by simp [chP] at h
  | ch :: l, i, b, j, y', h => by
    rw [chP] at h
    split at h
    · rename_i x hx
      split at h
      · rename_i hc
        cases j with
        | zero =>
          simp only [List.getElem?_cons_zero, Option.some.injEq] at h
          subst h
          exact ⟨ch, rfl, rfl, rfl, [x], rfl, fun z hz => by simp at hz; subst hz; simpa using hc.2.1⟩
        | succ j =>
          simp only [List.getElem?_cons_succ] at h ⊢
          rw [show i + (j + 1) = i + 1 + j from by omega]
          exact chP_grow plan l (i + 1) _ j y' h
      · cases j with
        | zero =>
          simp only [List.getElem?_cons_zero, Option.some.injEq] at h
          subst h
          exact ⟨ch, rfl, Grow.refl _ _ _⟩
        | succ j =>
          simp only [List.getElem?_cons_succ] at h ⊢
          rw [show i + (j + 1) = i + 1 + j from by omega]
          exact chP_grow plan l (i + 1) _ j y' h
    · cases j with
      | zero =>
        simp only [List.getElem?_cons_zero, Option.some.injEq] at h
        subst h
        exact ⟨ch, rfl, Grow.refl _ _ _⟩
      | succ j =>
        simp only [List.getElem?_cons_succ] at h ⊢
        rw [show i + (j + 1) = i + 1 + j from by omega]
        exact chP_grow plan l (i + 1) _ j y' h
theorem run_plan : ∀ (n : Nat) (c : Centre), (runP n c).Plan = c.Plan
  | 0, c => rfl
  | n + 1, c => by rw [runP, run_plan n]; rfl
theorem run_grow : ∀ (n : Nat) (c : Centre) (j : Nat) (y' : Chute), (runP n c).Chutes[j]? = some y' → ∃ y, c.Chutes[j]? = some y ∧ Grow c.Plan j y y'
  | 0, c, j, y', h => ⟨y', h, Grow.refl _ _ _⟩
  | n + 1, c, j, y', h => by
    rw [runP] at h
    obtain ⟨y1, h1, g1⟩ := run_grow n (tickP c) j y' h
    obtain ⟨y, h2, g2⟩ := chP_grow c.Plan c.Chutes 0 _ j y1 h1
    rw [Nat.zero_add] at g2
    exact ⟨y, h2, g2.trans g1⟩
end Go.Vs
/- Where there is room for all, a centre drains in time. -/
namespace Go.Vs
open Go.IntWalk
def ds (plan : List Int) (m : Nat) (x : Item) : Bool := decide (x.Id ≠ 0 ∧ plan[x.Dest.toNat]? = some (m : Int))
def cB (plan : List Int) (m : Nat) (b : List Item) : Nat := b.countP (ds plan m)
def cW (plan : List Int) (m : Nat) (l : List Inlet) : Nat := (l.map fun y => y.Wait.countP (ds plan m)).sum
theorem cW_cons (plan : List Int) (m : Nat) (y : Inlet) (l : List Inlet) : cW plan m (y :: l) = y.Wait.countP (ds plan m) + cW plan m l := by simp [cW]
theorem countP_set' (P : Item → Bool) (b : List Item) : ∀ (i : Nat) (x y : Item), b[i]? = some x → (b.set i y).countP P + (if P x = true then 1 else 0) = b.countP P + (if P y = true then 1 else 0) := by
  induction b with
  | nil => intro i x y h; simp at h
  | cons z b ih =>
    intro i x y h
    cases i with
    | zero =>
      simp at h; subst h
      simp only [List.set_cons_zero, List.countP_cons]
      omega
    | succ i =>
      have := ih i x y (by simpa using h)
      simp only [List.set_cons_succ, List.countP_cons]
      omega
theorem ds_zero (plan : List Int) (m : Nat) : ds plan m ⟨0, 0⟩ = false := by simp [ds]
theorem chP_other (plan : List Int) (m : Nat) : ∀ (l : List Chute) (i : Nat) (b : List Item), m < i → cB plan m (chP plan i l b).2 = cB plan m b
  | [], i, b, _ => rfl
  | ch :: l, i, b, h => by
    rw [chP]
    split
    · rename_i x hx
      split
      · rename_i hc
        simp only
        rw [chP_other plan m l (i + 1) _ (by omega)]
        have := countP_set' (ds plan m) b _ x ⟨0, 0⟩ hx
        have hx0 : ds plan m x = false := by
          simp only [ds, decide_eq_false_iff_not]
          rintro ⟨_, h2⟩
          rw [hc.2.1] at h2
          simp at h2
          omega
        rw [ds_zero, hx0] at this
        simpa [cB] using this
      · simp only; exact chP_other plan m l (i + 1) _ (by omega)
    · simp only; exact chP_other plan m l (i + 1) _ (by omega)
theorem chP_need (plan : List Int) : ∀ (l : List Chute) (i : Nat) (b : List Item) (j : Nat) (y y' : Chute), l[j]? = some y → (chP plan i l b).1[j]? = some y' → y'.Held.length + cB plan (i + j) (chP plan i l b).2 = y.Held.length + cB plan (i + j) b
  | [], i, b, j, y, y', h, _ => by simp at h
  | ch :: l, i, b, j, y, y', h, h' => by
    rw [chP] at h' ⊢
    split at h'
    · rename_i x hx
      split at h'
      · rename_i hc
        rw [if_pos hc]
        have hs := countP_set' (ds plan (i + j)) b _ x ⟨0, 0⟩ hx
        rw [ds_zero] at hs
        cases j with
        | zero =>
          simp at h h'
          subst h
          subst h'
          simp only [Nat.add_zero] at hs ⊢
          rw [chP_other plan i l (i + 1) _ (by omega)]
          have hx1 : ds plan i x = true := by simp only [ds, decide_eq_true_eq]; exact ⟨hc.1, hc.2.1⟩
          simp only [cB, hx1, if_true, List.length_append, List.length_cons, List.length_nil] at hs ⊢
          simp only [Bool.false_eq_true, if_false] at hs
          omega
        | succ j =>
          simp only [List.getElem?_cons_succ] at h h'
          have hx0 : ds plan (i + (j + 1)) x = false := by
            simp only [ds, decide_eq_false_iff_not]
            rintro ⟨_, h2⟩
            rw [hc.2.1] at h2
            simp at h2
            omega
          have ih := chP_need plan l (i + 1) _ j y y' h h'
          rw [show i + 1 + j = i + (j + 1) from by omega] at ih
          simp only [cB, hx0, Bool.false_eq_true, if_false] at hs ih ⊢
          omega
      · rename_i hc
        rw [if_neg hc]
        cases j with
        | zero =>
          simp at h h'
          subst h
          subst h'
          simp only [Nat.add_zero]
          rw [chP_other plan i l (i + 1) _ (by omega)]
        | succ j =>
          simp only [List.getElem?_cons_succ] at h h'
          have ih := chP_need plan l (i + 1) _ j y y' h h'
          rwa [show i + 1 + j = i + (j + 1) from by omega] at ih
    · rename_i hx
      simp only at h' ⊢
      cases j with
      | zero =>
        simp at h h'
        subst h
        subst h'
        simp only [Nat.add_zero]
        rw [chP_other plan i l (i + 1) _ (by omega)]
      | succ j =>
        simp only [List.getElem?_cons_succ] at h h'
        have ih := chP_need plan l (i + 1) _ j y y' h h'
        rwa [show i + 1 + j = i + (j + 1) from by omega] at ih
theorem inP_need (plan : List Int) (m : Nat) : ∀ (l : List Inlet) (b : List Item), cB plan m (inP l b).2 + cW plan m (inP l b).1 = cB plan m b + cW plan m l
  | [], b => rfl
  | y :: l, b => by
    rw [inP]
    split
    · rename_i w ws x hw hx
      split
      · rename_i h0
        have ih := inP_need plan m l (b.set y.Cell.toNat w)
        have hs := countP_set' (ds plan m) b _ x w hx
        have hx0 : ds plan m x = false := by simp [ds, h0]
        have hc : y.Wait.countP (ds plan m) = ws.countP (ds plan m) + (if ds plan m w = true then 1 else 0) := by rw [hw, List.countP_cons]
        simp only [cW_cons]
        simp only [cB, hx0, Bool.false_eq_true, if_false] at hs ih ⊢
        omega
      · have ih := inP_need plan m l b
        simp only [cW_cons]
        omega
    · have ih := inP_need plan m l b
      simp only [cW_cons]
      omega
/-- there is room for all -/
def Roomy (c : Centre) : Prop := ∀ j y, c.Chutes[j]? = some y → (y.Held.length : Int) + cB c.Plan j c.Belt + cW c.Plan j c.Inlets ≤ y.Room
theorem rot_perm (b : List Item) : (rotP b).Perm b := by
  by_cases hl : 0 < b.length
  · obtain ⟨_, _, _, h3, _⟩ := rotP_eq hl; exact h3
  · have e : b = [] := List.length_eq_zero_iff.1 (by omega)
    subst e; exact .refl _
theorem roomy_tick {c : Centre} (h : Roomy c) : Roomy (tickP c) := by
  intro j y' hj
  obtain ⟨y, h1, g1, g2, g3⟩ := run_grow 1 c j y' hj
  have h2 := chP_need c.Plan c.Chutes 0 (rotP c.Belt) j y y' h1 hj
  have h3 := inP_need c.Plan j c.Inlets (chP c.Plan 0 c.Chutes (rotP c.Belt)).2
  have h4 : cB c.Plan j (rotP c.Belt) = cB c.Plan j c.Belt := (rot_perm c.Belt).countP_eq _
  have h5 := h j y h1
  rw [Nat.zero_add] at h2
  rw [g1]
  show (y'.Held.length : Int) + cB c.Plan j (inP c.Inlets (chP c.Plan 0 c.Chutes (rotP c.Belt)).2).2 + cW c.Plan j (inP c.Inlets (chP c.Plan 0 c.Chutes (rotP c.Belt)).2).1 ≤ y.Room
  omega
theorem roomy_run {c : Centre} (h : Roomy c) : ∀ n, Roomy (runP n c)
  | 0 => h
  | n + 1 => by rw [run_succ]; exact roomy_tick (roomy_run h n)
/-- what stays on the belt has not come to its chute -/
theorem chP_left (plan : List Int) : ∀ (l : List Chute) (i : Nat) (b : List Item), (∀ j ch x, l[j]? = some ch → b[ch.Cell.toNat]? = some x → x.Id ≠ 0 → plan[x.Dest.toNat]? = some ((i + j : Nat) : Int) → (ch.Held.length : Int) < ch.Room) →
    ∀ p x, (chP plan i l b).2[p]? = some x → x.Id ≠ 0 → b[p]? = some x ∧ ∀ j ch, l[j]? = some ch → ch.Cell.toNat = p → plan[x.Dest.toNat]? ≠ some ((i + j : Nat) : Int)
  | [], i, b, _, p, x, h, _ => ⟨h, fun j ch hj => by simp at hj⟩
  | ch :: l, i, b, ha, p, x, h, h0 => by
    rw [chP] at h
    split at h
    · rename_i z hz
      split at h
      · rename_i hc
        obtain ⟨i1, i2⟩ := chP_left plan l (i + 1) (b.set ch.Cell.toNat ⟨0, 0⟩) (fun j c2 w h1 h2 h3 h4 => by
          rw [List.getElem?_set] at h2
          split at h2
          · split at h2
            · cases h2; exact absurd rfl h3
            · cases h2
          · exact ha (j + 1) c2 w (by simpa using h1) h2 h3 (by rwa [show i + (j + 1) = i + 1 + j from by omega])) p x h h0
        rw [List.getElem?_set] at i1
        split at i1
        · split at i1
          · cases i1; exact absurd rfl h0
          · cases i1
        · rename_i hne
          refine ⟨i1, fun j c2 hj he => ?_⟩
          cases j with
          | zero => simp at hj; subst hj; exact absurd he hne
          | succ j =>
            have := i2 j c2 (by simpa using hj) he
            rwa [show i + (j + 1) = i + 1 + j from by omega]
      · rename_i hc
        obtain ⟨i1, i2⟩ := chP_left plan l (i + 1) b (fun j c2 w h1 h2 h3 h4 => ha (j + 1) c2 w (by simpa using h1) h2 h3 (by rwa [show i + (j + 1) = i + 1 + j from by omega])) p x h h0
        refine ⟨i1, fun j c2 hj he => ?_⟩
        cases j with
        | zero =>
          simp at hj; subst hj
          rw [he, i1] at hz
          cases hz
          intro hp
          exact hc ⟨h0, by simpa using hp, ha 0 ch x rfl (by rw [he]; exact i1) h0 hp⟩
        | succ j =>
          have := i2 j c2 (by simpa using hj) he
          rwa [show i + (j + 1) = i + 1 + j from by omega]
    · rename_i hz
      obtain ⟨i1, i2⟩ := chP_left plan l (i + 1) b (fun j c2 w h1 h2 h3 h4 => ha (j + 1) c2 w (by simpa using h1) h2 h3 (by rwa [show i + (j + 1) = i + 1 + j from by omega])) p x h h0
      refine ⟨i1, fun j c2 hj he => ?_⟩
      cases j with
      | zero => simp at hj; subst hj; rw [he, i1] at hz; cases hz
      | succ j =>
        have := i2 j c2 (by simpa using hj) he
        rwa [show i + (j + 1) = i + 1 + j from by omega]
end Go.Vs
/- How long it takes. -/
namespace Go.Vs
open Go.IntWalk
def wS (f : Nat → Item → Nat) : Nat → List Item → Nat
  | _, [] => 0
  | i, x :: l => f i x + wS f (i + 1) l
theorem wS_append (f : Nat → Item → Nat) : ∀ (a b : List Item) (i : Nat), wS f i (a ++ b) = wS f i a + wS f (i + a.length) b
  | [], b, i => by simp [wS]
  | x :: a, b, i => by
    rw [List.cons_append, wS, wS, wS_append f a b (i + 1), List.length_cons, show i + 1 + a.length = i + (a.length + 1) from by omega]
    omega
theorem wS_set (f : Nat → Item → Nat) : ∀ (l : List Item) (i k : Nat) (x y : Item), l[k]? = some x → wS f i (l.set k y) + f (i + k) x = wS f i l + f (i + k) y
  | [], i, k, x, y, h => by simp at h
  | z :: l, i, 0, x, y, h => by
    simp at h; subst h
    simp only [List.set_cons_zero, wS, Nat.add_zero]
    omega
  | z :: l, i, k + 1, x, y, h => by
    have := wS_set f l (i + 1) k x y (by simpa using h)
    simp only [List.set_cons_succ, wS]
    rw [show i + (k + 1) = i + 1 + k from by omega]
    omega
/-- place by place -/
theorem wS_le (f g : Nat → Item → Nat) : ∀ (a b : List Item) (i j : Nat), a.length = b.length → (∀ p x y, a[p]? = some x → b[p]? = some y → f (i + p) x ≤ g (j + p) y) → wS f i a ≤ wS g j b
  | [], [], i, j, _, _ => Nat.le_refl _
  | x :: a, y :: b, i, j, h, hh => by
    have h0 := hh 0 x y rfl rfl
    have := wS_le f g a b (i + 1) (j + 1) (by simpa using h) fun p x y h1 h2 => by
      have := hh (p + 1) x y (by simpa using h1) (by simpa using h2)
      rwa [show i + (p + 1) = i + 1 + p from by omega, show j + (p + 1) = j + 1 + p from by omega] at this
    simp only [wS]
    simp only [Nat.add_zero] at h0
    omega
  | [], _ :: _, _, _, h, _ => by simp at h
  | _ :: _, [], _, _, h, _ => by simp at h
theorem wS_lt (f g : Nat → Item → Nat) : ∀ (a b : List Item) (i j : Nat), a.length = b.length → (∀ p x y, a[p]? = some x → b[p]? = some y → f (i + p) x ≤ g (j + p) y) → (∃ p x y, a[p]? = some x ∧ b[p]? = some y ∧ f (i + p) x + 1 ≤ g (j + p) y) → wS f i a + 1 ≤ wS g j b
  | [], [], i, j, _, _, h => by obtain ⟨p, x, y, h1, _⟩ := h; simp at h1
  | x :: a, y :: b, i, j, h, hh, hs => by
    have h0 := hh 0 x y rfl rfl
    have ht : ∀ p x y, a[p]? = some x → b[p]? = some y → f (i + 1 + p) x ≤ g (j + 1 + p) y := fun p x y h1 h2 => by
      have := hh (p + 1) x y (by simpa using h1) (by simpa using h2)
      rwa [show i + (p + 1) = i + 1 + p from by omega, show j + (p + 1) = j + 1 + p from by omega] at this
    have hl : a.length = b.length := by simpa using h
    simp only [Nat.add_zero] at h0
    simp only [wS]
    obtain ⟨p, u, v, h1, h2, h3⟩ := hs
    cases p with
    | zero =>
      simp at h1 h2
      subst h1
      subst h2
      have := wS_le f g a b (i + 1) (j + 1) hl ht
      simp only [Nat.add_zero] at h3
      omega
    | succ p =>
      have := wS_lt f g a b (i + 1) (j + 1) hl ht ⟨p, u, v, by simpa using h1, by simpa using h2, by rwa [show i + 1 + p = i + (p + 1) from by omega, show j + 1 + p = j + (p + 1) from by omega]⟩
      omega
  | [], _ :: _, _, _, h, _, _ => by simp at h
  | _ :: _, [], _, _, h, _, _ => by simp at h
/-- a belt turned: the weights move on -/
theorem wS_rot (f g : Nat → Item → Nat) {b : List Item} (hb : 0 < b.length) (h : ∀ p x, b[p]? = some x → g (nxp b.length p) x ≤ f p x) : wS g 0 (rotP b) ≤ wS f 0 b ∧ ((∃ p x, b[p]? = some x ∧ g (nxp b.length p) x + 1 ≤ f p x) → wS g 0 (rotP b) + 1 ≤ wS f 0 b) := by
  obtain ⟨z, h1, h2, _⟩ := rotP_eq hb
  have hz : b = b.take (b.length - 1) ++ [z] := by
    have := List.take_append_getElem (show b.length - 1 < b.length by omega)
    rw [show b.length - 1 + 1 = b.length from by omega, List.take_length] at this
    rw [List.getElem?_eq_getElem (by omega)] at h1
    rw [← Option.some.inj h1]
    exact this.symm
  have hlen : (b.take (b.length - 1)).length = b.length - 1 := by simp
  have hlast : g 0 z ≤ f (b.length - 1) z := by
    have := h (b.length - 1) z h1
    rwa [show nxp b.length (b.length - 1) = 0 from by unfold nxp; rw [if_neg (by omega)]] at this
  have hrest : ∀ p x y, (b.take (b.length - 1))[p]? = some x → (b.take (b.length - 1))[p]? = some y → g (1 + p) x ≤ f (0 + p) y := fun p x y e1 e2 => by
    rw [e1] at e2
    cases e2
    have hp : p < b.length - 1 := by have := (List.getElem?_eq_some_iff.1 e1).1; rwa [hlen] at this
    rw [List.getElem?_take, if_pos hp] at e1
    have := h p x e1
    rw [show nxp b.length p = 1 + p from by unfold nxp; rw [if_pos (by omega)]; omega] at this
    rwa [Nat.zero_add]
  have e : wS f 0 b = wS f 0 (b.take (b.length - 1)) + f (b.length - 1) z := by
    have := congrArg (wS f 0) hz
    rw [wS_append, hlen] at this
    simpa [wS] using this
  have hle := wS_le g f (b.take (b.length - 1)) (b.take (b.length - 1)) 1 0 rfl hrest
  rw [h2, wS, e]
  refine ⟨by simp only [Nat.zero_add]; omega, ?_⟩
  rintro ⟨p, x, e1, e2⟩
  have hp : p < b.length := (List.getElem?_eq_some_iff.1 e1).1
  by_cases hpl : p = b.length - 1
  · subst hpl
    rw [h1] at e1
    cases e1
    rw [show nxp b.length (b.length - 1) = 0 from by unfold nxp; rw [if_neg (by omega)]] at e2
    simp only [Nat.zero_add]
    omega
  · have := wS_lt g f (b.take (b.length - 1)) (b.take (b.length - 1)) 1 0 rfl hrest ⟨p, x, x, by rw [List.getElem?_take, if_pos (by omega)]; exact e1, by rw [List.getElem?_take, if_pos (by omega)]; exact e1, by
      rw [show nxp b.length p = 1 + p from by unfold nxp; rw [if_pos (by omega)]; omega] at e2
      rwa [Nat.zero_add]⟩
    simp only [Nat.zero_add]
    omega

/-- how far it is from p to t, the way the belt goes: 1 .. L -/
def dn (L p t : Nat) : Nat := if p < t then t - p else t + L - p
theorem dn_nx {L p t : Nat} (hp : p < L) (ht : t < L) (h : nxp L p ≠ t) : dn L (nxp L p) t + 1 = dn L p t := by
  by_cases h1 : p + 1 < L
  · have e : nxp L p = p + 1 := by unfold nxp; rw [if_pos h1]
    rw [e] at h ⊢
    unfold dn
    split <;> split <;> omega
  · have e : nxp L p = 0 := by unfold nxp; rw [if_neg h1]
    rw [e] at h ⊢
    unfold dn
    split <;> split <;> omega
theorem dn_at {L p t : Nat} (hp : p < L) (h : nxp L p = t) : dn L p t = 1 := by
  unfold nxp at h
  unfold dn
  split at h <;> split <;> omega
theorem dn_bounds {L p t : Nat} (hp : p < L) (ht : t < L) : 1 ≤ dn L p t ∧ dn L p t ≤ L := by unfold dn; split <;> omega
theorem dn_self {L p : Nat} (hp : p < L) : dn L p p = L := by unfold dn; rw [if_neg (by omega)]; omega
/-- the cell of an item's chute -/
def tg (plan : List Int) (cells : List Int) (x : Item) : Nat := match plan[x.Dest.toNat]? with
  | some k => match cells[k.toNat]? with
    | some q => q.toNat
    | none => 0
  | none => 0
/-- an item on the belt that is still to pass q -/
def pf (plan cells : List Int) (L q : Nat) (p : Nat) (x : Item) : Nat := if x.Id ≠ 0 ∧ dn L p q < dn L p (tg plan cells x) then 1 else 0
theorem inP_w (f : Nat → Item → Nat) (hf : ∀ p x, f p x ≤ 1) (hz : ∀ p x, x.Id = 0 → f p x = 0) : ∀ (l : List Inlet) (b : List Item), waitN (inP l b).1 + wS f 0 (inP l b).2 ≤ waitN l + wS f 0 b
  | [], b => Nat.le_refl _
  | y :: l, b => by
    rw [inP]
    split
    · rename_i w ws x hw hx
      split
      · rename_i h0
        have ih := inP_w f hf hz l (b.set y.Cell.toNat w)
        have hs := wS_set f b 0 _ x w hx
        have h1 := hf (0 + y.Cell.toNat) w
        rw [hz _ x h0] at hs
        have e : y.Wait.length = ws.length + 1 := by rw [hw]; rfl
        simp only [waitN_cons]
        omega
      · have ih := inP_w f hf hz l b
        simp only [waitN_cons]
        omega
    · have ih := inP_w f hf hz l b
      simp only [waitN_cons]
      omega
theorem inP_ws (f : Nat → Item → Nat) (hf : ∀ p x, f p x ≤ 1) (hz : ∀ p x, x.Id = 0 → f p x = 0) (q : Nat) (hq : ∀ x, f q x = 0) : ∀ (l : List Inlet) (b : List Item), (l.map fun y => y.Cell.toNat).Nodup → (∃ y x, y ∈ l ∧ y.Cell.toNat = q ∧ y.Wait ≠ [] ∧ b[q]? = some x ∧ x.Id = 0) → waitN (inP l b).1 + wS f 0 (inP l b).2 + 1 ≤ waitN l + wS f 0 b
  | [], b, _, h => by obtain ⟨y, x, h1, _⟩ := h; cases h1
  | y :: l, b, hn, h => by
    obtain ⟨y0, x0, m1, m2, m3, m4, m5⟩ := h
    have hn' := List.nodup_cons.1 (by simpa using hn : (y.Cell.toNat :: l.map fun y => y.Cell.toNat).Nodup)
    rw [inP]
    by_cases hy : y = y0
    · subst hy
      obtain ⟨w, ws, hw⟩ := List.exists_cons_of_ne_nil m3
      rw [m2]
      rw [hw, m4]
      simp only
      rw [if_pos m5]
      have ih := inP_w f hf hz l (b.set q w)
      have hs := wS_set f b 0 _ x0 w m4
      rw [hz _ x0 m5, Nat.zero_add, hq] at hs
      have e : y.Wait.length = ws.length + 1 := by rw [hw]; rfl
      simp only [waitN_cons]
      omega
    · have hm : y0 ∈ l := by
        rcases List.mem_cons.1 m1 with e | e
        · exact absurd e.symm hy
        · exact e
      have hne : y.Cell.toNat ≠ q := fun e => hn'.1 (List.mem_map.2 ⟨y0, hm, by rw [m2, e]⟩)
      split
      · rename_i w ws x hw hx
        split
        · rename_i h0
          have ih := inP_ws f hf hz q hq l (b.set y.Cell.toNat w) hn'.2 ⟨y0, x0, hm, m2, m3, by rw [List.getElem?_set_ne hne]; exact m4, m5⟩
          have hs := wS_set f b 0 _ x w hx
          have h1 := hf (0 + y.Cell.toNat) w
          rw [hz _ x h0] at hs
          have e : y.Wait.length = ws.length + 1 := by rw [hw]; rfl
          simp only [waitN_cons]
          omega
        · have ih := inP_ws f hf hz q hq l b hn'.2 ⟨y0, x0, hm, m2, m3, m4, m5⟩
          simp only [waitN_cons]
          omega
      · have ih := inP_ws f hf hz q hq l b hn'.2 ⟨y0, x0, hm, m2, m3, m4, m5⟩
        simp only [waitN_cons]
        omega
end Go.Vs
/- A centre with room for all drains within its items and a lap. -/
namespace Go.Vs
open Go.IntWalk
def cl' (c : Centre) : List Int := c.Chutes.map (·.Cell)
theorem isD_cell {c : Centre} (h : IsD c) {x : Chute} (hx : x ∈ c.Chutes) : 0 ≤ x.Cell ∧ x.Cell < c.Belt.length := by
  have h0 : IsC ⟨c.Belt, c.Chutes, c.Inlets, c.Plan, 0⟩ := h
  have := h0.cell hx
  exact ⟨this.1, this.2.1⟩
theorem isD_len {c : Centre} (h : IsD c) : 2 ≤ c.Belt.length := by
  have h0 : IsC ⟨c.Belt, c.Chutes, c.Inlets, c.Plan, 0⟩ := h
  exact h0.belt.1
theorem tg_lt {c : Centre} (h : IsD c) (x : Item) : tg c.Plan (cl' c) x < c.Belt.length := by
  have hl := isD_len h
  unfold tg
  split
  · split
    · rename_i k _ q hq
      have hm := List.mem_of_getElem? hq
      unfold cl' at hm
      obtain ⟨y, hy, rfl⟩ := List.mem_map.1 hm
      have := isD_cell h hy
      omega
    · omega
  · omega
theorem tg_at {c : Centre} (h : IsD c) {x : Item} (hx : x ∈ c.Belt) (h0 : x.Id ≠ 0) : ∃ (j : Nat) (y : Chute), c.Plan[x.Dest.toNat]? = some (j : Int) ∧ c.Chutes[j]? = some y ∧ tg c.Plan (cl' c) x = y.Cell.toNat := by
  have hC : IsC ⟨c.Belt, c.Chutes, c.Inlets, c.Plan, 0⟩ := h
  have hm := belt_items (c := ⟨c.Belt, c.Chutes, c.Inlets, c.Plan, 0⟩) hx fun e => h0 e.1
  obtain ⟨_, _, q1, q2⟩ := hC.item hm
  obtain ⟨k, hk, hkm⟩ := getL (l := c.Plan) q1 q2
  obtain ⟨r1, r2⟩ := hC.goal hkm
  obtain ⟨y, hy, _⟩ := getL (l := c.Chutes) r1 r2
  refine ⟨k.toNat, y, by rw [hk]; congr 1; omega, hy, ?_⟩
  unfold tg cl'
  rw [hk]
  simp only [List.getElem?_map, hy, Option.map_some]
/-- the place ahead -/
theorem back1 {b : List Item} {p : Nat} {x : Item} (h : (rotP b)[p]? = some x) : ∃ q, b[q]? = some x ∧ q < b.length ∧ nxp b.length q = p := by
  have hp : p < b.length := by have := (List.getElem?_eq_some_iff.1 h).1; rwa [rot_len] at this
  by_cases h0 : p = 0
  · have e : nxp b.length (b.length - 1) = p := by unfold nxp; rw [if_neg (by omega)]; omega
    have := rot_get (b := b) (p := b.length - 1) (by omega)
    rw [e, h] at this
    exact ⟨_, this.symm, by omega, e⟩
  · have e : nxp b.length (p - 1) = p := by unfold nxp; rw [if_pos (by omega)]; omega
    have := rot_get (b := b) (p := p - 1) (by omega)
    rw [e, h] at this
    exact ⟨_, this.symm, by omega, e⟩
/-- after the falls: what is left was one place back and is not at its chute -/
theorem left_tick {c : Centre} (h : IsD c) (hr : Roomy c) {p : Nat} {x : Item} (hx : (chP c.Plan 0 c.Chutes (rotP c.Belt)).2[p]? = some x) (h0 : x.Id ≠ 0) :
    (rotP c.Belt)[p]? = some x ∧ tg c.Plan (cl' c) x ≠ p := by
  obtain ⟨h1, h2⟩ := chP_left c.Plan c.Chutes 0 (rotP c.Belt) (fun j ch z e1 e2 e3 e4 => by
    have hm : z ∈ c.Belt := (rot_perm c.Belt).mem_iff.1 (List.mem_of_getElem? e2)
    have := hr j ch e1
    rw [Nat.zero_add] at e4
    have hpos : 0 < cB c.Plan j c.Belt := List.countP_pos_iff.2 ⟨z, hm, by simp only [ds, decide_eq_true_eq]; exact ⟨e3, e4⟩⟩
    omega) p x hx h0
  refine ⟨h1, fun e => ?_⟩
  have hm : x ∈ c.Belt := (rot_perm c.Belt).mem_iff.1 (List.mem_of_getElem? h1)
  obtain ⟨j, y, a1, a2, a3⟩ := tg_at h hm h0
  exact h2 j y a2 (by rw [← a3, e]) (by rw [Nat.zero_add]; exact a1)
theorem pf_le (plan cells : List Int) (L q p : Nat) (x : Item) : pf plan cells L q p x ≤ 1 := by unfold pf; split <;> omega
theorem pf_zero (plan cells : List Int) (L q p : Nat) (x : Item) (h : x.Id = 0) : pf plan cells L q p x = 0 := by unfold pf; rw [if_neg fun e => e.1 h]
theorem tick_w {c : Centre} (h : IsD c) (hr : Roomy c) {y0 : Inlet} (hy : y0 ∈ c.Inlets) (hw : y0.Wait ≠ []) :
    waitN (tickP c).Inlets + wS (pf c.Plan (cl' c) c.Belt.length y0.Cell.toNat) 0 (tickP c).Belt + 1 ≤ waitN c.Inlets + wS (pf c.Plan (cl' c) c.Belt.length y0.Cell.toNat) 0 c.Belt := by
  have hC : IsC ⟨c.Belt, c.Chutes, c.Inlets, c.Plan, 0⟩ := h
  obtain ⟨i1, i2, _⟩ := hC.inlet hy
  simp only at i2
  generalize hq : y0.Cell.toNat = q
  have hqL : q < c.Belt.length := by omega
  generalize hf : pf c.Plan (cl' c) c.Belt.length q = f
  have f1 : ∀ p x, f p x ≤ 1 := fun p x => by rw [← hf]; exact pf_le _ _ _ _ _ _
  have f0 : ∀ p x, x.Id = 0 → f p x = 0 := fun p x e => by rw [← hf]; exact pf_zero _ _ _ _ _ _ e
  have fq : ∀ x, f q x = 0 := fun x => by
    rw [← hf]
    unfold pf
    have := dn_bounds (p := q) hqL (tg_lt h x)
    rw [if_neg (by rw [dn_self hqL]; omega)]
  have hb : 0 < c.Belt.length := by omega
  generalize hg : (fun (p : Nat) (x : Item) => if tg c.Plan (cl' c) x = p then 0 else f p x) = g
  -- the turn
  have step : ∀ p x, c.Belt[p]? = some x → g (nxp c.Belt.length p) x ≤ f p x := by
    intro p x hx
    have hp : p < c.Belt.length := (List.getElem?_eq_some_iff.1 hx).1
    rw [← hg]
    simp only
    split
    · omega
    · rename_i ht
      by_cases h0 : x.Id = 0
      · rw [f0 _ _ h0]; omega
      · by_cases hnq : nxp c.Belt.length p = q
        · rw [hnq, fq]; omega
        · have d1 := dn_nx hp (tg_lt h x) (fun e => ht e.symm)
          have d2 := dn_nx hp hqL hnq
          rw [← hf]
          unfold pf
          split
          · rename_i h1; rw [if_pos ⟨h0, by omega⟩]; omega
          · omega
  obtain ⟨rot1, rot2⟩ := wS_rot f g hb step
  have fall : wS f 0 (chP c.Plan 0 c.Chutes (rotP c.Belt)).2 ≤ wS g 0 (rotP c.Belt) := by
    refine wS_le f g _ _ 0 0 (chP_shape c.Plan c.Chutes 0 (rotP c.Belt)).2.1 fun p x y e1 e2 => ?_
    simp only [Nat.zero_add]
    by_cases h0 : x.Id = 0
    · rw [f0 _ _ h0]; omega
    · obtain ⟨l1, l2⟩ := left_tick h hr e1 h0
      rw [l1] at e2
      cases e2
      rw [← hg]
      simp only
      rw [if_neg l2]
      omega
  have hlen2 : (chP c.Plan 0 c.Chutes (rotP c.Belt)).2.length = c.Belt.length := by rw [(chP_shape c.Plan c.Chutes 0 (rotP c.Belt)).2.1, rot_len]
  obtain ⟨x, hx⟩ : ∃ x, (chP c.Plan 0 c.Chutes (rotP c.Belt)).2[q]? = some x := ⟨_, List.getElem?_eq_getElem (by rw [hlen2]; exact hqL)⟩
  show waitN (inP c.Inlets (chP c.Plan 0 c.Chutes (rotP c.Belt)).2).1 + wS f 0 (inP c.Inlets (chP c.Plan 0 c.Chutes (rotP c.Belt)).2).2 + 1 ≤ _
  by_cases h0 : x.Id = 0
  · have hnd : (c.Inlets.map fun y => y.Cell.toNat).Nodup := by
      have hn := hC.inn
      have hin : ∀ y ∈ c.Inlets, 0 ≤ y.Cell := fun y hy => (hC.inlet hy).1
      simp only at hn
      have : ∀ l : List Inlet, (∀ y ∈ l, 0 ≤ y.Cell) → (l.map (·.Cell)).Nodup → (l.map fun y => y.Cell.toNat).Nodup := by
        intro l
        induction l with
        | nil => intro _ _; simp
        | cons z l ih =>
          intro hz hnd
          simp only [List.map_cons, List.nodup_cons] at hnd ⊢
          refine ⟨fun hmem => ?_, ih (fun y hy => hz y (by simp [hy])) hnd.2⟩
          obtain ⟨y, hy, e⟩ := List.mem_map.1 hmem
          have a1 := hz y (by simp [hy])
          have a2 := hz z (by simp)
          exact hnd.1 (List.mem_map.2 ⟨y, hy, by omega⟩)
      exact this _ hin hn
    have := inP_ws f f1 f0 q fq c.Inlets (chP c.Plan 0 c.Chutes (rotP c.Belt)).2 hnd ⟨y0, x, hy, hq, hw, hx, h0⟩
    omega
  · have := inP_w f f1 f0 c.Inlets (chP c.Plan 0 c.Chutes (rotP c.Belt)).2
    obtain ⟨l1, l2⟩ := left_tick h hr hx h0
    obtain ⟨p, p1, p2, p3⟩ := back1 l1
    have hstrict := rot2 ⟨p, x, p1, by
      rw [p3, ← hg]
      simp only
      rw [if_neg l2, fq]
      have d1 := dn_nx p2 (tg_lt h x) (by rw [p3]; exact fun e => l2 e.symm)
      have d2 := dn_at p2 p3
      have d3 := dn_bounds (p := q) hqL (tg_lt h x)
      rw [p3] at d1
      rw [← hf]
      unfold pf
      rw [if_pos ⟨h0, by omega⟩]
      omega⟩
    omega
theorem inP_idx : ∀ (l : List Inlet) (b : List Item) (i : Nat) (y' : Inlet), (inP l b).1[i]? = some y' → ∃ y, l[i]? = some y ∧ y'.Cell = y.Cell ∧ (y'.Wait ≠ [] → y.Wait ≠ [])
  | [], b, i, y', h => by simp [inP] at h
  | y :: l, b, i, y', h => by
    rw [inP] at h
    split at h
    · rename_i w ws x hw hx
      split at h
      · cases i with
        | zero => simp at h; subst h; exact ⟨y, rfl, rfl, fun _ e => by rw [hw] at e; cases e⟩
        | succ i => simp only [List.getElem?_cons_succ] at h ⊢; exact inP_idx l _ i y' h
      · cases i with
        | zero => simp at h; subst h; exact ⟨y, rfl, rfl, fun e => e⟩
        | succ i => simp only [List.getElem?_cons_succ] at h ⊢; exact inP_idx l _ i y' h
    · cases i with
      | zero => simp at h; subst h; exact ⟨y, rfl, rfl, fun e => e⟩
      | succ i => simp only [List.getElem?_cons_succ] at h ⊢; exact inP_idx l _ i y' h
theorem run_cells : ∀ (n : Nat) (c : Centre), cl' (runP n c) = cl' c ∧ (runP n c).Belt.length = c.Belt.length
  | 0, c => ⟨rfl, rfl⟩
  | n + 1, c => by
    obtain ⟨h1, h2⟩ := run_cells n c
    rw [run_succ]
    refine ⟨?_, ?_⟩
    · rw [← h1]; exact (chP_shape (runP n c).Plan (runP n c).Chutes 0 (rotP (runP n c).Belt)).2.2.1
    · rw [← h2]
      show (inP _ _).2.length = _
      rw [(inP_shape _ _).2.1, (chP_shape _ _ _ _).2.1, rot_len]
theorem wait_bound {c : Centre} (h : IsD c) (hr : Roomy c) {i : Nat} {y0 : Inlet} (hy : c.Inlets[i]? = some y0) : ∀ (n : Nat) (y' : Inlet), (runP n c).Inlets[i]? = some y' → y'.Wait ≠ [] →
    y'.Cell = y0.Cell ∧ waitN (runP n c).Inlets + wS (pf c.Plan (cl' c) c.Belt.length y0.Cell.toNat) 0 (runP n c).Belt + n ≤ waitN c.Inlets + wS (pf c.Plan (cl' c) c.Belt.length y0.Cell.toNat) 0 c.Belt
  | 0, y', h', _ => by
    rw [runP, hy] at h'
    cases h'
    exact ⟨rfl, Nat.le_refl _⟩
  | n + 1, y', h', hne => by
    rw [run_succ] at h' ⊢
    obtain ⟨y, e1, e2, e3⟩ := inP_idx _ _ i y' h'
    obtain ⟨i1, i2⟩ := wait_bound h hr hy n y e1 (e3 hne)
    have := tick_w (runD n h) (roomy_run hr n) (List.mem_of_getElem? e1) (e3 hne)
    obtain ⟨c1, c2⟩ := run_cells n c
    rw [run_plan, c1, c2, i1] at this
    exact ⟨e2.trans i1, by omega⟩
theorem pf_count (plan cells : List Int) (L q : Nat) : ∀ (b : List Item) (i : Nat), wS (pf plan cells L q) i b ≤ b.countP onB
  | [], i => Nat.le_refl _
  | x :: b, i => by
    have := pf_count plan cells L q b (i + 1)
    have e : pf plan cells L q i x ≤ if onB x = true then 1 else 0 := by
      unfold pf
      split
      · rename_i h0
        rw [if_pos (by simp [onB, h0.1])]
        omega
      · omega
    rw [wS, List.countP_cons]
    omega
theorem waitN_pos : ∀ (l : List Inlet) (y : Inlet), y ∈ l → y.Wait ≠ [] → 0 < waitN l
  | [], y, h, _ => by cases h
  | z :: l, y, h, hne => by
    rw [waitN_cons]
    rcases List.mem_cons.1 h with rfl | h
    · have := List.length_pos_iff.2 hne; omega
    · have := waitN_pos l y h hne; omega
theorem waits_end {c : Centre} (h : IsD c) (hr : Roomy c) : ∀ y ∈ (runP (c.Belt.countP onB + waitN c.Inlets) c).Inlets, y.Wait = [] := by
  intro y hy
  by_cases hne : y.Wait = []
  · exact hne
  · exfalso
    obtain ⟨i, hi⟩ := List.mem_iff_getElem?.1 hy
    have hl : (runP (c.Belt.countP onB + waitN c.Inlets) c).Inlets.length = c.Inlets.length := by
      have : ∀ (n : Nat) (c : Centre), (runP n c).Inlets.length = c.Inlets.length := by
        intro n
        induction n with
        | zero => intro c; rfl
        | succ n ih => intro c; rw [runP, ih]; exact (inP_shape _ _).1
      exact this _ c
    have hlt : i < c.Inlets.length := by rw [← hl]; exact (List.getElem?_eq_some_iff.1 hi).1
    obtain ⟨_, hb⟩ := wait_bound h hr (List.getElem?_eq_getElem hlt) _ y hi hne
    have hc := pf_count c.Plan (cl' c) c.Belt.length (c.Inlets[i]).Cell.toNat c.Belt 0
    have hpos := waitN_pos _ y hy hne
    omega
theorem lap_end {c : Centre} (h : IsD c) (hr : Roomy c) (hw : ∀ y ∈ c.Inlets, y.Wait = []) : ∀ (d : Nat), (runP d c).Inlets = c.Inlets ∧ ∀ (p : Nat) (x : Item), (runP d c).Belt[p]? = some x → x.Id ≠ 0 → dn c.Belt.length p (tg c.Plan (cl' c) x) + d ≤ c.Belt.length
  | 0 => ⟨rfl, fun p x hx _ => by
      have hp : p < c.Belt.length := (List.getElem?_eq_some_iff.1 hx).1
      have := dn_bounds hp (tg_lt h x)
      omega⟩
  | d + 1 => by
    obtain ⟨i1, i2⟩ := lap_end h hr hw d
    have hD := runD d h
    obtain ⟨c1, c2⟩ := run_cells d c
    have hst : ∀ b, inP (runP d c).Inlets b = ((runP d c).Inlets, b) := fun b => inP_still _ _ fun y w ws x hy e _ => by
      rw [i1] at hy
      rw [hw y hy] at e
      cases e
    rw [run_succ]
    refine ⟨by show (inP _ _).1 = _; rw [hst]; exact i1, fun p x hx h0 => ?_⟩
    have hx' : (inP (runP d c).Inlets (chP (runP d c).Plan 0 (runP d c).Chutes (rotP (runP d c).Belt)).2).2[p]? = some x := hx
    rw [hst] at hx'
    obtain ⟨l1, l2⟩ := left_tick hD (roomy_run hr d) hx' h0
    obtain ⟨q, q1, q2, q3⟩ := back1 l1
    have := i2 q x q1 h0
    rw [run_plan, c1] at l2
    rw [c2] at q2 q3
    have d1 := dn_nx q2 (tg_lt h x) (by rw [q3]; exact fun e => l2 e.symm)
    rw [q3] at d1
    omega
/-- **It drains.** -/
theorem drains {c : Centre} (h : IsD c) (hr : Roomy c) : (runP (c.Belt.countP onB + waitN c.Inlets + c.Belt.length) c).Belt.countP onB = 0 ∧ ∀ y ∈ (runP (c.Belt.countP onB + waitN c.Inlets + c.Belt.length) c).Inlets, y.Wait = [] := by
  have hw := waits_end h hr
  rw [← run_add]
  generalize hm : c.Belt.countP onB + waitN c.Inlets = m at *
  obtain ⟨i1, i2⟩ := lap_end (runD m h) (roomy_run hr m) hw c.Belt.length
  refine ⟨?_, by rw [i1]; exact hw⟩
  rw [List.countP_eq_zero]
  intro x hx hb
  obtain ⟨p, hp⟩ := List.mem_iff_getElem?.1 hx
  have h0 : x.Id ≠ 0 := by simpa [onB] using hb
  have := i2 p x hp h0
  obtain ⟨_, c2⟩ := run_cells m c
  have hlt : p < (runP m c).Belt.length := by
    have := (List.getElem?_eq_some_iff.1 hp).1
    rwa [(run_cells c.Belt.length (runP m c)).2] at this
  have := dn_bounds hlt (tg_lt (runD m h) x)
  omega
end Go.Vs
