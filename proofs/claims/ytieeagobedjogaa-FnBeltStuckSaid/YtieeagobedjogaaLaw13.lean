/- The law FnBeltStuck holds: whatever its arguments, the call returns true and leaves them as they were. No condition. -/
import Derived.Test.YtieeagobedjogaaDraws
import Derived.Test.YtieeagobedjogaaLaf
import Derived.Test.YtieeagobedjogaaPlain
import Derived.Test.YtieeagobedjogaaIs
import Derived.Test.YtieeagobedjogaaOrder
import Derived.Test.YtieeagobedjogaaRows
set_option linter.unusedVariables false
set_option linter.unusedSimpArgs false
set_option linter.unusedSectionVars false
/- A tick that moves nothing but the belt. -/
namespace Go.Vs
open Go.IntWalk
def heldN (l : List Chute) : Nat := (l.map fun y => y.Held.length).sum
def waitN (l : List Inlet) : Nat := (l.map fun y => y.Wait.length).sum
/-- nothing falls from b -/
def NoFall (plan : List Int) (i : Nat) (l : List Chute) (b : List Item) : Prop := ∀ j ch x, l[j]? = some ch → b[ch.Cell.toNat]? = some x → ¬ (x.Id ≠ 0 ∧ plan[x.Dest.toNat]? = some ((i + j : Nat) : Int) ∧ (ch.Held.length : Int) < ch.Room)
def NoFeed (l : List Inlet) (b : List Item) : Prop := ∀ y w ws x, y ∈ l → y.Wait = w :: ws → b[y.Cell.toNat]? = some x → x.Id ≠ 0
theorem heldN_cons (y : Chute) (l : List Chute) : heldN (y :: l) = y.Held.length + heldN l := by simp [heldN]
theorem waitN_cons (y : Inlet) (l : List Inlet) : waitN (y :: l) = y.Wait.length + waitN l := by simp [waitN]
theorem noFall_tail {plan : List Int} {i : Nat} {ch : Chute} {l : List Chute} {b : List Item} (h : NoFall plan i (ch :: l) b) : NoFall plan (i + 1) l b := fun j c x h1 h2 => by
  have := h (j + 1) c x (by simpa using h1) h2
  rwa [show i + (j + 1) = i + 1 + j from by omega] at this
theorem chP_still (plan : List Int) : ∀ (l : List Chute) (i : Nat) (b : List Item), NoFall plan i l b → chP plan i l b = (l, b)
  | [], i, b, _ => rfl
  | ch :: l, i, b, h => by
    rw [chP]
    have ih := chP_still plan l (i + 1) b (noFall_tail h)
    split
    · rename_i x hx
      rw [if_neg (by have := h 0 ch x rfl hx; simpa using this), ih]
    · rw [ih]
theorem chP_held (plan : List Int) : ∀ (l : List Chute) (i : Nat) (b : List Item), heldN l ≤ heldN (chP plan i l b).1 ∧ (heldN (chP plan i l b).1 = heldN l → NoFall plan i l b)
  | [], i, b => ⟨Nat.le_refl _, fun _ j ch x h => by simp at h⟩
  | ch :: l, i, b => by
    rw [chP]
    split
    · rename_i x hx
      split
      · have ih := (chP_held plan l (i + 1) (b.set ch.Cell.toNat ⟨0, 0⟩)).1
        simp only [heldN_cons, List.length_append, List.length_cons, List.length_nil]
        exact ⟨by omega, fun h => by omega⟩
      · rename_i hn
        obtain ⟨i1, i2⟩ := chP_held plan l (i + 1) b
        simp only [heldN_cons]
        refine ⟨by omega, fun h j c x' h1 h2 => ?_⟩
        cases j with
        | zero =>
          simp at h1; subst h1
          rw [hx] at h2; cases h2
          simpa using hn
        | succ j =>
          have := i2 (by omega) j c x' (by simpa using h1) h2
          rwa [show i + (j + 1) = i + 1 + j from by omega]
    · rename_i hx
      obtain ⟨i1, i2⟩ := chP_held plan l (i + 1) b
      simp only [heldN_cons]
      refine ⟨by omega, fun h j c x' h1 h2 => ?_⟩
      cases j with
      | zero => simp at h1; subst h1; rw [hx] at h2; cases h2
      | succ j =>
        have := i2 (by omega) j c x' (by simpa using h1) h2
        rwa [show i + (j + 1) = i + 1 + j from by omega]
theorem inP_still : ∀ (l : List Inlet) (b : List Item), NoFeed l b → inP l b = (l, b)
  | [], b, _ => rfl
  | y :: l, b, h => by
    rw [inP]
    have ih := inP_still l b fun z w ws x h1 => h z w ws x (by simp [h1])
    split
    · rename_i w ws x h1 h2
      rw [if_neg (h y w ws x (by simp) h1 h2), ih]
    · rw [ih]
theorem inP_wait : ∀ (l : List Inlet) (b : List Item), waitN (inP l b).1 ≤ waitN l ∧ (waitN (inP l b).1 = waitN l → NoFeed l b)
  | [], b => ⟨Nat.le_refl _, fun _ y w ws x h => by simp at h⟩
  | y :: l, b => by
    rw [inP]
    split
    · rename_i w ws x h1 h2
      split
      · have ih := (inP_wait l (b.set y.Cell.toNat w)).1
        have e : y.Wait.length = ws.length + 1 := by rw [h1]; rfl
        simp only [waitN_cons]
        exact ⟨by omega, fun h => by omega⟩
      · rename_i hn
        obtain ⟨i1, i2⟩ := inP_wait l b
        simp only [waitN_cons]
        refine ⟨by omega, fun h z w' ws' x' hz e1 e2 => ?_⟩
        rcases List.mem_cons.1 hz with rfl | hz
        · rw [h2] at e2; cases e2; exact hn
        · exact i2 (by omega) z w' ws' x' hz e1 e2
    · rename_i hno
      obtain ⟨i1, i2⟩ := inP_wait l b
      simp only [waitN_cons]
      refine ⟨by omega, fun h z w' ws' x' hz e1 e2 => ?_⟩
      rcases List.mem_cons.1 hz with rfl | hz
      · exact absurd e2 (hno w' ws' x' e1)
      · exact i2 (by omega) z w' ws' x' hz e1 e2

def rotN : Nat → List Item → List Item
  | 0, b => b
  | n + 1, b => rotP (rotN n b)
def nxp (n p : Nat) : Nat := if p + 1 < n then p + 1 else 0
theorem rot_len (b : List Item) : (rotP b).length = b.length := by
  by_cases h : 0 < b.length
  · exact (rotP_eq h).choose_spec.2.2.2
  · have : b = [] := List.length_eq_zero_iff.1 (by omega)
    subst this; rfl
theorem rotN_len (b : List Item) : ∀ n, (rotN n b).length = b.length
  | 0 => rfl
  | n + 1 => by rw [rotN, rot_len, rotN_len b n]
theorem rot_get {b : List Item} {p : Nat} (hp : p < b.length) : (rotP b)[nxp b.length p]? = b[p]? := by
  obtain ⟨x, h1, h2, _⟩ := rotP_eq (b := b) (by omega)
  rw [h2]
  unfold nxp
  by_cases h : p + 1 < b.length
  · rw [if_pos h, List.getElem?_cons_succ, List.getElem?_take, if_pos (by omega)]
  · rw [if_neg h, List.getElem?_cons_zero, ← h1]
    congr 1
    omega
def posp (n p j : Nat) : Nat := if p + j < n then p + j else p + j - n
theorem rotN_get {b : List Item} {p : Nat} (hp : p < b.length) : ∀ j, j ≤ b.length → (rotN j b)[posp b.length p j]? = b[p]?
  | 0, _ => by simp [rotN, posp, hp]
  | j + 1, h => by
    have ih := rotN_get hp j (by omega)
    have hlt : posp b.length p j < (rotN j b).length := by rw [rotN_len]; unfold posp; split <;> omega
    have := rot_get hlt
    rw [rotN_len, ih] at this
    rw [rotN, ← this]
    congr 1
    unfold nxp posp
    split <;> split <;> split <;> omega
theorem rotN_full (b : List Item) : rotN b.length b = b := by
  apply List.ext_getElem?
  intro p
  by_cases hp : p < b.length
  · have := rotN_get hp b.length (Nat.le_refl _)
    rwa [show posp b.length p b.length = p from by unfold posp; split <;> omega] at this
  · rw [List.getElem?_eq_none (by rw [rotN_len]; omega), List.getElem?_eq_none (by omega)]
theorem rotN_mem {b : List Item} {x : Item} : ∀ n, x ∈ rotN n b → x ∈ b
  | 0, h => h
  | n + 1, h => by
    rw [rotN] at h
    by_cases hl : 0 < (rotN n b).length
    · obtain ⟨_, _, _, h3, _⟩ := rotP_eq hl
      exact rotN_mem n (h3.mem_iff.1 h)
    · have : rotN n b = [] := List.length_eq_zero_iff.1 (by omega)
      rw [this] at h
      cases h
theorem tick_still {c : Centre} (h1 : NoFall c.Plan 0 c.Chutes (rotP c.Belt)) (h2 : NoFeed c.Inlets (rotP c.Belt)) : tickP c = ⟨rotP c.Belt, c.Chutes, c.Inlets, c.Plan, c.Now + 1⟩ := by
  unfold tickP
  simp only [chP_still _ _ _ _ h1, inP_still _ _ h2]
theorem run_succ (n : Nat) (c : Centre) : runP (n + 1) c = tickP (runP n c) := by rw [← run_add n 1]; rfl
theorem run_still {c : Centre} : ∀ n : Nat, (∀ j, j < n → NoFall c.Plan 0 c.Chutes (rotN (j + 1) c.Belt) ∧ NoFeed c.Inlets (rotN (j + 1) c.Belt)) → runP n c = ⟨rotN n c.Belt, c.Chutes, c.Inlets, c.Plan, c.Now + n⟩
  | 0, _ => by simp [runP, rotN]
  | n + 1, h => by
    have ih := run_still n fun j hj => h j (by omega)
    obtain ⟨h1, h2⟩ := h n (by omega)
    rw [run_succ, ih, tick_still h1 h2]
    simp only [rotN, Centre.mk.injEq, true_and]
    omega
theorem run_mono : ∀ (n : Nat) (c : Centre), heldN c.Chutes ≤ heldN (runP n c).Chutes ∧ waitN (runP n c).Inlets ≤ waitN c.Inlets
  | 0, c => ⟨Nat.le_refl _, Nat.le_refl _⟩
  | n + 1, c => by
    have ih := run_mono n c
    rw [run_succ]
    have h1 := (chP_held (runP n c).Plan (runP n c).Chutes 0 (rotP (runP n c).Belt)).1
    have h2 := (inP_wait (runP n c).Inlets (chP (runP n c).Plan 0 (runP n c).Chutes (rotP (runP n c).Belt)).2).1
    simp only [tickP]
    omega
/-- what leaves the counts leaves all -/
theorem still_of {c : Centre} : ∀ n : Nat, heldN (runP n c).Chutes = heldN c.Chutes → waitN (runP n c).Inlets = waitN c.Inlets → ∀ j, j < n → NoFall c.Plan 0 c.Chutes (rotN (j + 1) c.Belt) ∧ NoFeed c.Inlets (rotN (j + 1) c.Belt)
  | 0, _, _, j, hj => by omega
  | n + 1, h1, h2, j, hj => by
    have m := run_mono n c
    rw [run_succ] at h1 h2
    have k1 := chP_held (runP n c).Plan (runP n c).Chutes 0 (rotP (runP n c).Belt)
    have k2 := inP_wait (runP n c).Inlets (chP (runP n c).Plan 0 (runP n c).Chutes (rotP (runP n c).Belt)).2
    simp only [tickP] at h1 h2
    have ih := still_of (c := c) n (by omega) (by omega)
    by_cases e : j < n
    · exact ih j e
    · obtain rfl : j = n := by omega
      have er := run_still j ih
      have hf := k1.2 (by omega)
      rw [chP_still _ _ _ _ hf] at k2 h2
      have hg := k2.2 (by have q := k2.1; simp only at q h2 ⊢; omega)
      rw [er] at hf hg
      exact ⟨hf, hg⟩
end Go.Vs
/- A draw whose chutes are full. -/
namespace Go.Vs
open Go.IntWalk
def ky (l : List Chute) : List (Int × List Item) := l.map fun y => (y.Cell, y.Held)
theorem ky_cell (l : List Chute) : l.map (·.Cell) = (ky l).map (·.1) := by simp [ky]
theorem ky_held (l : List Chute) : l.flatMap (·.Held) = (ky l).flatMap (·.2) := by simp [ky, List.flatMap_map]
theorem ky_len (l : List Chute) : l.length = (ky l).length := by simp [ky]
theorem isC_rooms {c : Centre} (h : IsC c) {w : List Chute} (hk : ky w = ky c.Chutes) (hw : ∀ x ∈ w, chOk c.Belt.length x = true) : IsC ⟨c.Belt, w, c.Inlets, c.Plan, c.Now⟩ := by
  have hl : w.length = c.Chutes.length := by rw [ky_len, hk, ← ky_len]
  have hi : itemsOf ⟨c.Belt, w, c.Inlets, c.Plan, c.Now⟩ = itemsOf c := by
    unfold itemsOf
    simp only
    rw [ky_held w, hk, ← ky_held]
  exact ⟨h.belt, by simp only [hl]; exact h.chutes, h.inlets, h.plan, h.now, hw, by simp only [ky_cell, hk]; rw [← ky_cell]; exact h.chn, h.inl, h.inn, by simp only [hl]; exact h.pl, by rw [hi]; exact h.it, by rw [hi]; exact h.itn⟩
theorem full_l1 {c0 : Centre} (h0 : IsC c0) : ∀ (k n : Nat) (v : Nat) (c : Cur) (w : List Chute), v + k = c0.Chutes.length → k < n → CurOk c → ky w = ky c0.Chutes → (∀ x ∈ w, chOk c0.Belt.length x = true) →
    Ok (fun r => CurOk ⟨r.1, r.2.1, r.2.2.1⟩ ∧ ky r.2.2.2 = ky c0.Chutes ∧ ∀ x : Chute, x ∈ r.2.2.2 → chOk c0.Belt.length x = true) (S_l7Full_l1 G.real TE.real n c.b c.i c.h w (v : Int))
  | k, 0, _, _, _, _, hk, _, _, _ => absurd hk (by omega)
  | k, n + 1, v, c, w, hv, hk, hc, h1, h2 => by
    have hl : w.length = c0.Chutes.length := by rw [ky_len, h1, ← ky_len]
    have hch := h0.chutes
    rw [S_l7Full_l1]
    simp only [R_int, dlenx_Chute, dlenx_Item, R_lt, R_nat, Int.toNat_natCast, R_add, br_dec]
    by_cases hlt : v < w.length
    · obtain ⟨k, rfl⟩ : ∃ m, k = m + 1 := ⟨k - 1, by omega⟩
      rw [if_pos (by omega)]
      have hx : w[v]? = some w[v] := List.getElem?_eq_getElem hlt
      generalize w[v] = x at hx
      have hm : x ∈ w := List.mem_of_getElem? hx
      have hok := h2 x hm
      refine Ok.gt hx (Ok.cl (l1Once_ok _ hc 4) fun y hy => ?_)
      rw [w64 (by omega) (by omega)]
      refine Ok.br (fun _ => ?_) (fun _ => Ok.gd (by omega) ?_)
      · exact full_l1 h0 k n (v + 1) y.2 w (by omega) (by omega) hy h1 h2
      · split
        · rename_i hpos
          refine Ok.gd (by omega) (Ok.gd (by omega) (Ok.lP ?_))
          refine full_l1 h0 k n (v + 1) y.2 _ (by omega) (by omega) hy ?_ ?_
          · rw [← h1]
            unfold ky
            rw [List.map_set]
            apply List.ext_getElem?
            intro j
            rw [List.getElem?_set]
            split
            · rename_i e
              subst e
              simp only [List.length_map, hlt, if_true, List.getElem?_map, hx, Option.map_some]
            · rfl
          · intro z hz
            rcases List.mem_or_eq_of_mem_set hz with hz | rfl
            · exact h2 z hz
            · simp only [chOk, decide_eq_true_eq] at hok ⊢
              omega
        · exact full_l1 h0 k n (v + 1) y.2 w (by omega) (by omega) hy h1 h2
    · rw [if_neg (by omega)]
      exact Ok.ret ⟨hc, h1, h2⟩
theorem full_l2 : ∀ (k n : Nat) (c : Cur) (x : Centre), k < n → k ≤ 100 → CurOk c → IsC x →
    Ok (fun r => CurOk ⟨r.1, r.2.1, r.2.2.1⟩ ∧ IsC ⟨r.2.2.2.1, r.2.2.2.2.1, r.2.2.2.2.2.1, r.2.2.2.2.2.2.1, r.2.2.2.2.2.2.2⟩ ∧ r.2.2.2.2.2.2.2 = x.Now) (S_l7Full_l2 G.real TE.real n c.b c.i c.h x.Belt x.Chutes x.Inlets x.Plan x.Now (k : Int))
  | k, 0, c, x, hk, _, _, _ => absurd hk (by omega)
  | 0, n + 1, c, x, hk, _, hc, hx => by
    rw [S_l7Full_l2]
    exact Ok.ret ⟨hc, hx, rfl⟩
  | k + 1, n + 1, c, x, hk, hk8, hc, hx => by
    rw [S_l7Full_l2]
    refine Ok.br (fun _ => ?_) (fun hb => absurd hb (by simp))
    refine Ok.cl (l1Below_ok _ hc _) fun q hq => Ok.cl (l1Below_ok q.2 hq.2.2 _) fun s hs => ?_
    rw [show G.real.wrap .i64 (G.real.sub ((k + 1 : Nat) : Int) 1) = (k : Int) from by rw [R_sub, w64 (by omega) (by omega)]; omega]
    obtain ⟨r, _, e2, e3, e4⟩ := feedCentre_eq x (by have := hx.d.tot; omega) q.1 (Item.mk (G.real.wrap .i64 (G.real.add 100 ((k + 1 : Nat) : Int))) s.1)
    rw [show (Centre.mk x.Belt x.Chutes x.Inlets x.Plan x.Now) = x from rfl, e2, cl_some]
    obtain ⟨f1, f2⟩ := e4 hx
    exact (full_l2 k n s.2 r.1 (by omega) (by omega) hs.2.2 f1).mono fun z hz => ⟨hz.1, hz.2.1, hz.2.2.trans f2⟩
theorem run_ok {c : Centre} (h : IsC c) {k : Int} (hk : 0 ≤ k ∧ k ≤ 1000) (hn : c.Now ≤ 90000) : Ok (fun r => IsC r ∧ r.Now = c.Now + k) (S_RunCentre G.real TE.real c k) := by
  obtain ⟨r, _, e2, _, e4, _⟩ := runCentre_eq c (by have := h.d.tot; omega) k
  have e := e4 h hk (by omega)
  have hN := run_now k.toNat c
  have := h.now
  refine ⟨r, e2, ?_, by rw [e, hN]; omega⟩
  rw [e]
  exact (runD k.toNat h.d).c (by omega)
theorem full_ok (c : Cur) (hc : CurOk c) : Ok (fun r => r.1.tot ≤ 1048576 ∧ CurOk r.2) (S_l7Full G.real TE.real c) := by
  unfold S_l7Full
  refine Ok.cl (draw_ok c hc) fun x1 h1 => ?_
  obtain ⟨hi, hn, hc1⟩ := h1
  refine Ok.cl (run_ok (c := x1.1) hi (k := 40) (by omega) (by omega)) fun x2 h2 => ?_
  obtain ⟨i2, n2⟩ := h2
  have hch := i2.chutes
  refine Ok.cl (full_l1 i2 x2.Chutes.length 1000000000 0 x1.2 x2.Chutes (by omega) (by omega) hc1 rfl i2.ch) fun y1 hy => ?_
  obtain ⟨hy1, hy2, hy3⟩ := hy
  refine Ok.cl (l1Below_ok _ hy1 16) fun x5 h5 => ?_
  have u1 := h5.1
  have u2 := h5.2.1 (by omega)
  rw [show x5.1 = ((x5.1.toNat : Nat) : Int) from by omega]
  refine Ok.cl (full_l2 x5.1.toNat 1000000000 x5.2 ⟨x2.Belt, y1.2.2.2, x2.Inlets, x2.Plan, x2.Now⟩ (by omega) (by omega) h5.2.2 (isC_rooms i2 hy2 hy3)) fun y2 hy2' => ?_
  obtain ⟨k1, k2, k3⟩ := hy2'
  simp only at k3
  refine Ok.cl (l1Below_ok _ k1 30) fun x9 h9 => ?_
  have v1 := h9.1
  have v2 := h9.2.1 (by omega)
  refine Ok.cl (run_ok k2 (k := x9.1) (by omega) (by simp only; omega)) fun x10 h10 => Ok.ret ⟨by have := h10.1.d.tot; simp only; omega, h9.2.2⟩
theorem drawStuck_ok (a : List Int) (h : a.length ≤ 1000000) : Ok (fun r => r.tot ≤ 1048576) (S_DrawIsStuck G.real TE.real a) := by
  unfold S_DrawIsStuck
  exact Ok.lP (Ok.cl (l1Once_ok _ (new_cur a h) 3) fun x hx => Ok.br (fun _ => Ok.cl (any_ok _ hx) fun y hy => Ok.ret hy.1) (fun _ => Ok.cl (full_ok _ hx) fun y hy => Ok.ret hy.1))
end Go.Vs
namespace Go.Vs
open Go.IntWalk
/-! What waits, what is on the belt. -/
theorem iCountWait_l1 (l : List Inlet) : ∀ (v : Int), 0 ≤ v → v + (sumT (fun y => Inlet.tot y) l : Nat) < 4611686018427387904 → I_CountWait_l1 G.real TE.real l v = v + (sumT (fun y => Inlet.tot y) l : Nat) := by
  induction l with
  | nil => intro v _ _; rw [I_CountWait_l1]; simp [sumT]
  | cons z l ih =>
    intro v h0 h
    have e : Inlet.tot z = z.Wait.length := rfl
    rw [sumT_cons] at h ⊢
    rw [I_CountWait_l1]
    simp only [R_add, llen_Item]
    rw [w64 (by omega) (by omega), ih _ (by omega) (by omega)]
    omega
theorem iCountWait_r (c : Centre) (h : c.tot ≤ 1048576) : I_CountWait G.real TE.real c = (sumT (fun y => Inlet.tot y) c.Inlets : Nat) := by
  unfold Centre.tot at h
  unfold I_CountWait
  simp only [lP_eq]
  rw [iCountWait_l1 _ _ (by omega) (by omega)]
  omega
theorem iCountBelt_l1 (l : List Item) : ∀ (v : Int), 0 ≤ v → v + l.length < 4611686018427387904 → I_CountBelt_l1 G.real TE.real l v = v + (l.countP onB : Nat) := by
  induction l with
  | nil => intro v _ _; rw [I_CountBelt_l1]; simp
  | cons z l ih =>
    intro v h0 h
    simp only [List.length_cons] at h
    rw [I_CountBelt_l1]
    simp only [R_add, R_eq, br_dec]
    rw [w64 (by omega) (by omega), ih _ (by omega) (by omega), ih _ (by omega) (by omega), List.countP_cons]
    unfold onB
    by_cases hz : z.Id = 0
    · simp [hz]
    · simp [hz]; omega
theorem iCountBelt_r (c : Centre) (h : c.tot ≤ 1048576) : I_CountBelt G.real TE.real c = (c.Belt.countP onB : Nat) := by
  unfold Centre.tot at h
  unfold I_CountBelt
  simp only [lP_eq]
  rw [iCountBelt_l1 _ _ (by omega) (by omega)]
  omega
end Go.Vs
namespace Go.Vs
open Go.IntWalk
/-- whether something on the belt can fall -/
def canFall (c : Centre) (x : Item) : Bool := match c.Plan[x.Dest.toNat]? with
  | some k => match c.Chutes[k.toNat]? with
    | some y => decide ((y.Held.length : Int) < y.Room)
    | none => false
  | none => false
theorem fall_get {c : Centre} (hc : IsC c) {x : Item} (hx : x ∈ itemsOf c) : ∃ k y, 0 ≤ x.Dest ∧ c.Plan[x.Dest.toNat]? = some k ∧ 0 ≤ k ∧ c.Chutes[k.toNat]? = some y ∧ canFall c x = decide ((y.Held.length : Int) < y.Room) := by
  obtain ⟨_, _, q1, q2⟩ := hc.item hx
  obtain ⟨k, hk, hkm⟩ := getL (l := c.Plan) q1 q2
  obtain ⟨r1, r2⟩ := hc.goal hkm
  obtain ⟨y, hy, _⟩ := getL (l := c.Chutes) r1 r2
  exact ⟨k, y, q1, hk, r1, hy, by simp [canFall, hk, hy]⟩
theorem iStuck_l1 {c : Centre} (hc : IsC c) (l : List Item) : (∀ x ∈ l, x ∈ c.Belt) → I_IsStuck_l1 G.real TE.real c l = some (if ∃ x ∈ l, onB x = true ∧ canFall c x = true then .ret false else .out ()) := by
  induction l with
  | nil => intro _; rw [I_IsStuck_l1]; simp
  | cons z l ih =>
    intro h
    have ih := ih (fun x hx => h x (by simp [hx]))
    rw [I_IsStuck_l1, ih]
    simp only [R_all, R_eq, List.all_cons, List.all_nil, id, Bool.and_true, llen_Item, R_nat, R_lt]
    by_cases h1 : z.Id = 0 ∧ z.Dest = 0
    · have h3 : (decide (z.Id = 0) && decide (z.Dest = 0)) = true := by simp [h1]
      rw [h3, br_t]
      congr 1
      refine if_iff ?_
      simp [onB, h1.1]
    · have h3 : (decide (z.Id = 0) && decide (z.Dest = 0)) = false := by
        rw [Bool.and_eq_false_iff]; simp only [decide_eq_false_iff_not]; omega
      have hm := belt_items (h z (by simp)) h1
      obtain ⟨k, y, q1, q2, q3, q4, q5⟩ := fall_get hc hm
      have hid := (hc.item hm).1
      rw [h3, br_f, gd_true q1, gt_some q2, gd_true q3, gt_some q4, br_dec]
      have hb : onB z = true := by simp only [onB, decide_eq_true_eq]; omega
      by_cases h4 : (y.Held.length : Int) < y.Room
      · rw [if_pos h4, if_pos ⟨z, by simp, hb, by simp [q5, h4]⟩]
      · rw [if_neg h4]
        congr 1
        refine if_iff ?_
        simp [q5, h4]
theorem ret_if2 {p : Prop} [Decidable p] (k : Unit → Option Bool) : lr (if p then LR.ret false else LR.out ()) k = if p then some false else k () := by split <;> rfl
end Go.Vs
namespace Go.Vs
open Go.IntWalk
open Classical in
theorem drained_r (c : Centre) (h : c.tot ≤ 1048576) : I_IsDrained G.real TE.real c = some (decide (IsC c ∧ c.Belt.countP onB = 0 ∧ sumT (fun y => Inlet.tot y) c.Inlets = 0)) := by
  unfold I_IsDrained
  rw [iCentre_r c h, iCountBelt_r c h, iCountWait_r c h]
  simp only [cl_some, lP_eq, br_dec, R_eq]
  by_cases hc : IsC c
  · rw [if_pos hc]
    split
    · congr 1; simp only [decide_eq_decide]; constructor
      · intro hh; exact ⟨hc, by omega, by omega⟩
      · intro hh; omega
    · congr 1; simp only [false_eq_decide_iff]; intro hh; omega
  · rw [if_neg hc]; congr 1; simp only [false_eq_decide_iff]; exact fun hh => hc hh.1
def StuckC (c : Centre) : Prop := IsC c ∧ ¬ (c.Belt.countP onB = 0 ∧ sumT (fun y => Inlet.tot y) c.Inlets = 0) ∧ (¬ ∃ x ∈ c.Belt, onB x = true ∧ canFall c x = true) ∧ (sumT (fun y => Inlet.tot y) c.Inlets = 0 ∨ c.Belt.countP onB = c.Belt.length)
open Classical in
theorem stuck_r (c : Centre) (h : c.tot ≤ 1048576) : I_IsStuck G.real TE.real c = some (decide (StuckC c)) := by
  unfold I_IsStuck
  rw [iCentre_r c h, drained_r c h, iCountWait_r c h, iCountBelt_r c h]
  simp only [cl_some, lP_eq, br_dec, R_eq, llen_Item]
  by_cases hc : IsC c
  · rw [if_pos hc]
    by_cases hd : c.Belt.countP onB = 0 ∧ sumT (fun y => Inlet.tot y) c.Inlets = 0
    · rw [if_pos ⟨hc, hd⟩]; congr 1; simp only [false_eq_decide_iff]; exact fun hh => hh.2.1 hd
    · rw [if_neg (fun hh => hd hh.2), iStuck_l1 hc c.Belt (fun x hx => hx), cl_some, ret_if2]
      by_cases p : ∃ x ∈ c.Belt, onB x = true ∧ canFall c x = true
      · rw [if_pos p]; congr 1; simp only [false_eq_decide_iff]; exact fun hh => hh.2.2.1 p
      · rw [if_neg p]
        split
        · congr 1; simp only [true_eq_decide_iff]; exact ⟨hc, hd, p, .inl (by omega)⟩
        · congr 1; simp only [decide_eq_decide]; constructor
          · intro hh; exact ⟨hc, hd, p, .inr (by omega)⟩
          · intro hh; rcases hh.2.2.2 with q | q
            · omega
            · omega
  · rw [if_neg hc]; congr 1; simp only [false_eq_decide_iff]; exact fun hh => hc hh.1
theorem waitN_eq (l : List Inlet) : waitN l = sumT (fun y => Inlet.tot y) l := rfl
/-- stuck: nothing moves -/
theorem stuck_still {c : Centre} (h : StuckC c) (j : Nat) : NoFall c.Plan 0 c.Chutes (rotN j c.Belt) ∧ NoFeed c.Inlets (rotN j c.Belt) := by
  obtain ⟨hc, _, hf, hw⟩ := h
  refine ⟨fun i ch x h1 h2 hq => ?_, fun y w ws x hy e1 e2 h0 => ?_⟩
  · have hm := rotN_mem j (List.mem_of_getElem? h2)
    refine hf ⟨x, hm, by simpa [onB] using hq.1, ?_⟩
    unfold canFall
    rw [hq.2.1]
    simp only [Nat.zero_add, Int.toNat_natCast, h1]
    simpa using hq.2.2
  · rcases hw with hw | hw
    · have : y.Wait.length ≤ sumT (fun y => Inlet.tot y) c.Inlets := sumT_mem (fun y => Inlet.tot y) hy
      rw [e1] at this
      simp at this
      omega
    · have hm := rotN_mem j (List.mem_of_getElem? e2)
      have := (List.countP_eq_length.1 hw) x hm
      simp [onB] at this
      exact this h0
theorem stuck_run {c : Centre} (h : StuckC c) (n : Nat) : runP n c = ⟨rotN n c.Belt, c.Chutes, c.Inlets, c.Plan, c.Now + n⟩ := run_still n fun j _ => stuck_still h (j + 1)
theorem rotN_perm (b : List Item) : ∀ n, (rotN n b).Perm b
  | 0 => .refl _
  | n + 1 => by
    rw [rotN]
    by_cases hl : 0 < (rotN n b).length
    · obtain ⟨_, _, _, h3, _⟩ := rotP_eq hl
      exact h3.trans (rotN_perm b n)
    · have e : rotN n b = [] := List.length_eq_zero_iff.1 (by omega)
      have := rotN_perm b n
      rw [e] at this ⊢
      exact this
theorem stuck_keep {c : Centre} (h : StuckC c) (n : Nat) (hn : c.Now + n ≤ 100000) : StuckC (runP n c) := by
  have e := stuck_run h n
  have hD := runD n h.1.d
  have hN := run_now n c
  have h0 := h.1.now
  obtain ⟨hc, hd, hf, hw⟩ := h
  have hcp : (rotN n c.Belt).countP onB = c.Belt.countP onB := (rotN_perm _ n).countP_eq _
  refine ⟨hD.c (by omega), ?_, ?_, ?_⟩
  · rw [e]; simp only [hcp]; exact hd
  · rw [e]
    rintro ⟨x, hx, h1, h2⟩
    exact hf ⟨x, rotN_mem n hx, h1, h2⟩
  · rw [e]; simp only [hcp, rotN_len]; exact hw
/-- not stuck, not drained: something moves within a lap -/
theorem moves {c : Centre} (hc : IsC c) (hd : ¬ (c.Belt.countP onB = 0 ∧ sumT (fun y => Inlet.tot y) c.Inlets = 0)) (hs : ¬ StuckC c) : ¬ (heldN (runP c.Belt.length c).Chutes = heldN c.Chutes ∧ waitN (runP c.Belt.length c).Inlets = waitN c.Inlets) := by
  rintro ⟨h1, h2⟩
  have st := still_of c.Belt.length h1 h2
  have hb := hc.belt
  -- what is at p comes to q
  have come : ∀ (p q : Nat) (x : Item), c.Belt[p]? = some x → q < c.Belt.length → ∃ j, j < c.Belt.length ∧ (rotN (j + 1) c.Belt)[q]? = some x := by
    intro p q x hp hq
    have hlt : p < c.Belt.length := (List.getElem?_eq_some_iff.1 hp).1
    by_cases hpq : p < q
    · refine ⟨q - p - 1, by omega, ?_⟩
      have := rotN_get hlt (q - p - 1 + 1) (by omega)
      rw [hp, show posp c.Belt.length p (q - p - 1 + 1) = q from by unfold posp; split <;> omega] at this
      exact this
    · refine ⟨q + c.Belt.length - p - 1, by omega, ?_⟩
      have := rotN_get hlt (q + c.Belt.length - p - 1 + 1) (by omega)
      rw [hp, show posp c.Belt.length p (q + c.Belt.length - p - 1 + 1) = q from by unfold posp; split <;> omega] at this
      exact this
  by_cases hf : ∃ x ∈ c.Belt, onB x = true ∧ canFall c x = true
  · obtain ⟨x, hx, b1, b2⟩ := hf
    have hid : x.Id ≠ 0 := by simpa [onB] using b1
    obtain ⟨k, y, q1, q2, q3, q4, q5⟩ := fall_get hc (belt_items hx fun e => hid e.1)
    obtain ⟨r1, r2, _⟩ := hc.cell (List.mem_of_getElem? q4)
    obtain ⟨p, hp⟩ := List.mem_iff_getElem?.1 hx
    obtain ⟨j, hj, hq⟩ := come p y.Cell.toNat x hp (by omega)
    refine (st j hj).1 k.toNat y x q4 hq ⟨hid, ?_, ?_⟩
    · rw [q2]; congr 1; omega
    · rw [q5] at b2; simpa using b2
  · have hw : ¬ (sumT (fun y => Inlet.tot y) c.Inlets = 0 ∨ c.Belt.countP onB = c.Belt.length) := fun hw => hs ⟨hc, hd, hf, hw⟩
    have hw1 : ∃ y ∈ c.Inlets, y.Wait ≠ [] := by
      by_cases hall : ∀ y ∈ c.Inlets, y.Wait = []
      · exfalso
        apply hw
        left
        have : ∀ l : List Inlet, (∀ y ∈ l, y.Wait = []) → sumT (fun y => Inlet.tot y) l = 0 := by
          intro l
          induction l with
          | nil => intro _; rfl
          | cons z l ih => intro hz; rw [sumT_cons, ih fun y hy => hz y (by simp [hy])]; simp [Inlet.tot, hz z (by simp)]
        exact this _ hall
      · simpa using hall
    have hw2 : ∃ x ∈ c.Belt, x.Id = 0 := by
      by_cases hall : ∀ x ∈ c.Belt, onB x = true
      · exact absurd (.inr (List.countP_eq_length.2 hall)) hw
      · have hall' : ∃ x ∈ c.Belt, ¬ onB x = true := by simpa using hall
        obtain ⟨x, hx, h0⟩ := hall'
        exact ⟨x, hx, by simpa [onB] using h0⟩
    obtain ⟨y, hy, hne⟩ := hw1
    obtain ⟨x, hx, h0⟩ := hw2
    obtain ⟨r1, r2, _⟩ := hc.inlet hy
    obtain ⟨p, hp⟩ := List.mem_iff_getElem?.1 hx
    obtain ⟨j, hj, hq⟩ := come p y.Cell.toNat x hp (by omega)
    obtain ⟨w, ws, e⟩ := List.exists_cons_of_ne_nil hne
    exact (st j hj).2 y w ws x hy e hq h0
/-- the law's own comparison of the chutes -/
theorem stuck_l1 (x6 : Centre) : ∀ (l : List Chute) (k : Nat) (v : Bool), k + l.length = x6.Chutes.length → x6.Chutes.length ≤ 1048576 → L_FnBeltStuck_l1 G.real TE.real x6 l (k : Int) v = some (v && decide (l.map (fun y => y.Held.length) = (x6.Chutes.drop k).map fun y => y.Held.length))
  | [], k, v, h, _ => by
    rw [L_FnBeltStuck_l1, List.drop_of_length_le (by simp at h; omega)]
    simp
  | z :: l, k, v, h, h2 => by
    simp only [List.length_cons] at h
    have hk : k < x6.Chutes.length := by omega
    have hx : x6.Chutes[k]? = some x6.Chutes[k] := List.getElem?_eq_getElem hk
    rw [L_FnBeltStuck_l1]
    simp only [R_nat, Int.toNat_natCast, R_add, R_eq, llen_Item]
    rw [gt_some hx, w64 (by omega) (by omega), show (k : Int) + 1 = ((k + 1 : Nat) : Int) from by omega, stuck_l1 x6 l (k + 1) _ (by omega) h2, stuck_l1 x6 l (k + 1) _ (by omega) h2, List.drop_eq_getElem_cons hk]
    cases v with
    | true =>
      rw [br_t]
      congr 1
      simp only [Bool.true_and, List.map_cons, List.cons.injEq]
      rw [← Bool.decide_and]
      simp only [decide_eq_decide]
      constructor
      · rintro ⟨a1, a2⟩; exact ⟨by omega, a2⟩
      · rintro ⟨a1, a2⟩; exact ⟨by omega, a2⟩
    | false => rfl
theorem heldN_grow : ∀ (l l' : List Chute), l.map (fun y => y.Held.length) = l'.map (fun y => y.Held.length) → heldN l = heldN l' := fun l l' h => by unfold heldN; rw [h]
open Classical in
theorem law13 (a : List Int) (h : a.length ≤ 9223372036854775807 ∧ ∀ x ∈ a, 0 ≤ x ∧ x ≤ 255) : L_FnBeltStuck G.real TE.real a = some true := by
  refine Tr.eq ?_
  unfold L_FnBeltStuck
  refine Tr.big fun hl => ?_
  refine Ok.cl (drawStuck_ok a (by omega)) fun c ht => ?_
  rw [sCentre_r c ht, stuck_r c ht]
  simp only [cl_some, br_dec]
  by_cases hc : IsC c
  · rw [if_pos hc, drained_r c ht, cl_some]
    simp only [br_dec]
    by_cases hd : c.Belt.countP onB = 0 ∧ sumT (fun y => Inlet.tot y) c.Inlets = 0
    · rw [if_pos ⟨hc, hd⟩]
      exact Ok.ret (by simp only [Bool.not_eq_true', decide_eq_false_iff_not]; exact fun q => q.2.1 hd)
    · rw [if_neg fun q => hd q.2]
      refine Ok.br (fun _ => Ok.ret rfl) fun hn => ?_
      have hn : c.Now ≤ 90000 := by simpa using hn
      have hb := hc.belt
      have h0 := hc.now
      simp only [llen_Item, lP_eq]
      obtain ⟨r, r1, _, r3, r4, _⟩ := runCentre_eq c ht (c.Belt.length : Int)
      have er := r4 hc (by omega) (by omega)
      rw [Int.toNat_natCast] at er
      rw [r1, cl_some, iCountWait_r c ht, iCountWait_r r r3, show (0 : Int) = ((0 : Nat) : Int) from rfl]
      have hlc : r.Chutes.length = c.Chutes.length := by
        have : ∀ (n : Nat) (c : Centre), (runP n c).Chutes.length = c.Chutes.length := by
          intro n
          induction n with
          | zero => intro c; rfl
          | succ n ih => intro c; rw [runP, ih]; exact (chP_shape c.Plan c.Chutes 0 (rotP c.Belt)).1
        rw [er]; exact this _ c
      have hch := hc.chutes
      rw [stuck_l1 r c.Chutes 0 _ (by omega) (by omega), cl_some]
      simp only [List.drop_zero, R_eq]
      have hsame : (decide ((sumT (fun y => Inlet.tot y) r.Inlets : Int) = (sumT (fun y => Inlet.tot y) c.Inlets : Int)) && decide (c.Chutes.map (fun y => y.Held.length) = r.Chutes.map fun y => y.Held.length)) = decide (StuckC c) := by
        rw [← Bool.decide_and]
        simp only [decide_eq_decide]
        constructor
        · rintro ⟨e1, e2⟩
          by_cases hs : StuckC c
          · exact hs
          · exfalso
            refine moves hc hd hs ⟨?_, ?_⟩
            · rw [← er]; exact (heldN_grow _ _ e2).symm
            · rw [← er, waitN_eq, waitN_eq]; omega
        · intro hs
          have e := stuck_run hs c.Belt.length
          rw [er, e]
          exact ⟨rfl, rfl⟩
      rw [hsame]
      by_cases hs : StuckC c
      · simp only [hs, decide_true, if_true, br_t]
        refine Ok.cl (at_ok a h.2 1 (by omega)) fun m0 hm => ?_
        have hm1 : 0 ≤ m0.tmod 40 := Int.tmod_nonneg _ hm.1
        have hm2 : m0.tmod 40 < 40 := Int.tmod_lt_of_pos _ (by omega)
        simp only [R_rem]
        generalize m0.tmod 40 = m at hm1 hm2
        obtain ⟨s, s1, _, s3, s4, _⟩ := runCentre_eq c ht m
        have es := s4 hc (by omega) (by omega)
        have hk := stuck_keep hs m.toNat (by omega)
        have e := stuck_run hs c.Belt.length
        have eb : r.Belt = c.Belt := by rw [er, e]; exact rotN_full _
        rw [s1, cl_some, eb, items_r _ (by omega), cl_some, br_t, stuck_r s s3, cl_some]
        refine Ok.ret ?_
        rw [es]
        simpa using hk
      · simp only [hs, decide_false, Bool.false_eq_true, if_false, Bool.not_false]
        exact Ok.ret rfl
  · rw [if_neg hc]
    exact Ok.ret (by simp only [Bool.not_eq_true', decide_eq_false_iff_not]; exact fun q => hc q.1)
end Go.Vs
namespace Go.Proofs.Ytieeagobedjogaa.fnBeltStuck
open Go.Vs Go.RowKit Go.WideShapes Go.ChangeShapes
set_option linter.unusedVariables false
set_option maxRecDepth 100000
theorem given (as0 : List A) (h : ArgsIs Try.prog 8 Try.f13.params.toList as0) : Go.Vs.Fn Try.prog 13 as0 (.c (.r (.v (.bool true)))) := by
  rw [Try.params13] at h
  obtain ⟨x0, xs0, rfl, ⟨ts0, t0, q0⟩, h⟩ := h
  rw [show tyOf Try.prog 8 39 = some [.sl [.int .u8]] from by kernel_rfl] at t0
  cases t0
  rw [show aggT Try.prog 39 = false from by kernel_rfl] at q0
  obtain ⟨r0, rfl, q0⟩ := q0
  obtain ⟨_, _, e0, q0, e0_⟩ := is_cons q0
  cases e0
  obtain ⟨b0, rfl, l0, q0⟩ := is_sl q0
  obtain ⟨a0, rfl, p0⟩ := rows_is is_U8 b0 q0
  rw [List.length_map] at l0
  have h := h
  subst h
  exact c_L_FnBeltStuck rfl rfl (law13 _ ⟨l0, p0⟩)
theorem lifted (os : Os) (started : os.Started) (H : Type) (enc : TypeId × Value → H) :
    ReturnsInHanded {} Try.checked os 13 .any (Rows.fnBeltStuckSpec.pre6 enc Try.prog Try.f13 Rows.fnBeltStuckRow.domain false) (Rows.fnBeltStuckSpec.post enc Try.prog Try.f13 false true false false) := by
  refine returnsInHanded_of_change (C := Try.checked) (s := Rows.fnBeltStuckSpec) (by kernel_rfl) started (by kernel_rfl) Try.func13
    (ChangeSpec.witness6 (enc := enc) (C := Try.checked) false ⟨#[], #[.slice none 0 0], []⟩ 8 (by kernel_rfl) (by kernel_rfl) (by kernel_rfl) (by kernel_rfl)) ?_
  intro W base args ds gs before hval hW _ _
  refine law_contract (n := 8) (tb := 4) rfl rfl Try.underlying4 (by kernel_rfl) (by kernel_rfl) (fun ds hl => ?_) given W base args ds gs before hval hW
  rw [Try.params13] at hl
  match ds, hl with
  | [d0], _ => exact ⟨rfl, rfl, rfl⟩
theorem facts : joinedFacts Try.prog 13 Try.f13 Rows.fnBeltStuckSpec Rows.fnBeltStuckRow = true := by
  unfold joinedFacts
  exact (and_i (and_i (and_i (and_i (and_i (and_i (and_i (and_i (and_i (and_i (and_i (and_i (and_i (and_i (and_i (and_i (and_i (and_i (and_i (and_i (and_i (and_i (and_i (and_i (and_i (and_i (and_i (and_i (and_i (and_i (and_i (by kernel_rfl) io_laid) io_maps) (by kernel_rfl)) (by kernel_rfl)) (by kernel_rfl)) (by kernel_rfl)) (by kernel_rfl)) (by kernel_rfl)) (by kernel_rfl)) (by kernel_rfl)) (by kernel_rfl)) (by kernel_rfl)) (by kernel_rfl)) (by kernel_rfl)) (by kernel_rfl)) (by kernel_rfl)) (by kernel_rfl)) (by kernel_rfl)) (by kernel_rfl)) (by kernel_rfl)) (by kernel_rfl)) (by kernel_rfl)) (by kernel_rfl)) io_heard) io_enter) (by rw [io_final]; rfl)) (by rw [io_make]; rfl)) (by kernel_rfl)) (by kernel_rfl)) (by kernel_rfl)) (by kernel_rfl))
theorem holds : Rows.FnBeltStuckSaid :=
  OpenClaim.holds_of_wide 13 Try.f13 rfl rfl rfl rfl rfl rfl rfl ⟨rfl, rfl, rfl, rfl, rfl⟩ rfl rfl rfl rfl rfl (by kernel_rfl) Try.func13 facts
    (of_decide_eq_true (by kernel_rfl)) (by unfold Func.isWrapper; first | (rw [if_pos (by decide +kernel)]; kernel_rfl) | (rw [if_neg (by decide +kernel)]; exact ⟨rfl, rfl⟩))
    (fun os started H enc _ => lifted os started H enc)
end Go.Proofs.Ytieeagobedjogaa.fnBeltStuck
