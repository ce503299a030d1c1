/- The law FnBeltDrains holds: whatever its arguments, the call returns true and leaves them as they were. No condition. -/
import Derived.Test.YtieeagobedjogaaPlain
import Derived.Test.YtieeagobedjogaaLaa
import Derived.Test.YtieeagobedjogaaLad
import Derived.Test.YtieeagobedjogaaDrain
import Derived.Test.YtieeagobedjogaaDraws
import Derived.Test.YtieeagobedjogaaLac
import Derived.Test.YtieeagobedjogaaIs
import Derived.Test.YtieeagobedjogaaOrder
import Derived.Test.YtieeagobedjogaaRows
set_option linter.unusedVariables false
set_option linter.unusedSimpArgs false
set_option linter.unusedSectionVars false
namespace Go.Vs
open Go.IntWalk
/-! What waits, what is on the belt. -/
theorem iCountWait_l1 (l : List Inlet) : ∀ (v : Int), 0 ≤ v → v + (sumT (fun y => Inlet.tot y) l : Nat) < 4611686018427387904 → I_CountWait_l1 G.real TE.real l v = v + (sumT (fun y => Inlet.tot y) l : Nat) := by
  induction l with
  | nil => intro v _ _; rw [I_CountWait_l1]; simp [sumT]
  | cons z l ih =>
    intro v h0 h
    have e : Inlet.tot z = z.Wait.length := rfl
    rw [sumT_cons] at h ⊢
    rw [I_CountWait_l1]
    simp only [R_add, llen_Item]
    rw [w64 (by omega) (by omega), ih _ (by omega) (by omega)]
    omega
theorem iCountWait_r (c : Centre) (h : c.tot ≤ 1048576) : I_CountWait G.real TE.real c = (sumT (fun y => Inlet.tot y) c.Inlets : Nat) := by
  unfold Centre.tot at h
  unfold I_CountWait
  simp only [lP_eq]
  rw [iCountWait_l1 _ _ (by omega) (by omega)]
  omega
theorem iCountBelt_l1 (l : List Item) : ∀ (v : Int), 0 ≤ v → v + l.length < 4611686018427387904 → I_CountBelt_l1 G.real TE.real l v = v + (l.countP onB : Nat) := by
  induction l with
  | nil => intro v _ _; rw [I_CountBelt_l1]; simp
  | cons z l ih =>
    intro v h0 h
    simp only [List.length_cons] at h
    rw [I_CountBelt_l1]
    simp only [R_add, R_eq, br_dec]
    rw [w64 (by omega) (by omega), ih _ (by omega) (by omega), ih _ (by omega) (by omega), List.countP_cons]
    unfold onB
    by_cases hz : z.Id = 0
    · simp [hz]
    · simp [hz]; omega
theorem iCountBelt_r (c : Centre) (h : c.tot ≤ 1048576) : I_CountBelt G.real TE.real c = (c.Belt.countP onB : Nat) := by
  unfold Centre.tot at h
  unfold I_CountBelt
  simp only [lP_eq]
  rw [iCountBelt_l1 _ _ (by omega) (by omega)]
  omega
end Go.Vs
namespace Go.Vs
open Go.IntWalk
/-- whether something on the belt can fall -/
def canFall (c : Centre) (x : Item) : Bool := match c.Plan[x.Dest.toNat]? with
  | some k => match c.Chutes[k.toNat]? with
    | some y => decide ((y.Held.length : Int) < y.Room)
    | none => false
  | none => false
theorem fall_get {c : Centre} (hc : IsC c) {x : Item} (hx : x ∈ itemsOf c) : ∃ k y, 0 ≤ x.Dest ∧ c.Plan[x.Dest.toNat]? = some k ∧ 0 ≤ k ∧ c.Chutes[k.toNat]? = some y ∧ canFall c x = decide ((y.Held.length : Int) < y.Room) := by
  obtain ⟨_, _, q1, q2⟩ := hc.item hx
  obtain ⟨k, hk, hkm⟩ := getL (l := c.Plan) q1 q2
  obtain ⟨r1, r2⟩ := hc.goal hkm
  obtain ⟨y, hy, _⟩ := getL (l := c.Chutes) r1 r2
  exact ⟨k, y, q1, hk, r1, hy, by simp [canFall, hk, hy]⟩
theorem iStuck_l1 {c : Centre} (hc : IsC c) (l : List Item) : (∀ x ∈ l, x ∈ c.Belt) → I_IsStuck_l1 G.real TE.real c l = some (if ∃ x ∈ l, onB x = true ∧ canFall c x = true then .ret false else .out ()) := by
  induction l with
  | nil => intro _; rw [I_IsStuck_l1]; simp
  | cons z l ih =>
    intro h
    have ih := ih (fun x hx => h x (by simp [hx]))
    rw [I_IsStuck_l1, ih]
    simp only [R_all, R_eq, List.all_cons, List.all_nil, id, Bool.and_true, llen_Item, R_nat, R_lt]
    by_cases h1 : z.Id = 0 ∧ z.Dest = 0
    · have h3 : (decide (z.Id = 0) && decide (z.Dest = 0)) = true := by simp [h1]
      rw [h3, br_t]
      congr 1
      refine if_iff ?_
      simp [onB, h1.1]
    · have h3 : (decide (z.Id = 0) && decide (z.Dest = 0)) = false := by
        rw [Bool.and_eq_false_iff]; simp only [decide_eq_false_iff_not]; omega
      have hm := belt_items (h z (by simp)) h1
      obtain ⟨k, y, q1, q2, q3, q4, q5⟩ := fall_get hc hm
      have hid := (hc.item hm).1
      rw [h3, br_f, gd_true q1, gt_some q2, gd_true q3, gt_some q4, br_dec]
      have hb : onB z = true := by simp only [onB, decide_eq_true_eq]; omega
      by_cases h4 : (y.Held.length : Int) < y.Room
      · rw [if_pos h4, if_pos ⟨z, by simp, hb, by simp [q5, h4]⟩]
      · rw [if_neg h4]
        congr 1
        refine if_iff ?_
        simp [q5, h4]
theorem ret_if2 {p : Prop} [Decidable p] (k : Unit → Option Bool) : lr (if p then LR.ret false else LR.out ()) k = if p then some false else k () := by split <;> rfl
end Go.Vs
namespace Go.Vs
open Go.IntWalk
open Classical in
theorem drained_r (c : Centre) (h : c.tot ≤ 1048576) : I_IsDrained G.real TE.real c = some (decide (IsC c ∧ c.Belt.countP onB = 0 ∧ sumT (fun y => Inlet.tot y) c.Inlets = 0)) := by
  unfold I_IsDrained
  rw [iCentre_r c h, iCountBelt_r c h, iCountWait_r c h]
  simp only [cl_some, lP_eq, br_dec, R_eq]
  by_cases hc : IsC c
  · rw [if_pos hc]
    split
    · congr 1; simp only [decide_eq_decide]; constructor
      · intro hh; exact ⟨hc, by omega, by omega⟩
      · intro hh; omega
    · congr 1; simp only [false_eq_decide_iff]; intro hh; omega
  · rw [if_neg hc]; congr 1; simp only [false_eq_decide_iff]; exact fun hh => hc hh.1
def StuckC (c : Centre) : Prop := IsC c ∧ ¬ (c.Belt.countP onB = 0 ∧ sumT (fun y => Inlet.tot y) c.Inlets = 0) ∧ (¬ ∃ x ∈ c.Belt, onB x = true ∧ canFall c x = true) ∧ (sumT (fun y => Inlet.tot y) c.Inlets = 0 ∨ c.Belt.countP onB = c.Belt.length)
open Classical in
theorem stuck_r (c : Centre) (h : c.tot ≤ 1048576) : I_IsStuck G.real TE.real c = some (decide (StuckC c)) := by
  unfold I_IsStuck
  rw [iCentre_r c h, drained_r c h, iCountWait_r c h, iCountBelt_r c h]
  simp only [cl_some, lP_eq, br_dec, R_eq, llen_Item]
  by_cases hc : IsC c
  · rw [if_pos hc]
    by_cases hd : c.Belt.countP onB = 0 ∧ sumT (fun y => Inlet.tot y) c.Inlets = 0
    · rw [if_pos ⟨hc, hd⟩]; congr 1; simp only [false_eq_decide_iff]; exact fun hh => hh.2.1 hd
    · rw [if_neg (fun hh => hd hh.2), iStuck_l1 hc c.Belt (fun x hx => hx), cl_some, ret_if2]
      by_cases p : ∃ x ∈ c.Belt, onB x = true ∧ canFall c x = true
      · rw [if_pos p]; congr 1; simp only [false_eq_decide_iff]; exact fun hh => hh.2.2.1 p
      · rw [if_neg p]
        split
        · congr 1; simp only [true_eq_decide_iff]; exact ⟨hc, hd, p, .inl (by omega)⟩
        · congr 1; simp only [decide_eq_decide]; constructor
          · intro hh; exact ⟨hc, hd, p, .inr (by omega)⟩
          · intro hh; rcases hh.2.2.2 with q | q
            · omega
            · omega
  · rw [if_neg hc]; congr 1; simp only [false_eq_decide_iff]; exact fun hh => hc hh.1
end Go.Vs
/- A draw whose chutes are full. -/
namespace Go.Vs
open Go.IntWalk
def ky (l : List Chute) : List (Int × List Item) := l.map fun y => (y.Cell, y.Held)
theorem ky_cell (l : List Chute) : l.map (·.Cell) = (ky l).map (·.1) := by simp [ky]
theorem ky_held (l : List Chute) : l.flatMap (·.Held) = (ky l).flatMap (·.2) := by simp [ky, List.flatMap_map]
theorem ky_len (l : List Chute) : l.length = (ky l).length := by simp [ky]
theorem isC_rooms {c : Centre} (h : IsC c) {w : List Chute} (hk : ky w = ky c.Chutes) (hw : ∀ x ∈ w, chOk c.Belt.length x = true) : IsC ⟨c.Belt, w, c.Inlets, c.Plan, c.Now⟩ := by
  have hl : w.length = c.Chutes.length := by rw [ky_len, hk, ← ky_len]
  have hi : itemsOf ⟨c.Belt, w, c.Inlets, c.Plan, c.Now⟩ = itemsOf c := by
    unfold itemsOf
    simp only
    rw [ky_held w, hk, ← ky_held]
  exact ⟨h.belt, by simp only [hl]; exact h.chutes, h.inlets, h.plan, h.now, hw, by simp only [ky_cell, hk]; rw [← ky_cell]; exact h.chn, h.inl, h.inn, by simp only [hl]; exact h.pl, by rw [hi]; exact h.it, by rw [hi]; exact h.itn⟩
theorem full_l1 {c0 : Centre} (h0 : IsC c0) : ∀ (k n : Nat) (v : Nat) (c : Cur) (w : List Chute), v + k = c0.Chutes.length → k < n → CurOk c → ky w = ky c0.Chutes → (∀ x ∈ w, chOk c0.Belt.length x = true) →
    Ok (fun r => CurOk ⟨r.1, r.2.1, r.2.2.1⟩ ∧ ky r.2.2.2 = ky c0.Chutes ∧ ∀ x : Chute, x ∈ r.2.2.2 → chOk c0.Belt.length x = true) (S_l7Full_l1 G.real TE.real n c.b c.i c.h w (v : Int))
  | k, 0, _, _, _, _, hk, _, _, _ => absurd hk (by omega)
  | k, n + 1, v, c, w, hv, hk, hc, h1, h2 => by
    have hl : w.length = c0.Chutes.length := by rw [ky_len, h1, ← ky_len]
    have hch := h0.chutes
    rw [S_l7Full_l1]
    simp only [R_int, dlenx_Chute, dlenx_Item, R_lt, R_nat, Int.toNat_natCast, R_add, br_dec]
    by_cases hlt : v < w.length
    · obtain ⟨k, rfl⟩ : ∃ m, k = m + 1 := ⟨k - 1, by omega⟩
      rw [if_pos (by omega)]
      have hx : w[v]? = some w[v] := List.getElem?_eq_getElem hlt
      generalize w[v] = x at hx
      have hm : x ∈ w := List.mem_of_getElem? hx
      have hok := h2 x hm
      refine Ok.gt hx (Ok.cl (l1Once_ok _ hc 4) fun y hy => ?_)
      rw [w64 (by omega) (by omega)]
      refine Ok.br (fun _ => ?_) (fun _ => Ok.gd (by omega) ?_)
      · exact full_l1 h0 k n (v + 1) y.2 w (by omega) (by omega) hy h1 h2
      · split
        · rename_i hpos
          refine Ok.gd (by omega) (Ok.gd (by omega) (Ok.lP ?_))
          refine full_l1 h0 k n (v + 1) y.2 _ (by omega) (by omega) hy ?_ ?_
          · rw [← h1]
            unfold ky
            rw [List.map_set]
            apply List.ext_getElem?
            intro j
            rw [List.getElem?_set]
            split
            · rename_i e
              subst e
              simp only [List.length_map, hlt, if_true, List.getElem?_map, hx, Option.map_some]
            · rfl
          · intro z hz
            rcases List.mem_or_eq_of_mem_set hz with hz | rfl
            · exact h2 z hz
            · simp only [chOk, decide_eq_true_eq] at hok ⊢
              omega
        · exact full_l1 h0 k n (v + 1) y.2 w (by omega) (by omega) hy h1 h2
    · rw [if_neg (by omega)]
      exact Ok.ret ⟨hc, h1, h2⟩
theorem full_l2 : ∀ (k n : Nat) (c : Cur) (x : Centre), k < n → k ≤ 100 → CurOk c → IsC x →
    Ok (fun r => CurOk ⟨r.1, r.2.1, r.2.2.1⟩ ∧ IsC ⟨r.2.2.2.1, r.2.2.2.2.1, r.2.2.2.2.2.1, r.2.2.2.2.2.2.1, r.2.2.2.2.2.2.2⟩ ∧ r.2.2.2.2.2.2.2 = x.Now) (S_l7Full_l2 G.real TE.real n c.b c.i c.h x.Belt x.Chutes x.Inlets x.Plan x.Now (k : Int))
  | k, 0, c, x, hk, _, _, _ => absurd hk (by omega)
  | 0, n + 1, c, x, hk, _, hc, hx => by
    rw [S_l7Full_l2]
    exact Ok.ret ⟨hc, hx, rfl⟩
  | k + 1, n + 1, c, x, hk, hk8, hc, hx => by
    rw [S_l7Full_l2]
    refine Ok.br (fun _ => ?_) (fun hb => absurd hb (by simp))
    refine Ok.cl (l1Below_ok _ hc _) fun q hq => Ok.cl (l1Below_ok q.2 hq.2.2 _) fun s hs => ?_
    rw [show G.real.wrap .i64 (G.real.sub ((k + 1 : Nat) : Int) 1) = (k : Int) from by rw [R_sub, w64 (by omega) (by omega)]; omega]
    obtain ⟨r, _, e2, e3, e4⟩ := feedCentre_eq x (by have := hx.d.tot; omega) q.1 (Item.mk (G.real.wrap .i64 (G.real.add 100 ((k + 1 : Nat) : Int))) s.1)
    rw [show (Centre.mk x.Belt x.Chutes x.Inlets x.Plan x.Now) = x from rfl, e2, cl_some]
    obtain ⟨f1, f2⟩ := e4 hx
    exact (full_l2 k n s.2 r.1 (by omega) (by omega) hs.2.2 f1).mono fun z hz => ⟨hz.1, hz.2.1, hz.2.2.trans f2⟩
theorem run_ok {c : Centre} (h : IsC c) {k : Int} (hk : 0 ≤ k ∧ k ≤ 1000) (hn : c.Now ≤ 90000) : Ok (fun r => IsC r ∧ r.Now = c.Now + k) (S_RunCentre G.real TE.real c k) := by
  obtain ⟨r, _, e2, _, e4, _⟩ := runCentre_eq c (by have := h.d.tot; omega) k
  have e := e4 h hk (by omega)
  have hN := run_now k.toNat c
  have := h.now
  refine ⟨r, e2, ?_, by rw [e, hN]; omega⟩
  rw [e]
  exact (runD k.toNat h.d).c (by omega)
theorem full_ok (c : Cur) (hc : CurOk c) : Ok (fun r => r.1.tot ≤ 1048576 ∧ CurOk r.2) (S_l7Full G.real TE.real c) := by
  unfold S_l7Full
  refine Ok.cl (draw_ok c hc) fun x1 h1 => ?_
  obtain ⟨hi, hn, hc1⟩ := h1
  refine Ok.cl (run_ok (c := x1.1) hi (k := 40) (by omega) (by omega)) fun x2 h2 => ?_
  obtain ⟨i2, n2⟩ := h2
  have hch := i2.chutes
  refine Ok.cl (full_l1 i2 x2.Chutes.length 1000000000 0 x1.2 x2.Chutes (by omega) (by omega) hc1 rfl i2.ch) fun y1 hy => ?_
  obtain ⟨hy1, hy2, hy3⟩ := hy
  refine Ok.cl (l1Below_ok _ hy1 16) fun x5 h5 => ?_
  have u1 := h5.1
  have u2 := h5.2.1 (by omega)
  rw [show x5.1 = ((x5.1.toNat : Nat) : Int) from by omega]
  refine Ok.cl (full_l2 x5.1.toNat 1000000000 x5.2 ⟨x2.Belt, y1.2.2.2, x2.Inlets, x2.Plan, x2.Now⟩ (by omega) (by omega) h5.2.2 (isC_rooms i2 hy2 hy3)) fun y2 hy2' => ?_
  obtain ⟨k1, k2, k3⟩ := hy2'
  simp only at k3
  refine Ok.cl (l1Below_ok _ k1 30) fun x9 h9 => ?_
  have v1 := h9.1
  have v2 := h9.2.1 (by omega)
  refine Ok.cl (run_ok k2 (k := x9.1) (by omega) (by simp only; omega)) fun x10 h10 => Ok.ret ⟨by have := h10.1.d.tot; simp only; omega, h9.2.2⟩
end Go.Vs
namespace Go.Vs
open Go.IntWalk
theorem drawDrain_ok (a : List Int) (h : a.length ≤ 1000000) : Ok (fun r => r.1.tot ≤ 1048576) (S_DrawTicksToDrain G.real TE.real a) := by
  unfold S_DrawTicksToDrain
  exact Ok.lP (Ok.cl (any_ok _ (new_cur a h)) fun y hy => Ok.cl (l1Once_ok _ hy.2 3) fun x hx => Ok.br (fun _ => Ok.cl (full_ok _ hx) fun z hz => Ok.lP (Ok.cl (l1Int_ok _ hz.2 _ (by simp)) fun u _ => Ok.ret hz.1)) (fun _ => Ok.lP (Ok.cl (l1Int_ok _ hx _ (by simp)) fun u _ => Ok.ret hy.1)))
end Go.Vs
namespace Go.Vs
open Go.IntWalk
def Dry (c : Centre) : Prop := c.Belt.countP onB = 0 ∧ sumT (fun y => Inlet.tot y) c.Inlets = 0
theorem dry_waits : ∀ l : List Inlet, (∀ y ∈ l, y.Wait = []) → sumT (fun y => Inlet.tot y) l = 0
  | [], _ => rfl
  | z :: l, h => by rw [sumT_cons, dry_waits l fun y hy => h y (by simp [hy])]; simp [Inlet.tot, h z (by simp)]
theorem ticks_l1 : ∀ (T n : Nat) (v : Int) (c : Centre), T < n → IsD c → 0 ≤ c.Now → c.Now + n ≤ 1000000 → 0 ≤ v → v + n ≤ 1000000 → Dry (runP T c) → ∃ k : Nat, k ≤ T ∧ Dry (runP k c) ∧ I_TicksToDrain_l1 G.real TE.real n v c.Belt c.Chutes c.Inlets c.Plan c.Now = some (.ret (v + k))
  | T, 0, v, c, hT, _, _, _, _, _, _ => absurd hT (by omega)
  | T, n + 1, v, c, hT, hD, h0, h1, h2, h3, hd => by
    have ht := hD.tot
    obtain ⟨t1, _⟩ := tick_r hD (by omega)
    have hn : (tickP c).Now = c.Now + 1 := rfl
    rw [I_TicksToDrain_l1]
    rw [show Centre.mk c.Belt c.Chutes c.Inlets c.Plan c.Now = c from rfl, iCountBelt_r c (by omega), iCountWait_r c (by omega), t1]
    simp only [lP_eq, cl_some, R_eq, R_add, br_dec]
    by_cases hdry : Dry c
    · refine ⟨0, Nat.zero_le _, hdry, ?_⟩
      rw [if_pos (by have := hdry.1; omega), if_pos (by have := hdry.2; omega)]
      simp
    · cases T with
      | zero => exact absurd hd hdry
      | succ T =>
        obtain ⟨k, k1, k2, k3⟩ := ticks_l1 T n (v + 1) (tickP c) (by omega) (tickD hD) (by omega) (by omega) (by omega) (by omega) hd
        refine ⟨k + 1, by omega, k2, ?_⟩
        rw [w64 (by omega) (by omega), k3]
        have e : v + 1 + (k : Int) = v + ((k + 1 : Nat) : Int) := by omega
        rw [e]
        split
        · rw [if_neg (by intro hh; exact hdry ⟨by omega, by omega⟩)]
        · rfl
theorem ticks_ok {c : Centre} (h : IsC c) {T : Nat} (hT : T ≤ 1000) (hd : Dry (runP T c)) : ∃ k : Nat, k ≤ T ∧ Dry (runP k c) ∧ I_TicksToDrain G.real TE.real c 1000 = some (k : Int) := by
  have ht := h.d.tot
  have hn := h.now
  obtain ⟨k1, _⟩ := copy_r c (by omega)
  obtain ⟨k, a1, a2, a3⟩ := ticks_l1 T 1001 0 c (by omega) h.d (by omega) (by omega) (by omega) (by omega) hd
  refine ⟨k, a1, a2, ?_⟩
  unfold I_TicksToDrain
  rw [iCentre_r c (by omega), k1]
  simp only [cl_some, lP_eq, within_r, br_dec]
  rw [if_pos h, if_pos (by omega), gd_true (by omega), show cntLe 0 1000 = 1001 from rfl, a3, cl_some]
  simp
theorem ticks_no {c : Centre} (ht : c.tot ≤ 1048576) (h : ¬ IsC c) : I_TicksToDrain G.real TE.real c 1000 = some (-1) := by
  unfold I_TicksToDrain
  rw [iCentre_r c ht]
  simp only [cl_some, br_dec]
  rw [if_neg h]
/-! the law's own sums -/
theorem room_l1 (c : Centre) (hc : IsC c) : ∀ (l : List Chute) (k : Nat) (w : List Int), c.Chutes.drop k = l → w.length = c.Chutes.length → L_FnBeltDrains_l1 G.real TE.real l (k : Int) w = some (w.take k ++ l.map fun y => y.Room - (y.Held.length : Int))
  | [], k, w, h, hw => by
    rw [L_FnBeltDrains_l1]
    have : c.Chutes.length ≤ k := by
      have := congrArg List.length h
      simp at this; omega
    rw [List.take_of_length_le (by omega)]
    simp
  | z :: l, k, w, h, hw => by
    obtain ⟨h1, h2, h3, _⟩ := drop_cons h
    have hx : w[k]? = some w[k] := List.getElem?_eq_getElem (by omega)
    have hcell := hc.cell (List.mem_of_getElem? h2)
    have hch := hc.chutes
    rw [L_FnBeltDrains_l1]
    simp only [dlenx_I64, R_nat, Int.toNat_natCast, lP_eq, R_sub, llen_Item, R_add]
    rw [gd_true (by omega), gt_some hx, w64 (n := z.Room - (z.Held.length : Int)) (by omega) (by omega), w64 (by omega) (by omega), show (k : Int) + 1 = ((k + 1 : Nat) : Int) from by omega, room_l1 c hc l (k + 1) _ h3 (by simp; exact hw)]
    congr 1
    rw [List.take_add_one]
    simp [show k < w.length by omega, List.take_set_of_le]
theorem all_l2 (l : List Inlet) : ∀ w : List Item, w.length + sumT (fun y => Inlet.tot y) l ≤ 4194304 → L_FnBeltDrains_l2 G.real TE.real l w = some (w ++ l.flatMap (·.Wait)) := by
  induction l with
  | nil => intro w _; rw [L_FnBeltDrains_l2]; simp
  | cons z l ih =>
    intro w h
    rw [sumT_cons] at h
    have e : Inlet.tot z = z.Wait.length := rfl
    rw [L_FnBeltDrains_l2, gd_true (by omega), lP_eq, ih _ (by rw [List.length_append]; omega)]
    simp
theorem sub_l3 (x2 : Centre × Int) (a : List Item) (ha : a.length ≤ 4194304) (m : Nat) (hv : ∀ x ∈ a, x.Id ≠ 0 → ∃ j : Nat, 0 ≤ x.Dest ∧ x2.1.Plan[x.Dest.toNat]? = some (j : Int) ∧ j < m) : ∀ (n k : Nat) (w : List Int), k + n = a.length → w.length = m → (∀ x ∈ w, -1000000000 + (n : Int) ≤ x ∧ x ≤ 1000000000) →
    Ok (fun r => r.length = m ∧ ∀ (j : Nat) (x : Int), w[j]? = some x → r[j]? = some (x - ((a.drop k).countP (ds x2.1.Plan j) : Nat))) (L_FnBeltDrains_l3 G.real TE.real x2 a n (k : Int) w)
  | 0, k, w, hk, hw, _ => by
    rw [L_FnBeltDrains_l3, List.drop_of_length_le (by omega)]
    exact Ok.ret ⟨hw, fun j x h => by rw [h]; simp⟩
  | n + 1, k, w, hk, hw, hb => by
    have hx : a[k]? = some a[k] := List.getElem?_eq_getElem (by omega)
    have hd := List.drop_eq_getElem_cons (show k < a.length by omega)
    generalize a[k] = x at hx hd
    rw [L_FnBeltDrains_l3, hd]
    simp only [R_nat, Int.toNat_natCast, R_eq, R_add, R_sub, dlenx_I64, lP_eq, br_dec]
    rw [gt_some hx, w64 (n := (k : Int) + 1) (by omega) (by omega), show (k : Int) + 1 = ((k + 1 : Nat) : Int) from by omega]
    split
    · rename_i h0
      refine (sub_l3 x2 a ha m hv n (k + 1) w (by omega) hw fun y hy => by have := hb y hy; omega).mono fun r hr => ⟨hr.1, fun j y hy => ?_⟩
      rw [hr.2 j y hy, List.countP_cons_of_neg (by simp [ds, h0])]
    · rename_i h0
      obtain ⟨q, q1, q2, q3⟩ := hv x (List.mem_of_getElem? hx) h0
      have hq : w[q]? = some w[q] := List.getElem?_eq_getElem (by omega)
      have hbq := hb _ (List.mem_of_getElem? hq)
      rw [gd_true q1, gt_some q2, gd_true q1, gd_true (by omega), Int.toNat_natCast, gt_some hq, gd_true (by omega), w64 (n := w[q] - 1) (by omega) (by omega)]
      refine (sub_l3 x2 a ha m hv n (k + 1) (w.set q (w[q] - 1)) (by omega) (by simp; exact hw) fun y hy => ?_).mono fun r hr => ⟨hr.1, fun j y hy => ?_⟩
      · rcases List.mem_or_eq_of_mem_set hy with hy | rfl
        · have := hb y hy; omega
        · omega
      · by_cases hj : q = j
        · subst hj
          rw [hq] at hy
          cases hy
          have := hr.2 q (w[q] - 1) (by rw [List.getElem?_set]; simp; omega)
          rw [this, List.countP_cons_of_pos (by simp only [ds, decide_eq_true_eq]; exact ⟨h0, q2⟩)]
          congr 1
          omega
        · rw [hr.2 j y (by rw [List.getElem?_set_ne hj]; exact hy), List.countP_cons_of_neg]
          simp only [ds, decide_eq_true_eq]
          rintro ⟨_, h3⟩
          rw [q2] at h3
          simp at h3
          omega
theorem neg_l4 (y : List Int) (hy : y.length ≤ 1048576) : ∀ (n k : Nat), k + n = y.length → Ok (fun o => o = .ret true ∨ (o = .out () ∧ ∀ x ∈ y.drop k, 0 ≤ x)) (L_FnBeltDrains_l4 G.real TE.real y n (k : Int))
  | 0, k, h => by
    rw [L_FnBeltDrains_l4]
    exact ⟨_, rfl, Or.inr ⟨rfl, by rw [List.drop_of_length_le (by omega)]; simp⟩⟩
  | n + 1, k, h => by
    have hx : y[k]? = some y[k] := List.getElem?_eq_getElem (by omega)
    rw [L_FnBeltDrains_l4]
    simp only [R_nat, Int.toNat_natCast, R_lt, R_add, br_dec]
    rw [gt_some hx, w64 (by omega) (by omega), show (k : Int) + 1 = ((k + 1 : Nat) : Int) from by omega]
    split
    · exact ⟨_, rfl, Or.inl rfl⟩
    · refine (neg_l4 y hy n (k + 1) (by omega)).mono fun o ho => ?_
      rcases ho with ho | ⟨ho, h2⟩
      · exact Or.inl ho
      · refine Or.inr ⟨ho, fun x hx => ?_⟩
        rw [List.drop_eq_getElem_cons (show k < y.length by omega)] at hx
        rcases List.mem_cons.1 hx with rfl | hx
        · omega
        · exact h2 x hx
open Classical in
theorem law11 (a : List Int) (h : a.length ≤ 9223372036854775807 ∧ ∀ x ∈ a, 0 ≤ x ∧ x ≤ 255) : L_FnBeltDrains G.real TE.real a = some true := by
  refine Tr.eq ?_
  unfold L_FnBeltDrains
  refine Tr.big fun hl => ?_
  refine Ok.cl (drawDrain_ok a (by omega)) fun x ht => ?_
  obtain ⟨c, kk⟩ := x
  simp only at ht ⊢
  rw [show Centre.mk c.Belt c.Chutes c.Inlets c.Plan c.Now = c from rfl, sCentre_r c ht]
  simp only [cl_some, br_dec]
  by_cases hc : IsC c
  · rw [if_pos hc]
    have hb := hc.belt
    have hch := hc.chutes
    have hnow := hc.now
    have hto := hc.d.tot
    have htot := hto
    unfold Centre.tot at htot
    simp only [llen_Chute, R_nat, Int.toNat_natCast, R_int, dlenx_Item, dlenx_I64]
    refine Ok.gd (by omega) (Ok.lP ?_)
    rw [show (0 : Int) = ((0 : Nat) : Int) from rfl, room_l1 c hc c.Chutes 0 _ rfl (by simp), cl_some, List.take_zero, List.nil_append]
    refine Ok.lP (Ok.gd (by simp only [List.length_nil]; omega) (Ok.lP ?_))
    rw [List.nil_append, all_l2 _ _ (by omega), cl_some]
    generalize hal : c.Belt ++ c.Inlets.flatMap (·.Wait) = all
    have hall : all.length = c.Belt.length + sumT (fun y => Inlet.tot y) c.Inlets := by rw [← hal, List.length_append, flat_tot_in]
    refine Ok.gd (by omega) ?_
    rw [show cntLt ((0 : Nat) : Int) ((all.length : Nat) : Int) = all.length from cnt0 _]
    have hv : ∀ x ∈ all, x.Id ≠ 0 → ∃ j : Nat, 0 ≤ x.Dest ∧ c.Plan[x.Dest.toNat]? = some (j : Int) ∧ j < c.Chutes.length := by
      intro x hx h0
      have hm : x ∈ itemsOf c := by
        rw [← hal] at hx
        rcases List.mem_append.1 hx with hx | hx
        · exact belt_items hx fun e => h0 e.1
        · exact List.mem_append_right _ (List.mem_append_right _ hx)
      obtain ⟨_, _, q1, q2⟩ := hc.item hm
      obtain ⟨k, hk, hkm⟩ := getL (l := c.Plan) q1 q2
      obtain ⟨r1, r2⟩ := hc.goal hkm
      exact ⟨k.toNat, q1, by rw [hk]; congr 1; omega, by omega⟩
    refine Ok.cl (sub_l3 (c, kk) all (by omega) c.Chutes.length hv all.length 0 (c.Chutes.map fun y => y.Room - (y.Held.length : Int)) (by omega) (by simp) (fun x hx => by
      obtain ⟨y, hy, rfl⟩ := List.mem_map.1 hx
      have := hc.cell hy
      omega)) fun y3 hy3 => ?_
    obtain ⟨hy1, hy2⟩ := hy3
    refine Ok.gd (by omega) ?_
    rw [show cntLt ((0 : Nat) : Int) ((y3.length : Nat) : Int) = y3.length from cnt0 _]
    refine Ok.cl (neg_l4 y3 (by omega) y3.length 0 (by omega)) fun o ho => ?_
    rcases ho with rfl | ⟨rfl, hpos⟩
    · exact Ok.ret rfl
    · rw [lr_out]
      have hr : Roomy c := by
        intro j y hj
        have e := hy2 j (y.Room - (y.Held.length : Int)) (by rw [List.getElem?_map, hj]; rfl)
        have hp := hpos _ (List.mem_of_getElem? e)
        rw [List.drop_zero, ← hal, List.countP_append, List.countP_flatMap] at hp
        have e2 : (c.Inlets.map ((List.countP (ds c.Plan j)) ∘ fun y => y.Wait)).sum = cW c.Plan j c.Inlets := rfl
        simp only at hp
        rw [e2] at hp
        unfold cB
        omega
      obtain ⟨d1, d2⟩ := drains hc.d hr
      have hT : c.Belt.countP onB + waitN c.Inlets + c.Belt.length ≤ 1000 + 24 := by
        have : c.Belt.countP onB ≤ c.Belt.length := List.countP_le_length
        have : waitN c.Inlets = sumT (fun y => Inlet.tot y) c.Inlets := rfl
        omega
      have hwl : waitN c.Inlets ≤ 80 := by
        have := flat_le (fun y : Inlet => Inlet.tot y) c.Inlets 20 (fun y hy => (hc.inlet hy).2.2)
        have hi := hc.inlets
        show sumT (fun y => Inlet.tot y) c.Inlets ≤ 80
        omega
      have hbl : c.Belt.countP onB ≤ c.Belt.length := List.countP_le_length
      obtain ⟨k, k1, k2, k3⟩ := ticks_ok hc (T := c.Belt.countP onB + waitN c.Inlets + c.Belt.length) (by omega) ⟨d1, dry_waits _ d2⟩
      have hwe : waitN c.Inlets = sumT (fun y => Inlet.tot y) c.Inlets := rfl
      rw [k3, cl_some]
      refine Ok.br (fun hb => absurd hb (by simp)) fun _ => ?_
      rw [iCountBelt_r c ht, iCountWait_r c ht]
      refine Ok.lP (Ok.lP ?_)
      simp only [R_add, llen_Item, R_lt, br_dec]
      rw [w64 (n := ((c.Belt.countP onB : Nat) : Int) + ((sumT (fun y => Inlet.tot y) c.Inlets : Nat) : Int)) (by omega) (by omega), w64 (by omega) (by omega), if_neg (by omega), stuck_r c ht, cl_some, br_dec]
      have hns : ¬ StuckC c := by
        rintro ⟨_, s1, s2, s3⟩
        by_cases hB : c.Belt.countP onB = 0
        · rcases s3 with s3 | s3
          · exact s1 ⟨hB, s3⟩
          · omega
        · obtain ⟨x, hx, hxb⟩ := List.countP_pos_iff.1 (show 0 < c.Belt.countP onB by omega)
          have h0 : x.Id ≠ 0 := by simpa [onB] using hxb
          obtain ⟨k', y, q1, q2, q3, q4, q5⟩ := fall_get hc (belt_items hx fun e => h0 e.1)
          refine s2 ⟨x, hx, hxb, ?_⟩
          rw [q5]
          have hry := hr k'.toNat y q4
          have hpos2 : 0 < cB c.Plan k'.toNat c.Belt := List.countP_pos_iff.2 ⟨x, hx, by simp only [ds, decide_eq_true_eq]; exact ⟨h0, by rw [q2]; congr 1; omega⟩⟩
          simp only [decide_eq_true_eq]
          omega
      rw [if_neg hns]
      split
      · exact Ok.ret rfl
      · rename_i hn
        obtain ⟨r, r1, _, r3, r4, _⟩ := runCentre_eq c ht (k : Int)
        have er := r4 hc (by omega) (by omega)
        rw [Int.toNat_natCast] at er
        rw [r1, cl_some, drained_r r r3, cl_some]
        refine Ok.ret ?_
        simp only [decide_eq_true_eq]
        refine ⟨?_, ?_⟩
        · rw [er]; exact (runD k hc.d).c (by rw [run_now]; omega)
        · rw [er]; exact k2
  · rw [if_neg hc, ticks_no ht hc, cl_some]
    exact Ok.ret (by simp)
end Go.Vs
namespace Go.Proofs.Ytieeagobedjogaa.fnBeltDrains
open Go.Vs Go.RowKit Go.WideShapes Go.ChangeShapes
set_option linter.unusedVariables false
set_option maxRecDepth 100000
theorem given (as0 : List A) (h : ArgsIs Try.prog 8 Try.f11.params.toList as0) : Go.Vs.Fn Try.prog 11 as0 (.c (.r (.v (.bool true)))) := by
  rw [Try.params11] at h
  obtain ⟨x0, xs0, rfl, ⟨ts0, t0, q0⟩, h⟩ := h
  rw [show tyOf Try.prog 8 39 = some [.sl [.int .u8]] from by kernel_rfl] at t0
  cases t0
  rw [show aggT Try.prog 39 = false from by kernel_rfl] at q0
  obtain ⟨r0, rfl, q0⟩ := q0
  obtain ⟨_, _, e0, q0, e0_⟩ := is_cons q0
  cases e0
  obtain ⟨b0, rfl, l0, q0⟩ := is_sl q0
  obtain ⟨a0, rfl, p0⟩ := rows_is is_U8 b0 q0
  rw [List.length_map] at l0
  have h := h
  subst h
  exact c_L_FnBeltDrains rfl rfl (law11 _ ⟨l0, p0⟩)
theorem lifted (os : Os) (started : os.Started) (H : Type) (enc : TypeId × Value → H) :
    ReturnsInHanded {} Try.checked os 11 .any (Rows.fnBeltDrainsSpec.pre6 enc Try.prog Try.f11 Rows.fnBeltDrainsRow.domain false) (Rows.fnBeltDrainsSpec.post enc Try.prog Try.f11 false true false false) := by
  refine returnsInHanded_of_change (C := Try.checked) (s := Rows.fnBeltDrainsSpec) (by kernel_rfl) started (by kernel_rfl) Try.func11
    (ChangeSpec.witness6 (enc := enc) (C := Try.checked) false ⟨#[], #[.slice none 0 0], []⟩ 8 (by kernel_rfl) (by kernel_rfl) (by kernel_rfl) (by kernel_rfl)) ?_
  intro W base args ds gs before hval hW _ _
  refine law_contract (n := 8) (tb := 4) rfl rfl Try.underlying4 (by kernel_rfl) (by kernel_rfl) (fun ds hl => ?_) given W base args ds gs before hval hW
  rw [Try.params11] at hl
  match ds, hl with
  | [d0], _ => exact ⟨rfl, rfl, rfl⟩
theorem facts : joinedFacts Try.prog 11 Try.f11 Rows.fnBeltDrainsSpec Rows.fnBeltDrainsRow = true := by
  unfold joinedFacts
  exact (and_i (and_i (and_i (and_i (and_i (and_i (and_i (and_i (and_i (and_i (and_i (and_i (and_i (and_i (and_i (and_i (and_i (and_i (and_i (and_i (and_i (and_i (and_i (and_i (and_i (and_i (and_i (and_i (and_i (and_i (and_i (by kernel_rfl) io_laid) io_maps) (by kernel_rfl)) (by kernel_rfl)) (by kernel_rfl)) (by kernel_rfl)) (by kernel_rfl)) (by kernel_rfl)) (by kernel_rfl)) (by kernel_rfl)) (by kernel_rfl)) (by kernel_rfl)) (by kernel_rfl)) (by kernel_rfl)) (by kernel_rfl)) (by kernel_rfl)) (by kernel_rfl)) (by kernel_rfl)) (by kernel_rfl)) (by kernel_rfl)) (by kernel_rfl)) (by kernel_rfl)) (by kernel_rfl)) io_heard) io_enter) (by rw [io_final]; rfl)) (by rw [io_make]; rfl)) (by kernel_rfl)) (by kernel_rfl)) (by kernel_rfl)) (by kernel_rfl))
theorem holds : Rows.FnBeltDrainsSaid :=
  OpenClaim.holds_of_wide 11 Try.f11 rfl rfl rfl rfl rfl rfl rfl ⟨rfl, rfl, rfl, rfl, rfl⟩ rfl rfl rfl rfl rfl (by kernel_rfl) Try.func11 facts
    (of_decide_eq_true (by kernel_rfl)) (by unfold Func.isWrapper; first | (rw [if_pos (by decide +kernel)]; kernel_rfl) | (rw [if_neg (by decide +kernel)]; exact ⟨rfl, rfl⟩))
    (fun os started H enc _ => lifted os started H enc)
end Go.Proofs.Ytieeagobedjogaa.fnBeltDrains
