/- The law FnBeltRight holds: whatever its arguments, the call returns true and leaves them as they were. No condition. -/
import Derived.Test.YtieeagobedjogaaDraws
import Derived.Test.YtieeagobedjogaaLae
import Derived.Test.YtieeagobedjogaaIs
import Derived.Test.YtieeagobedjogaaOrder
import Derived.Test.YtieeagobedjogaaRows
set_option linter.unusedVariables false
set_option linter.unusedSimpArgs false
set_option linter.unusedSectionVars false
/- What a run does to the chutes. -/
namespace Go.Vs
open Go.IntWalk
def Grow (plan : List Int) (i : Nat) (y y' : Chute) : Prop := y'.Room = y.Room ∧ y'.Cell = y.Cell ∧ ∃ s, y'.Held = y.Held ++ s ∧ ∀ x ∈ s, plan[x.Dest.toNat]? = some (i : Int)
theorem Grow.refl (plan : List Int) (i : Nat) (y : Chute) : Grow plan i y y := ⟨rfl, rfl, [], by simp, by simp⟩
theorem Grow.trans {plan : List Int} {i : Nat} {y y' y'' : Chute} (h : Grow plan i y y') (h' : Grow plan i y' y'') : Grow plan i y y'' := by
  obtain ⟨a1, a2, s, a3, a4⟩ := h
  obtain ⟨b1, b2, s', b3, b4⟩ := h'
  refine ⟨b1.trans a1, b2.trans a2, s ++ s', by rw [b3, a3, List.append_assoc], fun x hx => ?_⟩
  rcases List.mem_append.1 hx with hx | hx
  · exact a4 x hx
  · exact b4 x hx
theorem chP_grow (plan : List Int) : ∀ (l : List Chute) (i : Nat) (b : List Item) (j : Nat) (y' : Chute), (chP plan i l b).1[j]? = some y' → ∃ y, l[j]? = some y ∧ Grow plan (i + j) y y'
  | [], i, b, j, y', h => by simp [chP] at h
  | ch :: l, i, b, j, y', h => by
    rw [chP] at h
    split at h
    · rename_i x hx
      split at h
      · rename_i hc
        cases j with
        | zero =>
          simp only [List.getElem?_cons_zero, Option.some.injEq] at h
          subst h
          exact ⟨ch, rfl, rfl, rfl, [x], rfl, fun z hz => by simp at hz; subst hz; simpa using hc.2.1⟩
        | succ j =>
          simp only [List.getElem?_cons_succ] at h ⊢
          rw [show i + (j + 1) = i + 1 + j from by omega]
          exact chP_grow plan l (i + 1) _ j y' h
      · cases j with
        | zero =>
          simp only [List.getElem?_cons_zero, Option.some.injEq] at h
          subst h
          exact ⟨ch, rfl, Grow.refl _ _ _⟩
        | succ j =>
          simp only [List.getElem?_cons_succ] at h ⊢
          rw [show i + (j + 1) = i + 1 + j from by omega]
          exact chP_grow plan l (i + 1) _ j y' h
    · cases j with
      | zero =>
        simp only [List.getElem?_cons_zero, Option.some.injEq] at h
        subst h
        exact ⟨ch, rfl, Grow.refl _ _ _⟩
      | succ j =>
        simp only [List.getElem?_cons_succ] at h ⊢
        rw [show i + (j + 1) = i + 1 + j from by omega]
        exact chP_grow plan l (i + 1) _ j y' h
theorem run_plan : ∀ (n : Nat) (c : Centre), (runP n c).Plan = c.Plan
  | 0, c => rfl
  | n + 1, c => by rw [runP, run_plan n]; rfl
theorem run_grow : ∀ (n : Nat) (c : Centre) (j : Nat) (y' : Chute), (runP n c).Chutes[j]? = some y' → ∃ y, c.Chutes[j]? = some y ∧ Grow c.Plan j y y'
  | 0, c, j, y', h => ⟨y', h, Grow.refl _ _ _⟩
  | n + 1, c, j, y', h => by
    rw [runP] at h
    obtain ⟨y1, h1, g1⟩ := run_grow n (tickP c) j y' h
    obtain ⟨y, h2, g2⟩ := chP_grow c.Plan c.Chutes 0 _ j y1 h1
    rw [Nat.zero_add] at g2
    exact ⟨y, h2, g2.trans g1⟩
end Go.Vs
namespace Go.Vs
open Go.IntWalk
theorem right_l2 (i : Nat) (x4 : Centre) (z : Chute) (hz : z.Held.length ≤ 1048576) : ∀ (k n j : Nat), j + k = z.Held.length → k < n → (∀ q x, j ≤ q → z.Held[q]? = some x → 0 ≤ x.Dest ∧ x4.Plan[x.Dest.toNat]? = some (i : Int)) →
    L_FnBeltRight_l2 G.real TE.real (i : Int) x4 z n (j : Int) = some (.out ())
  | k, 0, _, _, hk, _ => absurd hk (by omega)
  | 0, n + 1, j, hj, hk, h => by
    rw [L_FnBeltRight_l2]
    simp only [R_lt, llen_Item, br_dec]
    rw [if_neg (by omega)]
  | k + 1, n + 1, j, hj, hk, h => by
    rw [L_FnBeltRight_l2]
    simp only [R_lt, llen_Item, br_dec, R_nat, Int.toNat_natCast, R_add, R_eq]
    rw [if_pos (by omega), gd_true (by omega)]
    have hx : z.Held[j]? = some z.Held[j] := List.getElem?_eq_getElem (by omega)
    obtain ⟨h1, h2⟩ := h j _ (by omega) hx
    rw [gt_some hx, gd_true h1, gt_some h2, if_pos rfl, w64 (by omega) (by omega)]
    exact right_l2 i x4 z hz k n (j + 1) (by omega) (by omega) (fun q x hq => h q x (by omega))
theorem right_l1 (x2 : Centre × Int) (x4 : Centre) (hl : x4.Chutes.length ≤ 1048576) (H : ∀ j y', x4.Chutes[j]? = some y' → ∃ y, x2.1.Chutes[j]? = some y ∧ Grow x4.Plan j y y' ∧ (y'.Held.length : Int) ≤ y'.Room ∧ (∀ x ∈ y'.Held, 0 ≤ x.Dest) ∧ y'.Held.length ≤ 1048576) :
    ∀ (l : List Chute) (k : Nat), x4.Chutes.drop k = l → L_FnBeltRight_l1 G.real TE.real x2 x4 l k = some (.out ())
  | [], k, _ => by rw [L_FnBeltRight_l1]
  | z :: l, k, h => by
    obtain ⟨h1, h2, h3, _⟩ := drop_cons h
    obtain ⟨y, e1, ⟨g1, g2, s, g3, g4⟩, e3, e4, e5⟩ := H k z h2
    have hlen : z.Held.length = y.Held.length + s.length := by rw [g3, List.length_append]
    rw [L_FnBeltRight_l1]
    simp only [R_lt, llen_Item, rlenx_Item, br_dec, R_nat, Int.toNat_natCast, R_add, R_eq]
    rw [gt_some e1, if_neg (by omega), gd_true ⟨by omega, by omega, by omega⟩, lP_eq]
    have ht : List.drop (Int.toNat 0) (List.take y.Held.length z.Held) = y.Held := by
      rw [g3, List.take_left]; rfl
    rw [ht, items_r _ (by omega), cl_some, br_t, if_neg (by omega), right_l2 k x4 z e5 s.length 1000000000 y.Held.length (by omega) (by omega) (fun q x hq hx => ?_), cl_some, w64 (by omega) (by omega)]
    · exact right_l1 x2 x4 hl H l (k + 1) h3
    · have hm : x ∈ z.Held := List.mem_of_getElem? hx
      refine ⟨e4 x hm, ?_⟩
      rw [g3, List.getElem?_append_right hq] at hx
      exact g4 x (List.mem_of_getElem? hx)
theorem law6 (a : List Int) (h : a.length ≤ 9223372036854775807 ∧ ∀ x ∈ a, 0 ≤ x ∧ x ≤ 255) : L_FnBeltRight G.real TE.real a = some true := by
  refine Tr.eq ?_
  unfold L_FnBeltRight
  refine Tr.big fun hl => ?_
  refine Ok.cl (drawRun_ok a (by omega)) fun x hx => ?_
  obtain ⟨c, k⟩ := x
  obtain ⟨ht, k1, k2⟩ := hx
  simp only at ht k1 k2 ⊢
  rw [show Centre.mk c.Belt c.Chutes c.Inlets c.Plan c.Now = c from rfl, sCentre_r c ht]
  simp only [cl_some, br_dec]
  obtain ⟨r, r1, _, r3, r4, r5⟩ := runCentre_eq c ht k
  rw [r1, cl_some]
  split
  · rename_i hc
    have key : (∃ n, r = runP n c) := by
      by_cases hk : (0 ≤ k ∧ k ≤ 1000) ∧ c.Now + k ≤ 100000
      · exact ⟨_, r4 hc hk.1 hk.2⟩
      · exact ⟨0, r5 fun q => hk q.2⟩
    obtain ⟨n, e⟩ := key
    have hD : IsD r := by rw [e]; exact runD n hc.d
    have hp : r.Plan = c.Plan := by rw [e, run_plan]
    have hD0 : IsC ⟨r.Belt, r.Chutes, r.Inlets, r.Plan, 0⟩ := hD
    have hlc := hD0.chutes
    have hlp := hD0.plan
    have hto := hD.tot
    simp only at hlc hlp
    rw [show (0 : Int) = ((0 : Nat) : Int) from rfl, right_l1 (c, k) r (by omega) (fun j y' hj => ?_) r.Chutes 0 rfl]
    · rw [cl_some, hp, ints_r _ (by rw [hp] at hlp; omega)]
      exact Ok.ret rfl
    · have hm : y' ∈ r.Chutes := List.mem_of_getElem? hj
      have hcell := hD0.cell hm
      rw [e] at hj
      obtain ⟨y, f1, f2⟩ := run_grow n c j y' hj
      refine ⟨y, f1, by rw [hp]; exact f2, hcell.2.2.2.2, fun x hx => ?_, by have := hcell.2.2.2; omega⟩
      exact (itOk_iff.1 (hD.heldOk y' hm x hx)).2.2.1
  · rename_i hc
    rw [r5 (fun q => hc q.1), cl_some, centres_r c ht, cl_some]
    exact Ok.ret rfl
end Go.Vs
namespace Go.Proofs.Ytieeagobedjogaa.fnBeltRight
open Go.Vs Go.RowKit Go.WideShapes Go.ChangeShapes
set_option linter.unusedVariables false
set_option maxRecDepth 100000
theorem given (as0 : List A) (h : ArgsIs Try.prog 8 Try.f6.params.toList as0) : Go.Vs.Fn Try.prog 6 as0 (.c (.r (.v (.bool true)))) := by
  rw [Try.params6] at h
  obtain ⟨x0, xs0, rfl, ⟨ts0, t0, q0⟩, h⟩ := h
  rw [show tyOf Try.prog 8 39 = some [.sl [.int .u8]] from by kernel_rfl] at t0
  cases t0
  rw [show aggT Try.prog 39 = false from by kernel_rfl] at q0
  obtain ⟨r0, rfl, q0⟩ := q0
  obtain ⟨_, _, e0, q0, e0_⟩ := is_cons q0
  cases e0
  obtain ⟨b0, rfl, l0, q0⟩ := is_sl q0
  obtain ⟨a0, rfl, p0⟩ := rows_is is_U8 b0 q0
  rw [List.length_map] at l0
  have h := h
  subst h
  exact c_L_FnBeltRight rfl rfl (law6 _ ⟨l0, p0⟩)
theorem lifted (os : Os) (started : os.Started) (H : Type) (enc : TypeId × Value → H) :
    ReturnsInHanded {} Try.checked os 6 .any (Rows.fnBeltRightSpec.pre6 enc Try.prog Try.f6 Rows.fnBeltRightRow.domain false) (Rows.fnBeltRightSpec.post enc Try.prog Try.f6 false true false false) := by
  refine returnsInHanded_of_change (C := Try.checked) (s := Rows.fnBeltRightSpec) (by kernel_rfl) started (by kernel_rfl) Try.func6
    (ChangeSpec.witness6 (enc := enc) (C := Try.checked) false ⟨#[], #[.slice none 0 0], []⟩ 8 (by kernel_rfl) (by kernel_rfl) (by kernel_rfl) (by kernel_rfl)) ?_
  intro W base args ds gs before hval hW _ _
  refine law_contract (n := 8) (tb := 4) rfl rfl Try.underlying4 (by kernel_rfl) (by kernel_rfl) (fun ds hl => ?_) given W base args ds gs before hval hW
  rw [Try.params6] at hl
  match ds, hl with
  | [d0], _ => exact ⟨rfl, rfl, rfl⟩
theorem facts : joinedFacts Try.prog 6 Try.f6 Rows.fnBeltRightSpec Rows.fnBeltRightRow = true := by
  unfold joinedFacts
  exact (and_i (and_i (and_i (and_i (and_i (and_i (and_i (and_i (and_i (and_i (and_i (and_i (and_i (and_i (and_i (and_i (and_i (and_i (and_i (and_i (and_i (and_i (and_i (and_i (and_i (and_i (and_i (and_i (and_i (and_i (and_i (by kernel_rfl) io_laid) io_maps) (by kernel_rfl)) (by kernel_rfl)) (by kernel_rfl)) (by kernel_rfl)) (by kernel_rfl)) (by kernel_rfl)) (by kernel_rfl)) (by kernel_rfl)) (by kernel_rfl)) (by kernel_rfl)) (by kernel_rfl)) (by kernel_rfl)) (by kernel_rfl)) (by kernel_rfl)) (by kernel_rfl)) (by kernel_rfl)) (by kernel_rfl)) (by kernel_rfl)) (by kernel_rfl)) (by kernel_rfl)) (by kernel_rfl)) io_heard) io_enter) (by rw [io_final]; rfl)) (by rw [io_make]; rfl)) (by kernel_rfl)) (by kernel_rfl)) (by kernel_rfl)) (by kernel_rfl))
theorem holds : Rows.FnBeltRightSaid :=
  OpenClaim.holds_of_wide 6 Try.f6 rfl rfl rfl rfl rfl rfl rfl ⟨rfl, rfl, rfl, rfl, rfl⟩ rfl rfl rfl rfl rfl (by kernel_rfl) Try.func6 facts
    (of_decide_eq_true (by kernel_rfl)) (by unfold Func.isWrapper; first | (rw [if_pos (by decide +kernel)]; kernel_rfl) | (rw [if_neg (by decide +kernel)]; exact ⟨rfl, rfl⟩))
    (fun os started H enc _ => lifted os started H enc)
end Go.Proofs.Ytieeagobedjogaa.fnBeltRight
