/- Part of the proofs of this seat's laws: Draws. No condition. -/
import Derived.Test.YtieeagobedjogaaPlain
import Derived.Test.YtieeagobedjogaaLad
import Derived.Test.YtieeagobedjogaaLac
import Derived.Test.YtieeagobedjogaaLab
import Derived.Test.YtieeagobedjogaaTicks
import Derived.Test.YtieeagobedjogaaLaa
set_option linter.unusedVariables false
set_option linter.unusedSimpArgs false
set_option linter.unusedSectionVars false
/- A computation that gives a result with a property; the cursor of drawn numbers; the laws' own comparisons. -/
namespace Go.Vs
open Go.IntWalk

def Ok {α : Type} (Q : α → Prop) (o : Option α) : Prop := ∃ r, o = some r ∧ Q r
section
variable {α β : Type} {Q : α → Prop} {R : β → Prop}
theorem Ok.ret {r : α} (h : Q r) : Ok Q (some r) := ⟨r, rfl, h⟩
theorem Ok.cl {m : Option β} {k : β → Option α} (h : Ok R m) (hk : ∀ r, R r → Ok Q (k r)) : Ok Q (cl m k) := by
  obtain ⟨r, rfl, hr⟩ := h
  rw [cl_some]; exact hk r hr
theorem Ok.lP {x : β} {k : β → Option α} (h : Ok Q (k x)) : Ok Q (lP x k) := h
theorem Ok.gd {p : Prop} [Decidable p] {k : Option α} (hp : p) (h : Ok Q k) : Ok Q (gd p k) := by rw [gd_true hp]; exact h
theorem Ok.br {c : Bool} {a b : Option α} (h1 : c = true → Ok Q a) (h2 : c = false → Ok Q b) : Ok Q (br c a b) := by
  cases c with
  | true => exact h1 rfl
  | false => exact h2 rfl
theorem Ok.gt {l : List β} {i : Nat} {k : β → Option α} {x : β} (hx : l[i]? = some x) (h : Ok Q (k x)) : Ok Q (gt l i k) := by rw [gt_some hx]; exact h
theorem Ok.mono {Q' : α → Prop} {o : Option α} (h : Ok Q o) (hq : ∀ r, Q r → Q' r) : Ok Q' o := by
  obtain ⟨r, h1, h2⟩ := h; exact ⟨r, h1, hq r h2⟩
end

def CurOk (c : Cur) : Prop := 0 ≤ c.i ∧ c.b.length ≤ 1000000
theorem band255 (a : Int) : 0 ≤ G.real.band .i64 a 255 ∧ G.real.band .i64 a 255 ≤ 255 := by
  have h : (BitVec.ofInt 64 a &&& BitVec.ofInt 64 255).toNat ≤ 255 := by
    rw [BitVec.toNat_and]
    exact Nat.le_trans Nat.and_le_right (by decide)
  have e : G.real.band .i64 a 255 = (((BitVec.ofInt 64 a &&& BitVec.ofInt 64 255).toNat : Nat) : Int) := w64 (n := (((BitVec.ofInt 64 a &&& BitVec.ofInt 64 255).toNat : Nat) : Int)) (by omega) (by omega)
  rw [e]
  omega
theorem l1Byte_ok (c : Cur) (h : CurOk c) : Ok (fun r => 0 ≤ r.1 ∧ r.1 ≤ 255 ∧ CurOk r.2) (S_l1Byte G.real TE.real c) := by
  unfold S_l1Byte
  refine Ok.br (fun hc => ?_) (fun _ => ?_)
  · have hc : c.i < c.b.length := by simpa using hc
    obtain ⟨z, hz, _⟩ := getL h.1 hc
    refine Ok.gd h.1 (Ok.gt (x := z) hz (Ok.ret ⟨(band255 _).1, (band255 _).2, ?_, h.2⟩))
    have h2 := h.1
    have h3 := h.2
    show 0 ≤ G.real.wrap .i64 (c.i + 1)
    rw [w64 (by omega) (by omega)]
    omega
  · exact Ok.ret ⟨(band255 _).1, (band255 _).2, h⟩
theorem l1Below_ok (c : Cur) (h : CurOk c) (n : Int) : Ok (fun r => 0 ≤ r.1 ∧ (0 < n → r.1 < n) ∧ CurOk r.2) (S_l1Below G.real TE.real c n) := by
  unfold S_l1Below
  refine Ok.br (fun hc => ?_) (fun hc => Ok.br (fun _ => ?_) (fun _ => ?_))
  · have hc : n ≤ 0 := by simpa using hc
    exact Ok.ret ⟨Int.le_refl _, fun hn => by omega, h⟩
  · have hc : 0 < n := by simpa using hc
    refine Ok.cl (l1Byte_ok c h) fun x hx => Ok.gd (by omega) (Ok.ret ⟨?_, fun _ => ?_, hx.2.2⟩)
    · exact Int.tmod_nonneg _ hx.1
    · exact Int.tmod_lt_of_pos _ hc
  · have hc : 0 < n := by simpa using hc
    refine Ok.cl (l1Byte_ok c h) fun x hx => Ok.cl (l1Byte_ok _ hx.2.2) fun y hy => Ok.cl (l1Byte_ok _ hy.2.2) fun z hz => Ok.gd (by omega) (Ok.ret ⟨?_, fun _ => ?_, hz.2.2⟩)
    · refine Int.tmod_nonneg _ ?_
      obtain ⟨x1, x2, _⟩ := hx
      obtain ⟨y1, y2, _⟩ := hy
      obtain ⟨z1, z2, _⟩ := hz
      simp only [R_add, R_mul]
      rw [w64 (n := x.1 * 65536) (by omega) (by omega), w64 (n := y.1 * 256) (by omega) (by omega), w64 (n := x.1 * 65536 + y.1 * 256) (by omega) (by omega), w64 (by omega) (by omega)]
      omega
    · exact Int.tmod_lt_of_pos _ hc
theorem l1Once_ok (c : Cur) (h : CurOk c) (n : Int) : Ok (fun r => CurOk r.2) (S_l1Once G.real TE.real c n) := by
  unfold S_l1Once
  exact Ok.cl (l1Below_ok c h n) fun x hx => Ok.ret hx.2.2
theorem l1Int_ok (c : Cur) (h : CurOk c) (l : List Int) (hl : l ≠ []) : Ok (fun r => r.1 ∈ l ∧ CurOk r.2) (S_l1Int G.real TE.real c l) := by
  unfold S_l1Int
  rw [show G.real.llen (TE.real.r_I64 l) = (l.length : Int) from by simp]
  have hp : 0 < l.length := List.length_pos_iff.2 hl
  refine Ok.cl (l1Below_ok c h _) fun x hx => Ok.gd hx.1 ?_
  obtain ⟨z, hz, hm⟩ := getL hx.1 (hx.2.1 (by omega))
  exact Ok.gt hz (Ok.ret ⟨hm, hx.2.2⟩)
theorem at_ok (a : List Int) (hb : ∀ x ∈ a, 0 ≤ x ∧ x ≤ 255) (i : Int) (hi : 0 ≤ i) : Ok (fun r => 0 ≤ r ∧ r ≤ 255) (L_at G.real TE.real a i) := by
  unfold L_at
  refine Ok.br (fun _ => Ok.ret ⟨by omega, by omega⟩) (fun hc => Ok.gd hi ?_)
  have hc : i < a.length := by simpa using hc
  obtain ⟨z, hz, hm⟩ := getL hi hc
  have := hb z hm
  refine Ok.gt hz (Ok.ret ?_)
  rw [w64 (by omega) (by omega)]
  exact this

theorem items_l1 (a : List Item) (ha : a.length ≤ 1048576) : ∀ (l : List Item) (k : Nat), a.drop k = l → L_items_l1 G.real TE.real a l k = some (.out ())
  | [], k, _ => by rw [L_items_l1]
  | z :: l, k, h => by
    obtain ⟨h1, h2, h3, _⟩ := drop_cons h
    rw [L_items_l1]
    simp only [R_nat, Int.toNat_natCast]
    rw [gt_some h2]
    simp only [R_eq, R_all, List.all_cons, List.all_nil, decide_true, id, Bool.and_self, br_t, R_add]
    rw [w64 (by omega) (by omega)]
    exact items_l1 a ha l (k + 1) h3
theorem items_r (a : List Item) (ha : a.length ≤ 1048576) : L_items G.real TE.real a a = some true := by
  unfold L_items
  simp only [R_eq, decide_true, br_t]
  rw [show (0 : Int) = ((0 : Nat) : Int) from rfl, items_l1 a ha a 0 rfl]
  rfl
end Go.Vs
namespace Go.Vs
open Go.IntWalk
theorem newCentre_l1 (r : Int) (l : List Int) : ∀ (w : List Chute), w.length + l.length ≤ 2097152 → I_NewCentre_l1 G.real TE.real r l w = some (w ++ l.map fun k => ⟨k, r, []⟩) ∧ S_NewCentre_l1 G.real TE.real r l w = some (w ++ l.map fun k => ⟨k, r, []⟩) := by
  induction l with
  | nil => intro w _; rw [I_NewCentre_l1, S_NewCentre_l1]; simp
  | cons z l ih =>
    intro w h
    simp only [List.length_cons] at h
    obtain ⟨i1, i2⟩ := ih (w ++ [⟨z, r, []⟩]) (by simp; omega)
    rw [I_NewCentre_l1, S_NewCentre_l1]
    simp only [lP_eq]
    rw [gd_true (by simp; omega), gd_true (by simp; omega), i1, i2]
    simp
theorem newCentre_l2 (l : List Int) : ∀ (w : List Inlet), w.length + l.length ≤ 2097152 → I_NewCentre_l2 G.real TE.real l w = some (w ++ l.map fun k => ⟨k, []⟩) ∧ S_NewCentre_l2 G.real TE.real l w = some (w ++ l.map fun k => ⟨k, []⟩) := by
  induction l with
  | nil => intro w _; rw [I_NewCentre_l2, S_NewCentre_l2]; simp
  | cons z l ih =>
    intro w h
    simp only [List.length_cons] at h
    obtain ⟨i1, i2⟩ := ih (w ++ [⟨z, []⟩]) (by simp; omega)
    rw [I_NewCentre_l2, S_NewCentre_l2]
    simp only [lP_eq]
    rw [gd_true (by simp; omega), gd_true (by simp; omega), i1, i2]
    simp
/-! the reading of a centre, for bigger ones: what is too big is none -/
theorem newCentre_eq (n : Int) (a : List Int) (r : Int) (b p : List Int) (ha : a.length ≤ 1048576) (hb : b.length ≤ 1048576) (hp : p.length ≤ 1048576) :
    ∃ q : Centre × Bool, I_NewCentre G.real TE.real n a r b p = some q ∧ S_NewCentre G.real TE.real n a r b p = some q ∧ q.1.tot ≤ 1048576 := by
  obtain ⟨a1, a2⟩ := newCentre_l1 r a [] (by simp; omega)
  obtain ⟨b1, b2⟩ := newCentre_l2 b [] (by simp; omega)
  unfold I_NewCentre S_NewCentre
  rw [a1, a2, b1, b2, l1Ints_r p (by omega)]
  simp only [cl_some, lP_eq, l1In_r, within_r, br_dec, R_nat, List.nil_append, List.length_nil, Nat.zero_add]
  by_cases h1 : 2 ≤ n ∧ n ≤ 24
  · rw [if_pos h1, if_pos h1, gd_true (by omega), gd_true (by omega), gd_true (by omega)]
    have hch : ∀ l : List Int, sumT (fun y => Chute.tot y) (l.map fun k => ⟨k, r, []⟩) = 0 := by
      intro l
      induction l with
      | nil => rfl
      | cons z l ih => rw [List.map_cons, sumT_cons, ih]; rfl
    have hin : ∀ l : List Int, sumT (fun y => Inlet.tot y) (l.map fun k => ⟨k, []⟩) = 0 := by
      intro l
      induction l with
      | nil => rfl
      | cons z l ih => rw [List.map_cons, sumT_cons, ih]; rfl
    by_cases h2 : a.length + b.length + p.length ≤ 1000000
    · have htot : (Centre.mk (List.replicate n.toNat ⟨0, 0⟩) (a.map fun k => ⟨k, r, []⟩) (b.map fun k => ⟨k, []⟩) p 0).tot ≤ 1048576 := by
        unfold Centre.tot
        simp only [List.length_replicate, List.length_map, hch, hin]
        omega
      rw [iCentre_r _ htot, sCentre_r _ htot]
      simp only [cl_some, br_dec]
      split
      · exact ⟨_, rfl, rfl, htot⟩
      · exact ⟨_, rfl, rfl, by simp [Centre.tot, sumT]⟩
    · have hbig : ∀ c : Centre, c = Centre.mk (List.replicate n.toNat ⟨0, 0⟩) (a.map fun k => ⟨k, r, []⟩) (b.map fun k => ⟨k, []⟩) p 0 → I_IsCentre G.real TE.real c = some false ∧ S_IsCentre G.real TE.real c = some false := by
        intro c hc
        have k1 : c.Belt.length = n.toNat := by rw [hc]; simp
        have k2 : c.Chutes.length = a.length := by rw [hc]; simp
        have k3 : c.Inlets.length = b.length := by rw [hc]; simp
        have k4 : c.Plan.length = p.length := by rw [hc]
        have k5 : ∀ x ∈ c.Chutes, Chute.tot x ≤ 1048576 := by
          intro x hx
          rw [hc] at hx
          simp only [List.mem_map] at hx
          obtain ⟨_, _, rfl⟩ := hx
          simp [Chute.tot]
        have k6 : ∀ x ∈ c.Inlets, Inlet.tot x ≤ 1048576 := by
          intro x hx
          rw [hc] at hx
          simp only [List.mem_map] at hx
          obtain ⟨_, _, rfl⟩ := hx
          simp [Inlet.tot]
        have k7 : c.Now = 0 := by rw [hc]
        have k8 : S_l7All G.real TE.real c = some (itemsOf c) := by
          unfold S_l7All
          have h1 := List.length_filter_le nz c.Belt
          simp only [lP_eq]
          have t1 : sumT (fun y => Chute.tot y) c.Chutes = 0 := by rw [hc]; exact hch a
          have t2 : sumT (fun y => Inlet.tot y) c.Inlets = 0 := by rw [hc]; exact hin b
          rw [sAll_l1 _ _ (by simp; omega), cl_some, sAll_l2 _ _ (by simp; omega), cl_some, sAll_l3 _ _ (by simp only [List.length_append, List.nil_append, flat_tot_ch]; omega), cl_some]
          simp [itemsOf]
        constructor
        · unfold I_IsCentre
          simp only [lP_eq, within_r, llen_Item, llen_Chute, llen_Inlet, llen_I64, br_dec, k1, k2, k3, k4]
          split
          · split
            · split
              · rw [if_neg (by omega)]
              · rfl
            · rfl
          · rfl
        · unfold S_IsCentre
          have e1 := sParts_l1 c (by omega) (by omega) c.Chutes 0 rfl
          have e3 := sParts_l3 c (by omega) (by omega) c.Inlets 0 rfl
          rw [show ((0 : Nat) : Int) = 0 from rfl] at e1 e3
          have e4 : S_l7Parts G.real TE.real c = some false := by
            unfold S_l7Parts
            rw [e1, e3]
            simp only [cl_some, lP_eq, ret_if, sParts_l5 c (by omega), l1In_r, llen_Chute, llen_Inlet, llen_I64, br_dec]
            split
            · split
              · split
                · split
                  · split
                    · congr 1
                      simp only [decide_eq_false_iff_not]
                      omega
                    · rfl
                  · rfl
                · rfl
              · rfl
            · rfl
          simp only [lP_eq, l1In_r, llen_Item, br_dec, e4, cl_some, br_f]
          split <;> rfl
      obtain ⟨g1, g2⟩ := hbig _ rfl
      rw [g1, g2]
      simp only [cl_some, br_f]
      exact ⟨_, rfl, rfl, by simp [Centre.tot, sumT]⟩
  · rw [if_neg h1, if_neg h1]
    exact ⟨_, rfl, rfl, by simp [Centre.tot, sumT]⟩
end Go.Vs
namespace Go.Vs
open Go.IntWalk
theorem feedCentre_eq (c : Centre) (h : c.tot ≤ 1048576) (a : Int) (y : Item) : ∃ r : Centre × Bool, I_FeedCentre G.real TE.real c a y = some r ∧ S_FeedCentre G.real TE.real c a y = some r ∧ r.1.tot ≤ 1048576 ∧ (IsC c → IsC r.1 ∧ r.1.Now = c.Now) := by
  have h0 := h
  obtain ⟨k1, k2⟩ := copy_r c (by omega)
  unfold I_FeedCentre S_FeedCentre
  rw [iCentre_r c h, sCentre_r c h, k1, k2]
  unfold Centre.tot at h
  simp only [cl_some, lP_eq, l1In_r, br_dec, llen_Item, llen_Inlet, dlenx_Inlet, R_lt, R_le, R_sub, R_nat]
  rw [w64 (n := (c.Inlets.length : Int) - 1) (by omega) (by omega)]
  by_cases hc : IsC c
  · simp only [hc, if_true]
    by_cases h2 : 0 ≤ a ∧ a ≤ (c.Inlets.length : Int) - 1
    · rw [if_neg (by omega), if_neg (by omega), if_pos h2]
      obtain ⟨x, hx, hm⟩ := getL (l := c.Inlets) h2.1 (by omega)
      have ht := (hc.inlet hm).2.2
      rw [gt_some hx, gd_true (by omega), gd_true (by simp; omega), gd_true (by omega), gt_some hx, gd_true (by omega), gd_true (by simp; omega), gd_true (by omega)]
      have hs := tot_set_in (y := ⟨x.Cell, x.Wait ++ [y]⟩) hx _ rfl
      have hlen : sumT (fun y => Chute.tot y) c.Chutes ≤ 120 := by
        have h6 := hc.chutes.2
        have : ∀ (l : List Chute), (∀ z ∈ l, Chute.tot z ≤ 20) → sumT (fun y => Chute.tot y) l ≤ 20 * l.length := by
          intro l
          induction l with
          | nil => intro _; simp [sumT]
          | cons z l ih =>
            intro hz
            have := ih (fun x hx => hz x (by simp [hx]))
            have := hz z (by simp)
            rw [sumT_cons, List.length_cons]; omega
        have := this c.Chutes (fun z hz => by have := hc.cell hz; unfold Chute.tot; omega)
        omega
      have hlen2 : sumT (fun y => Inlet.tot y) c.Inlets ≤ 80 := by
        have h6 := hc.inlets.2
        have : ∀ (l : List Inlet), (∀ z ∈ l, Inlet.tot z ≤ 20) → sumT (fun y => Inlet.tot y) l ≤ 20 * l.length := by
          intro l
          induction l with
          | nil => intro _; simp [sumT]
          | cons z l ih =>
            intro hz
            have := ih (fun x hx => hz x (by simp [hx]))
            have := hz z (by simp)
            rw [sumT_cons, List.length_cons]; omega
        have := this c.Inlets (fun z hz => by have := hc.inlet hz; unfold Inlet.tot; omega)
        omega
      have hb := hc.belt.2
      have hp := hc.plan.2
      have hi := hc.inlets.2
      have hch := hc.chutes.2
      have htot : (Centre.mk c.Belt c.Chutes (c.Inlets.set a.toNat ⟨x.Cell, x.Wait ++ [y]⟩) c.Plan c.Now).tot ≤ 1048576 := by
        unfold Centre.tot
        simp only [List.length_set]
        simp only [Inlet.tot, List.length_append, List.length_cons, List.length_nil] at *
        omega
      rw [iCentre_r _ htot, sCentre_r _ htot]
      simp only [cl_some, br_dec]
      split
      · rename_i hq; exact ⟨_, rfl, rfl, htot, fun _ => ⟨hq, rfl⟩⟩
      · exact ⟨_, rfl, rfl, h0, fun _ => ⟨hc, rfl⟩⟩
    · rw [if_neg h2]
      refine ⟨(c, false), ?_, rfl, h0, fun _ => ⟨hc, rfl⟩⟩
      split
      · rfl
      · rw [if_pos (by omega)]
  · simp only [hc, if_false]
    exact ⟨_, rfl, rfl, h0, fun hh => absurd hh id⟩
end Go.Vs
/- What the laws draw: a centre that is valid, or one step off. -/
namespace Go.Vs
open Go.IntWalk

/-- cells chosen up to v -/
structure J1 (a m : Int) (v : Int) (w : List Int) : Prop where
  rng : ∀ x ∈ w, 0 ≤ x ∧ x < v
  nd : w.Nodup
  len : (w.length : Int) ≤ m
  some : a < v → w ≠ []
theorem J1.add {a m v : Int} {w : List Int} (h : J1 a m v w) (h0 : 0 ≤ v) (hl : (w.length : Int) < m) : J1 a m (v + 1) (w ++ [v]) := by
  refine ⟨fun x hx => ?_, ?_, by simp; omega, fun _ => by simp⟩
  · rcases List.mem_append.1 hx with hx | hx
    · have := h.rng x hx; omega
    · simp at hx; omega
  · rw [List.nodup_append]
    refine ⟨h.nd, by simp, fun x hx y hy => ?_⟩
    have := h.rng x hx
    simp at hy
    omega
theorem J1.skip {a m v : Int} {w : List Int} (h : J1 a m v w) (hne : v = a → w ≠ []) : J1 a m (v + 1) w :=
  ⟨fun x hx => by have := h.rng x hx; omega, h.nd, h.len, fun hv => by
    by_cases e : v = a
    · exact hne e
    · exact h.some (by omega)⟩
def Q1 (m : Int) (r : List Int × Int × Int × List Int × List Int) : Prop := CurOk ⟨r.1, r.2.1, r.2.2.1⟩ ∧ J1 1 4 m r.2.2.2.1 ∧ J1 2 3 m r.2.2.2.2
theorem draw_l1 : ∀ (n : Nat) (v : Int) (c : Cur) (w1 w2 : List Int), CurOk c → 0 ≤ v → v + n ≤ 100 → J1 1 4 v w1 → J1 2 3 v w2 →
    Ok (Q1 (v + n)) (S_l7Draw_l1 G.real TE.real n v c.b c.i c.h w1 w2)
  | 0, v, c, w1, w2, hc, h0, hn, h1, h2 => by
    rw [S_l7Draw_l1]
    exact Ok.ret ⟨hc, by simpa using h1, by simpa using h2⟩
  | n + 1, v, c, w1, w2, hc, h0, hn, h1, h2 => by
    have ew : G.real.wrap .i64 (G.real.add v 1) = v + 1 := w64 (n := v + 1) (by omega) (by omega)
    have ih := fun (c' : Cur) (a b : List Int) (hc' : CurOk c') (ha : J1 1 4 (v + 1) a) (hb : J1 2 3 (v + 1) b) => draw_l1 n (v + 1) c' a b hc' (by omega) (by omega) ha hb
    rw [show v + 1 + (n : Int) = v + ((n + 1 : Nat) : Int) from by omega] at ih
    have hl1 := h1.len
    have hl2 := h2.len
    -- the second choice
    have ph2 : ∀ (c' : Cur) (a : List Int), CurOk c' → J1 1 4 (v + 1) a → Ok (Q1 (v + ((n + 1 : Nat) : Int)))
        (br (G.real.lt (G.real.int (G.real.dlen (TE.real.d_I64 w2))) 3)
          (cl (S_l1Once G.real TE.real (Cur.mk c'.b c'.i c'.h) 4) fun x3 =>
            br x3.1
              (lP ([v]) fun (l6 : List Int) =>
                gd (((w2.length + l6.length) * 8 ≤ 70368744177664)) <|
                lP (w2 ++ l6) fun (l7 : List Int) =>
                S_l7Draw_l1 G.real TE.real n (G.real.wrap .i64 (G.real.add v 1)) x3.2.b x3.2.i x3.2.h a l7)
              (br (G.real.eq v 2)
                (br (G.real.eq (G.real.int (G.real.dlen (TE.real.d_I64 w2))) 0)
                  (lP ([v]) fun (l8 : List Int) =>
                    gd (((w2.length + l8.length) * 8 ≤ 70368744177664)) <|
                    lP (w2 ++ l8) fun (l9 : List Int) =>
                    S_l7Draw_l1 G.real TE.real n (G.real.wrap .i64 (G.real.add v 1)) x3.2.b x3.2.i x3.2.h a l9)
                  (S_l7Draw_l1 G.real TE.real n (G.real.wrap .i64 (G.real.add v 1)) x3.2.b x3.2.i x3.2.h a w2))
                (S_l7Draw_l1 G.real TE.real n (G.real.wrap .i64 (G.real.add v 1)) x3.2.b x3.2.i x3.2.h a w2)))
          (S_l7Draw_l1 G.real TE.real n (G.real.wrap .i64 (G.real.add v 1)) c'.b c'.i c'.h a w2)) := by
      intro c' a hc' ha
      rw [ew]
      refine Ok.br (fun hb => ?_) (fun hb => ?_)
      · have hb : (w2.length : Int) < 3 := by simpa using hb
        refine Ok.cl (l1Once_ok _ hc' 4) fun x hx => Ok.br (fun _ => ?_) (fun _ => ?_)
        · refine Ok.lP (Ok.gd (by simp only [List.length_cons, List.length_nil]; omega) (Ok.lP (ih x.2 a _ hx ha (h2.add h0 hb))))
        · refine Ok.br (fun hv => Ok.br (fun he => ?_) (fun he => ?_)) (fun hv => ?_)
          · refine Ok.lP (Ok.gd (by simp only [List.length_cons, List.length_nil]; omega) (Ok.lP (ih x.2 a _ hx ha (h2.add h0 hb))))
          · have he : w2 ≠ [] := by simpa using he
            exact ih x.2 a w2 hx ha (h2.skip fun _ => he)
          · have hv : v ≠ 2 := by simpa using hv
            exact ih x.2 a w2 hx ha (h2.skip fun e => absurd e hv)
      · have hb : ¬ (w2.length : Int) < 3 := by simpa using hb
        exact ih c' a w2 hc' ha (h2.skip fun _ e => by rw [e] at hb; simp at hb)
    rw [S_l7Draw_l1]
    refine Ok.br (fun hb => ?_) (fun hb => ?_)
    · have hb : (w1.length : Int) < 4 := by simpa using hb
      refine Ok.cl (l1Once_ok _ hc 3) fun x hx => Ok.br (fun _ => ?_) (fun _ => ?_)
      · exact Ok.lP (Ok.gd (by simp only [List.length_cons, List.length_nil]; omega) (Ok.lP (ph2 x.2 _ hx (h1.add h0 hb))))
      · refine Ok.br (fun hv => Ok.br (fun he => ?_) (fun he => ?_)) (fun hv => ?_)
        · exact Ok.lP (Ok.gd (by simp only [List.length_cons, List.length_nil]; omega) (Ok.lP (ph2 x.2 _ hx (h1.add h0 hb))))
        · have he : w1 ≠ [] := by simpa using he
          exact ph2 x.2 w1 hx (h1.skip fun _ => he)
        · have hv : v ≠ 1 := by simpa using hv
          exact ph2 x.2 w1 hx (h1.skip fun e => absurd e hv)
    · have hb : ¬ (w1.length : Int) < 4 := by simpa using hb
      exact ph2 c w1 hc (h1.skip fun _ e => by rw [e] at hb; simp at hb)

theorem draw_l2 (y : List Int × Int × Int × List Int × List Int) (hy : 0 < y.2.2.2.1.length) : ∀ (k n : Nat) (c : Cur) (w : List Int), k < n → CurOk c → w.length + k ≤ 8 → (∀ x ∈ w, 0 ≤ x ∧ x < y.2.2.2.1.length) →
    Ok (fun r => CurOk ⟨r.1, r.2.1, r.2.2.1⟩ ∧ r.2.2.2.length = w.length + k ∧ ∀ x : Int, x ∈ r.2.2.2 → 0 ≤ x ∧ x < (y.2.2.2.1.length : Int)) (S_l7Draw_l2 G.real TE.real y n c.b c.i c.h w (k : Int))
  | k, 0, c, w, hk, _, _, _ => absurd hk (by omega)
  | 0, n + 1, c, w, hk, hc, hl, hw => by
    rw [S_l7Draw_l2]
    exact Ok.ret ⟨hc, rfl, hw⟩
  | k + 1, n + 1, c, w, hk, hc, hl, hw => by
    rw [S_l7Draw_l2]
    refine Ok.br (fun _ => ?_) (fun hb => absurd hb (by simp))
    refine Ok.cl (l1Below_ok _ hc _) fun x hx => Ok.lP (Ok.gd (by simp only [List.length_cons, List.length_nil]; omega) (Ok.lP ?_))
    rw [show G.real.wrap .i64 (G.real.sub ((k + 1 : Nat) : Int) 1) = (k : Int) from by rw [R_sub, w64 (by omega) (by omega)]; omega]
    have hx2 : x.1 < y.2.2.2.1.length := by
      have := hx.2.1
      simp only [R_int, dlenx_I64] at this
      exact this (by omega)
    refine (draw_l2 y hy k n x.2 _ (by omega) hx.2.2 (by simp; omega) (fun z hz => ?_)).mono fun r hr => ⟨hr.1, by rw [hr.2.1]; simp; omega, hr.2.2⟩
    rcases List.mem_append.1 hz with hz | hz
    · exact hw z hz
    · simp at hz; subst hz; exact ⟨hx.1, hx2⟩

theorem new_ok {n r : Int} {a b p : List Int} (hn : 3 ≤ n ∧ n ≤ 24) (ha : J1 1 4 n a) (hb : J1 2 3 n b) (hr : 1 ≤ r ∧ r ≤ 20) (hp : 1 ≤ p.length ∧ p.length ≤ 8) (hp2 : ∀ x ∈ p, 0 ≤ x ∧ x < a.length) :
    Ok (fun q => IsC q.1 ∧ q.1.Now = 0) (S_NewCentre G.real TE.real n a r b p) := by
  have la := ha.len
  have lb := hb.len
  have na : 0 < a.length := List.length_pos_iff.2 (ha.some (by omega))
  have nb : 0 < b.length := List.length_pos_iff.2 (hb.some (by omega))
  obtain ⟨_, a2⟩ := newCentre_l1 r a [] (by simp; omega)
  obtain ⟨_, b2⟩ := newCentre_l2 b [] (by simp; omega)
  unfold S_NewCentre
  rw [a2, b2, l1Ints_r p (by omega)]
  simp only [cl_some, lP_eq, l1In_r, br_dec, R_nat, List.nil_append, List.length_nil, Nat.zero_add]
  rw [if_pos (by omega), gd_true (by omega)]
  have hi : IsC (Centre.mk (List.replicate n.toNat ⟨0, 0⟩) (a.map fun k => ⟨k, r, []⟩) (b.map fun k => ⟨k, []⟩) p 0) := by
    have hit : itemsOf (Centre.mk (List.replicate n.toNat ⟨0, 0⟩) (a.map fun k => ⟨k, r, []⟩) (b.map fun k => ⟨k, []⟩) p 0) = [] := by
      unfold itemsOf
      simp only [List.append_eq_nil_iff, List.filter_eq_nil_iff, List.flatMap_eq_nil_iff, List.mem_replicate, List.mem_map]
      refine ⟨fun x hx => by rw [hx.2]; simp [nz], fun x hx => ?_, fun x hx => ?_⟩
      · obtain ⟨_, _, rfl⟩ := hx; rfl
      · obtain ⟨_, _, rfl⟩ := hx; rfl
    refine ⟨by simp; omega, by simp; omega, by simp; omega, by simp; omega, by simp, fun x hx => ?_, ?_, fun x hx => ?_, ?_, fun x hx => ?_, by rw [hit]; simp, by rw [hit]; simp⟩
    · simp only [List.mem_map] at hx
      obtain ⟨k, hk, rfl⟩ := hx
      have := ha.rng k hk
      simp [chOk]; omega
    · simp only [List.map_map]
      rw [show (Chute.Cell ∘ fun k => (⟨k, r, []⟩ : Chute)) = id from rfl, List.map_id]
      exact ha.nd
    · simp only [List.mem_map] at hx
      obtain ⟨k, hk, rfl⟩ := hx
      have := hb.rng k hk
      simp [inOk]; omega
    · simp only [List.map_map]
      rw [show (Inlet.Cell ∘ fun k => (⟨k, []⟩ : Inlet)) = id from rfl, List.map_id]
      exact hb.nd
    · have := hp2 x hx
      simp [plOk]; omega
  have htot : (Centre.mk (List.replicate n.toNat ⟨0, 0⟩) (a.map fun k => ⟨k, r, []⟩) (b.map fun k => ⟨k, []⟩) p 0).tot ≤ 1048576 := by have := hi.d.tot; omega
  rw [sCentre_r _ htot]
  simp only [cl_some, br_dec]
  rw [if_pos hi]
  exact ⟨_, rfl, hi, rfl⟩

theorem draw_l3 (y1 : List Int × Int × Int × List Int × List Int) (y2 : List Int × Int × Int × List Int) : ∀ (k n : Nat) (c : Cur) (x : Centre) (v : Int), k < n → k ≤ 100 → CurOk c → IsC x →
    Ok (fun r => CurOk ⟨r.1, r.2.1, r.2.2.1⟩ ∧ IsC ⟨r.2.2.2.1, r.2.2.2.2.1, r.2.2.2.2.2.1, r.2.2.2.2.2.2.1, r.2.2.2.2.2.2.2⟩ ∧ r.2.2.2.2.2.2.2 = x.Now) (S_l7Draw_l3 G.real TE.real y1 y2 n c.b c.i c.h x.Belt x.Chutes x.Inlets x.Plan x.Now v (k : Int))
  | k, 0, c, x, v, hk, _, _, _ => absurd hk (by omega)
  | 0, n + 1, c, x, v, hk, _, hc, hx => by
    rw [S_l7Draw_l3]
    exact Ok.ret ⟨hc, hx, rfl⟩
  | k + 1, n + 1, c, x, v, hk, hk8, hc, hx => by
    rw [S_l7Draw_l3]
    refine Ok.br (fun _ => ?_) (fun hb => absurd hb (by simp))
    refine Ok.cl (l1Below_ok _ hc _) fun p hp => Ok.cl (l1Below_ok p.2 hp.2.2 _) fun q hq => Ok.cl (l1Below_ok q.2 hq.2.2 _) fun s hs => ?_
    rw [show G.real.wrap .i64 (G.real.sub ((k + 1 : Nat) : Int) 1) = (k : Int) from by rw [R_sub, w64 (by omega) (by omega)]; omega]
    obtain ⟨r, _, e2, e3, e4⟩ := feedCentre_eq x (by have := hx.d.tot; omega) q.1 (Item.mk (G.real.wrap .i64 (G.real.add (G.real.wrap .i64 (G.real.add v 1)) p.1)) s.1)
    rw [show (Centre.mk x.Belt x.Chutes x.Inlets x.Plan x.Now) = x from rfl, e2, cl_some]
    obtain ⟨f1, f2⟩ := e4 hx
    exact (draw_l3 y1 y2 k n s.2 r.1 _ (by omega) (by omega) hs.2.2 f1).mono fun z hz => ⟨hz.1, hz.2.1, hz.2.2.trans f2⟩

theorem draw_ok (c : Cur) (hc : CurOk c) : Ok (fun r => IsC r.1 ∧ r.1.Now ≤ 11 ∧ CurOk r.2) (S_l7Draw G.real TE.real c) := by
  unfold S_l7Draw
  refine Ok.cl (l1Below_ok c hc 8) fun x1 h1 => ?_
  have r1 := h1.1
  have r2 := h1.2.1 (by omega)
  have e1 : G.real.wrap .i64 (G.real.add 3 x1.1) = 3 + x1.1 := w64 (n := 3 + x1.1) (by omega) (by omega)
  rw [e1]
  refine Ok.lP (Ok.lP (Ok.lP (Ok.gd (by omega) ?_)))
  have en : cntLt 0 (3 + x1.1) = (3 + x1.1).toNat := by unfold cntLt; omega
  have hj : ∀ a m : Int, 0 ≤ a → 0 ≤ m → J1 a m 0 [] := fun a m ha hm => ⟨by simp, by simp, by simpa using hm, fun h => by omega⟩
  rw [en]
  refine Ok.cl (draw_l1 (3 + x1.1).toNat 0 x1.2 [] [] h1.2.2 (by omega) (by omega) (hj 1 4 (by omega) (by omega)) (hj 2 3 (by omega) (by omega))) fun y1 hy => ?_
  obtain ⟨hy1, ha, hb⟩ := hy
  rw [show (0 : Int) + ((3 + x1.1).toNat : Int) = 3 + x1.1 from by omega] at ha hb
  have na : 0 < y1.2.2.2.1.length := List.length_pos_iff.2 (ha.some (by omega))
  refine Ok.cl (l1Below_ok _ hy1 5) fun x8 h8 => ?_
  have s1 := h8.1
  have s2 := h8.2.1 (by omega)
  have e8 : G.real.wrap .i64 (G.real.add 1 x8.1) = (((1 + x8.1).toNat : Nat) : Int) := by
    rw [show G.real.wrap .i64 (G.real.add 1 x8.1) = 1 + x8.1 from w64 (n := 1 + x8.1) (by omega) (by omega)]; omega
  rw [e8]
  refine Ok.cl (draw_l2 y1 na (1 + x8.1).toNat 1000000000 x8.2 [] (by omega) h8.2.2 (by simp; omega) (by simp)) fun y2 hy2 => ?_
  obtain ⟨hc2, hl2, hp2⟩ := hy2
  simp only [List.length_nil, Nat.zero_add] at hl2
  refine Ok.cl (l1Below_ok _ hc2 6) fun x10 h10 => ?_
  have t1 := h10.1
  have t2 := h10.2.1 (by omega)
  have e10 : G.real.wrap .i64 (G.real.add 1 x10.1) = 1 + x10.1 := w64 (n := 1 + x10.1) (by omega) (by omega)
  rw [e10]
  refine Ok.cl (new_ok ⟨by omega, by omega⟩ ha hb ⟨by omega, by omega⟩ ⟨by omega, by omega⟩ hp2) fun x11 h11 => ?_
  refine Ok.cl (l1Below_ok _ h10.2.2 9) fun x12 h12 => ?_
  have u1 := h12.1
  have u2 := h12.2.1 (by omega)
  rw [show x12.1 = ((x12.1.toNat : Nat) : Int) from by omega]
  refine Ok.cl (draw_l3 y1 y2 x12.1.toNat 1000000000 x12.2 x11.1 0 (by omega) (by omega) h12.2.2 h11.1) fun y3 hy3 => ?_
  obtain ⟨k1, k2, k3⟩ := hy3
  refine Ok.cl (l1Below_ok _ k1 12) fun x17 h17 => ?_
  have v1 := h17.1
  have v2 := h17.2.1 (by omega)
  obtain ⟨r, _, q2, q3, q4, _⟩ := runCentre_eq ⟨y3.2.2.2.1, y3.2.2.2.2.1, y3.2.2.2.2.2.1, y3.2.2.2.2.2.2.1, y3.2.2.2.2.2.2.2⟩ (by have := k2.d.tot; omega) x17.1
  rw [q2, cl_some]
  have hnow : y3.2.2.2.2.2.2.2 = 0 := k3.trans h11.2
  have e := q4 k2 ⟨by omega, by omega⟩ (by simp only; omega)
  have hD := runD x17.1.toNat k2.d
  have hN := run_now x17.1.toNat ⟨y3.2.2.2.1, y3.2.2.2.2.1, y3.2.2.2.2.2.1, y3.2.2.2.2.2.2.1, y3.2.2.2.2.2.2.2⟩
  simp only at hN
  refine Ok.ret ⟨?_, ?_, h17.2.2⟩
  · rw [e]; exact hD.c (by omega)
  · rw [e]
    show (runP _ _).Now ≤ 11
    rw [hN]
    omega

/-- what any draw leaves: a centre not too big -/
theorem any_ok (c : Cur) (hc : CurOk c) : Ok (fun r => r.1.tot ≤ 1048576 ∧ CurOk r.2) (S_l7Any G.real TE.real c) := by
  unfold S_l7Any
  refine Ok.cl (draw_ok c hc) fun x1 h1 => ?_
  obtain ⟨hi, hn, hc1⟩ := h1
  have ht := hi.d.tot
  have lb := hi.belt
  have lc := hi.chutes
  have li := hi.inlets
  have lp := hi.plan
  simp only [R_int, dlenx_Item, dlenx_Chute, dlenx_Inlet, dlenx_I64, R_nat]
  refine Ok.cl (l1Below_ok _ hc1 12) fun x2 h2 => ?_
  have tb : ∀ l : List Item, l.length = x1.1.Belt.length → (Centre.mk l x1.1.Chutes x1.1.Inlets x1.1.Plan x1.1.Now).tot ≤ 1048576 := fun l hl => by
    unfold Centre.tot at *; simp only; omega
  have tp : ∀ l : List Int, l.length = x1.1.Plan.length → (Centre.mk x1.1.Belt x1.1.Chutes x1.1.Inlets l x1.1.Now).tot ≤ 1048576 := fun l hl => by
    unfold Centre.tot at *; simp only; omega
  have tch : ∀ (i : Nat) (x y : Chute), x1.1.Chutes[i]? = some x → y.Held = x.Held → (Centre.mk x1.1.Belt (x1.1.Chutes.set i y) x1.1.Inlets x1.1.Plan x1.1.Now).tot ≤ 1048576 := fun i x y hx hy => by
    have := tot_set_ch (y := y) hx _ rfl
    have e : Chute.tot y = Chute.tot x := by unfold Chute.tot; rw [hy]
    unfold Centre.tot at *; simp only [List.length_set]; omega
  have tin : ∀ (i : Nat) (x y : Inlet), x1.1.Inlets[i]? = some x → y.Wait.length ≤ x.Wait.length + 1 → (Centre.mk x1.1.Belt x1.1.Chutes (x1.1.Inlets.set i y) x1.1.Plan x1.1.Now).tot ≤ 1048576 := fun i x y hx hy => by
    have := tot_set_in (y := y) hx _ rfl
    have e : Inlet.tot y ≤ Inlet.tot x + 1 := by unfold Inlet.tot; omega
    unfold Centre.tot at *; simp only [List.length_set]; omega
  have tn : ∀ n : Int, (Centre.mk x1.1.Belt x1.1.Chutes x1.1.Inlets x1.1.Plan n).tot ≤ 1048576 := fun n => by
    unfold Centre.tot at *; simp only; omega
  refine Ok.br (fun _ => ?_) fun _ => Ok.br (fun _ => ?_) fun _ => Ok.br (fun _ => ?_) fun _ => Ok.br (fun _ => ?_) fun _ => Ok.br (fun _ => ?_) fun _ => Ok.br (fun _ => ?_) fun _ => Ok.br (fun _ => ?_) fun _ => Ok.br (fun _ => ?_) fun _ => ?_
  · refine Ok.cl (l1Below_ok _ h2.2.2 _) fun x3 h3 => Ok.lP (Ok.cl (l1Int_ok _ h3.2.2 _ (by simp)) fun x4 h4 => Ok.lP (Ok.cl (l1Int_ok _ h4.2 _ (by simp)) fun x5 h5 => ?_))
    have hr := h3.2.1 (by omega)
    obtain ⟨z, hz, _⟩ := getL h3.1 hr
    exact Ok.gd ⟨h3.1, hr⟩ (Ok.gt hz (Ok.lP (Ok.ret ⟨tb _ (by simp), h5.2⟩)))
  · refine Ok.cl (l1Below_ok _ h2.2.2 _) fun x3 h3 => Ok.lP (Ok.cl (l1Int_ok _ h3.2.2 _ (by simp)) fun x4 h4 => ?_)
    have hr := h3.2.1 (by omega)
    obtain ⟨z, hz, _⟩ := getL h3.1 hr
    exact Ok.gd ⟨h3.1, hr⟩ (Ok.gt hz (Ok.lP (Ok.ret ⟨tch _ _ _ hz rfl, h4.2⟩)))
  · refine Ok.cl (l1Below_ok _ h2.2.2 _) fun x3 h3 => Ok.lP (Ok.cl (l1Int_ok _ h3.2.2 _ (by simp)) fun x4 h4 => ?_)
    have hr := h3.2.1 (by omega)
    obtain ⟨z, hz, _⟩ := getL h3.1 hr
    exact Ok.gd ⟨h3.1, hr⟩ (Ok.gt hz (Ok.lP (Ok.ret ⟨tch _ _ _ hz rfl, h4.2⟩)))
  · refine Ok.cl (l1Below_ok _ h2.2.2 _) fun x3 h3 => Ok.lP (Ok.cl (l1Int_ok _ h3.2.2 _ (by simp)) fun x4 h4 => ?_)
    have hr := h3.2.1 (by omega)
    obtain ⟨z, hz, _⟩ := getL h3.1 hr
    exact Ok.gd ⟨h3.1, hr⟩ (Ok.gt hz (Ok.lP (Ok.ret ⟨tin _ _ _ hz (by simp), h4.2⟩)))
  · refine Ok.cl (l1Below_ok _ h2.2.2 _) fun x3 h3 => Ok.lP (Ok.cl (l1Int_ok _ h3.2.2 _ (by simp)) fun x4 h4 => ?_)
    have hr := h3.2.1 (by omega)
    obtain ⟨z, hz, _⟩ := getL h3.1 hr
    exact Ok.gd ⟨h3.1, hr⟩ (Ok.gt hz (Ok.lP (Ok.ret ⟨tp _ (by simp), h4.2⟩)))
  · exact Ok.lP (Ok.cl (l1Int_ok _ h2.2.2 _ (by simp)) fun x4 h4 => Ok.ret ⟨tn _, h4.2⟩)
  · obtain ⟨z, hz, hm⟩ := getL (l := x1.1.Inlets) (i := 0) (by omega) (by omega)
    have hw := (hi.inlet hm).2.2
    refine Ok.gt hz (Ok.gd ⟨by omega, by omega⟩ (Ok.cl (l1Below_ok _ h2.2.2 _) fun x3 h3 => Ok.lP (Ok.gd (by simp only [List.length_cons, List.length_nil]; omega) (Ok.lP (Ok.gd ⟨by omega, by omega⟩ (Ok.lP (Ok.ret ⟨tin _ _ _ hz (by simp), h3.2.2⟩)))))))
  · exact Ok.lP (Ok.ret ⟨by unfold Centre.tot at *; simp only [List.length_nil, show sumT (fun y => Inlet.tot y) ([] : List Inlet) = 0 from rfl]; omega, h2.2.2⟩)
  · exact Ok.ret ⟨tn _, h2.2.2⟩
end Go.Vs
/- The draws of the laws' own functions. -/
namespace Go.Vs
open Go.IntWalk
theorem new_cur (a : List Int) (h : a.length ≤ 1000000) : CurOk (S_l1New G.real TE.real a) := ⟨Int.le_refl _, h⟩
theorem run_add : ∀ (m n : Nat) (c : Centre), runP n (runP m c) = runP (m + n) c
  | 0, n, c => by simp [runP]
  | m + 1, n, c => by rw [show m + 1 + n = (m + n) + 1 from by omega, runP, runP, run_add m n]
theorem big_or {a : List Int} : (L_big G.real TE.real a = true) ∨ (L_big G.real TE.real a = false ∧ a.length ≤ 4096) := by
  unfold L_big
  by_cases h : a.length ≤ 4096
  · right; exact ⟨by simp; omega, h⟩
  · left; simp; omega
/-- a law says true -/
def Tr (o : Option Bool) : Prop := Ok (fun r => r = true) o
theorem Tr.eq {o : Option Bool} (h : Tr o) : o = some true := by
  obtain ⟨r, h1, h2⟩ := h; rw [h1, h2]
theorem Tr.big {a : List Int} {k : Option Bool} (h : a.length ≤ 4096 → Tr k) : Tr (lP (L_big G.real TE.real a) fun x => br x (some true) k) := by
  rcases big_or (a := a) with e | ⟨e, hl⟩
  · rw [e]; exact Ok.ret rfl
  · rw [e]; exact h hl
end Go.Vs
